/-
  10 texts of the proof, in one file: no condition.
-/
import Derived.Test.YtpndglghpojjkaaGreatRows
import Derived.ProofKit
import Derived.OpenShut
import Derived.Deep.Matrix
import Derived.Deep.QuietTactic
import Derived.BigQuiet
import Derived.StillTailTactics
import Derived.IntWalk
import Derived.Test.YtpndglghpojjkaaGreatPua1
set_option maxRecDepth 1000000
set_option maxHeartbeats 8000000
namespace Go.Proofs.YtpndglghpojjkaaGreat
structure Stp (C:PC) (s s2:PS):Prop where
 i1:s.i≤s2.i
 i2:s.i≤C.tk.length→s2.i≤C.tk.length
 dp:s2.deep=s.deep
 er:s.e≠0→s2.e≠0
 nn:(s.n≤201∧(s.e=0→s.n≤200))→(s2.n≤201∧(s2.e=0→s2.n≤200))
 pl:∀M,(∀t∈C.tk,t.at_≤M)→C.end_≤M→s.at_≤M→s2.at_≤M
 ec:s.e≤100→s2.e≤100
section
variable {C:PC} {s s2 s3:PS}
theorem Stp.refl (s:PS):Stp C s s:=⟨Nat.le_refl _,id,rfl,id,id,fun _ _ _ h=>h,id⟩
theorem Stp.trans (h:Stp C s s2) (h2:Stp C s2 s3):Stp C s s3:=
 ⟨Nat.le_trans h.i1 h2.i1,fun x=>h2.i2 (h.i2 x),h2.dp.trans h.dp,fun x=>h2.er (h.er x),fun x=>h2.nn (h.nn x),fun M a b c=>h2.pl M a b (h.pl M a b c),fun x=>h2.ec (h.ec x)⟩
theorem Stp.fail (k:Nat) (hk:k≠0∧k≤100) (s:PS):Stp C s (bT C k s):=by
 unfold bT;by_cases h:s.e=0
 ·rw[if_pos h];refine⟨Nat.le_refl _,id,rfl,fun x=>absurd h x,fun x=>⟨x.1,fun y=>absurd y hk.1⟩,fun M a b c=> ?_,fun _=>hk.2⟩;show(match C.tk[s.i]? with|some t=>t.at_|none=>C.end_)≤M;split
  ·rename_i t ht;exact a t (List.mem_of_getElem? ht)
  ·exact b
 ·rw[if_neg h];exact Stp.refl s
theorem Stp.next (h:s.i<C.tk.length):Stp C s s.next:=⟨Nat.le_succ _,fun _=>h,rfl,id,id,fun _ _ _ x=>x,id⟩
theorem dD {t:List UInt8} (h:isF C t s=true):s.i<C.tk.length:=by
 unfold isF at h
 cases hx:C.tk[s.i]? with
 |none=>rw[hx]at h;simp at h
 |some x=>exact(List.getElem?_eq_some_iff.1 hx).1
theorem DX {t:List UInt8} (h:isF C t s=true):s.e=0:=by
 unfold isF at h;simp at h;exact h.1
theorem uK (h:cu C s=true):s.i<C.tk.length:=by
 unfold cu at h
 cases hx:C.tk[s.i]? with
 |none=>rw[hx]at h;simp at h
 |some x=>exact(List.getElem?_eq_some_iff.1 hx).1
theorem Stp.is_ {t:List UInt8} (h:isF C t s=true):Stp C s s.next:=Stp.next (dD h)
theorem Stp.CO (t:List UInt8) (s:PS):Stp C s (gq C t s).2:=by
 unfold gq;split
 ·exact Stp.is_ ‹_›
 ·exact Stp.refl s
theorem Stp.want (t:List UInt8) (s:PS):Stp C s (aY C t s):=by
 unfold aY;split
 ·exact Stp.is_ ‹_›
 ·exact Stp.fail 51 (by decide) s
theorem Stp.name (s:PS):Stp C s (aK C s).2:=by
 unfold aK;split
 ·exact Stp.next (uK ‹_›)
 ·exact Stp.fail 51 (by decide) s
theorem iK (h:(aV C s).1=true):(aV C s).2={s with deep:=s.deep+1}∧s.e=0∧s.deep<40:=by
 unfold aV at h⊢;split at h
 ·cases h
 ·split at h
  ·cases h
  ·rw[if_neg ‹_›,if_neg ‹_›];exact⟨rfl,by omega,by omega⟩
theorem Stp.nY (h:(aV C s).1=false):Stp C s (aV C s).2:=by
 unfold aV at h⊢;split
 ·exact Stp.refl s
 ·split
  ·exact Stp.fail 52 (by decide) s
  ·rw[if_neg ‹_›,if_neg ‹_›]at h;cases h
theorem Stp.bracket {t:List UInt8} (hi:isF C t s=true) (h:(aV C s).1=true) (h2:Stp C (aV C s).2.next s2):Stp C s s2.shut:=by
 obtain⟨e,_,_⟩:=iK h;rw[e]at h2;have hlt:=dD hi;have a1:=h2.i1;have a2:=h2.dp;simp only[PS.next]at a1 a2;refine⟨by simp only[PS.shut];omega,fun _=>h2.i2 hlt,?_,fun x=>h2.er x,fun x=>h2.nn x,fun M a b c=>h2.pl M a b c,fun x=>h2.ec x⟩;simp only[PS.shut];omega
theorem zG {sum un:PS→Ex×PS} (hs:∀s,Stp C s (sum s).2) (hu:∀s,Stp C s (un s).2) (s:PS):Stp C s (unF C sum un s).2:=by
 unfold unF;split
 ·exact Stp.fail 51 (by decide) s
 ·split
  ·exact Stp.fail 51 (by decide) s
  ·rename_i x hx;split
   ·split
    ·exact Stp.bracket ‹isF C [45] s=true› ‹_› (hu _)
    ·exact Stp.nY (by simpa using ‹¬(aV C s).1=true›)
   ·split
    ·split
     ·exact Stp.bracket ‹isF C [40] s=true› ‹_› ((hs _).trans (Stp.want _ _))
     ·exact Stp.nY (by simpa using ‹¬(aV C s).1=true›)
    ·split
     ·exact Stp.next (List.getElem?_eq_some_iff.1 hx).1
     ·split
      ·exact Stp.name s
      ·exact Stp.fail 51 (by decide) s
theorem Dp (h:gW C s≠0):s.i<C.tk.length:=by
 unfold gW at h;split at h
 ·exact dD ‹_›
 ·split at h
  ·exact dD ‹_›
  ·split at h
   ·exact dD ‹_›
   ·exact absurd rfl h
theorem EM (h:kS C s≠0):s.i<C.tk.length:=by
 unfold kS at h;split at h
 ·exact dD ‹_›
 ·split at h
  ·exact dD ‹_›
  ·exact absurd rfl h
theorem oW {kf:PS→Nat} {part:PS→Ex×PS} (hk:∀s,kf s≠0→s.i<C.tk.length) (hp:∀s,Stp C s (part s).2):∀(f:Nat) (a:Ex) (s:PS),Stp C s (moreL kf part f a s).2
 |0,_,s=>Stp.refl s
 |f+1,a,s=>by
  unfold moreL;split
  ·exact Stp.refl s
  ·split
   ·exact Stp.refl s
   ·exact((Stp.next (hk s ‹_›)).trans (hp _)).trans (oW hk hp f _ _)
theorem oQ {un:PS→Ex×PS} (hu:∀s,Stp C s (un s).2) (s:PS):Stp C s (nX C un s).2:=(hu s).trans (oW (fun _=>Dp) hu _ _ _)
theorem wH {un:PS→Ex×PS} (hu:∀s,Stp C s (un s).2) (s:PS):Stp C s (sumF C un s).2:=(oQ hu s).trans (oW (fun _=>EM) (oQ hu) _ _ _)
theorem kR:∀(d:Nat) (s:PS),Stp C s (unD C d s).2
 |0,s=>zG (fun s=>Stp.refl s) (fun s=>Stp.refl s) s
 |d+1,s=>zG (wH (kR d)) (kR d) s
theorem uF (d:Nat) (s:PS):Stp C s (uG C d s).2:=oQ (kR d) s
theorem fK (d:Nat) (s:PS):Stp C s (sS C d s).2:=wH (kR d) s
theorem yc {sum:PS→Ex×PS} (hs:∀s,Stp C s (sum s).2) (a:Ex):∀(l:List (List UInt8)) (k:Nat) (s:PS),Stp C s (pW C sum a k l s).2
 | [],_,s=>Stp.fail 51 (by decide) s
 |t::r,k,s=>by
  unfold pW;split
  ·exact(Stp.is_ ‹_›).trans (hs _)
  ·exact yc hs a r (k+1) s
theorem xq {sum:PS→Ex×PS} {cond not_:PS→Cn×PS} (hs:∀s,Stp C s (sum s).2) (hc:∀s,Stp C s (cond s).2) (hn:∀s,Stp C s (not_ s).2) (s:PS):Stp C s (nG C sum cond not_ s).2:=by
 unfold nG;split
 ·split
  ·exact Stp.bracket ‹isF C [33] s=true› ‹_› (hn _)
  ·exact Stp.nY (by simpa using ‹¬(aV C s).1=true›)
 ·split
  ·split
   ·exact Stp.bracket ‹isF C [40] s=true› ‹_› ((hc _).trans (Stp.want _ _))
   ·exact Stp.nY (by simpa using ‹¬(aV C s).1=true›)
  ·split
   ·rename_i h;unfold zM at h;simp only[Bool.and_eq_true,decide_eq_true_eq]at h;exact⟨by simp,fun _=>by simp only;omega,rfl,id,id,fun _ _ _ x=>x,id⟩
   ·exact(hs s).trans (yc hs _ _ _ _)
theorem pF {t:List UInt8} {k:Nat} {part:PS→Cn×PS} (hp:∀s,Stp C s (part s).2):∀(f:Nat) (c:Cn) (s:PS),Stp C s (joinL C t k part f c s).2
 |0,_,s=>Stp.refl s
 |f+1,c,s=>by
  unfold joinL;split
  ·exact((Stp.is_ ‹_›).trans (hp _)).trans (pF hp f _ _)
  ·exact Stp.refl s
theorem sJ {n:PS→Cn×PS} (hn:∀s,Stp C s (n s).2) (s:PS):Stp C s (BQ C n s).2:=(hn s).trans (pF hn _ _ _)
theorem uS {n:PS→Cn×PS} (hn:∀s,Stp C s (n s).2) (s:PS):Stp C s (zW C n s).2:=(sJ hn s).trans (pF (sJ hn) _ _ _)
theorem jw:∀(d:Nat) (s:PS),Stp C s (qI C d s).2
 |0,s=>xq (fK 0) (fun s=>Stp.refl s) (fun s=>Stp.refl s) s
 |d+1,s=>xq (fK (d+1)) (uS (jw d)) (jw d) s
theorem yt (d:Nat) (s:PS):Stp C s (BR C d s).2:=sJ (jw d) s
theorem iT (d:Nat) (s:PS):Stp C s (uT C d s).2:=uS (jw d) s
theorem vg {sum:PS→Ex×PS} (hs:∀s,Stp C s (sum s).2):∀(f:Nat) (l:List Ag) (s:PS),Stp C s (lg C sum f l s).2
 |0,_,s=>Stp.refl s
 |f+1,l,s=>by
  unfold lg;split
  ·exact Stp.refl s
  ·split
   ·exact(hs s).trans (Stp.is_ ‹_›)
   ·exact((hs s).trans (Stp.want _ _)).trans (vg hs f _ _)
theorem vk {sum:PS→Ex×PS} (hs:∀s,Stp C s (sum s).2) (s:PS):Stp C s (jg C sum s).2:=by
 unfold jg;split
 ·exact Stp.is_ ‹_›
 ·exact vg hs _ _ _
theorem jh {b:Bool} (h:(cu C s&&(decide (s.i+1<C.tk.length)&&b))=true):Stp C (aK C s).2 (aK C s).2.next:=by
 simp only[Bool.and_eq_true,decide_eq_true_eq]at h;refine Stp.next ?_;unfold aK;rw[if_pos h.1];exact h.2.1
theorem qN {sum:PS→Ex×PS} (hs:∀s,Stp C s (sum s).2) (h:Hd) (s:PS):Stp C s (iI C sum h s).2:=by
 unfold iI;split
 ·exact Stp.is_ ‹_›
 ·split
  ·exact(Stp.is_ ‹_›).trans (Stp.name _)
  ·split
   ·exact(Stp.is_ ‹_›).trans (Stp.name _)
   ·split
    ·exact(((Stp.name s).trans (jh ‹_›)).trans (hs _)).trans (Stp.want _ _)
    ·split
     ·exact((Stp.name s).trans (jh ‹_›)).trans (vk hs _)
     ·exact hs s
theorem rC {sum:PS→Ex×PS} {cond:PS→Cn×PS} (hs:∀s,Stp C s (sum s).2) (hc:∀s,Stp C s (cond s).2) (n:Nat) (s:PS):Stp C s (gX C sum cond n s).2:=by
 unfold gX;split
 ·exact(Stp.is_ ‹_›).trans (hs _)
 ·split
  ·exact(((Stp.is_ ‹_›).trans (Stp.want _ _)).trans (hc _)).trans (Stp.want _ _)
  ·split
   ·exact(((Stp.is_ ‹_›).trans (Stp.name _)).trans (Stp.want _ _)).trans (hs _)
   ·split
    ·exact((Stp.name s).trans (Stp.is_ ‹_›)).trans (vk hs _)
    ·split
     ·exact(((((Stp.name s).trans (Stp.is_ ‹_›)).trans (hs _)).trans (Stp.want _ _)).trans (Stp.want _ _)).trans (hs _)
     ·exact((Stp.name s).trans (Stp.want _ _)).trans (qN hs _ _)
theorem tX {cond:PS→Cn×PS} (hc:∀s,Stp C s (cond s).2) (h:s.i<C.tk.length):Stp C s (iG C cond s).2:=(((Stp.next h).trans (Stp.want _ _)).trans (hc _)).trans (Stp.want _ _)
theorem Stp.one (hn:s.n<200):Stp C s s.one:=⟨Nat.le_refl _,id,rfl,id,fun _=>⟨by simp only[PS.one];omega,fun _=>by simp only[PS.one];omega⟩,fun _ _ _ x=>x,id⟩
theorem kV {stmts:PS→Sl×PS} (hs:∀s,Stp C s (stmts s).2) (s:PS):Stp C s (iy C stmts s).2:=by
 unfold iy;split
 ·split
  ·exact Stp.bracket ‹isF C [123] s=true› ‹_› (hs _)
  ·exact Stp.nY (by simpa using ‹¬(aV C s).1=true›)
 ·exact Stp.fail 51 (by decide) s
theorem zQ {t:List UInt8} (h:s.e≠0):isF C t s=false:=by
 cases hx:isF C t s with
 |false=>rfl
 |true=>exact absurd (DX hx) h
theorem ug {sum:PS→Ex×PS} {cond:PS→Cn×PS} {block:PS→Sl×PS} (hs:∀s,Stp C s (sum s).2) (hc:∀s,Stp C s (cond s).2) (hb:∀s,Stp C s (block s).2) (s:PS) (he:s.e=0):Stp C s (fV C sum cond block s).2:=by
 unfold fV;by_cases hk:gJ C s=true
 ·rw[hk];by_cases hn:200≤s.n
  ·rw[if_pos (by simpa using hn)];exact Stp.fail 53 (by decide) s
  ·rw[if_neg (by simpa using hn)];have h1:=Stp.one (C:=C) (s:=s) (by omega);split
   ·rename_i hi;have h2:=(h1.trans (tX hc (dD hi))).trans (hb _);split
    ·exact(h2.trans (Stp.is_ ‹_›)).trans (hb _)
    ·exact h2
   ·split
    ·rename_i hi;exact(h1.trans (tX hc (dD hi))).trans (hb _)
    ·exact(h1.trans (rC hs hc _ _)).trans (Stp.want _ _)
 ·have hk':gJ C s=false:=by simpa using hk
  rw[hk'];unfold gJ at hk';simp only[Bool.or_eq_false_iff]at hk';obtain⟨⟨⟨⟨⟨k1,k2⟩,k3⟩,k4⟩,k5⟩,k6⟩:=hk';rw[if_neg (by simp),if_neg (by rw[show isF C [105,102] s.one=isF C [105,102] s from rfl,k5];simp),if_neg (by rw[show isF C [119,104,105,108,101] s.one=isF C [119,104,105,108,101] s from rfl,k6];simp)]
  have hnm:(aK C s.one).2=bT C 51 s.one:=by unfold aK;rw[if_neg (by rw[show cu C s.one=cu C s from rfl,k1];simp)]
  have he1:(aK C s.one).2.e≠0:=by rw[hnm];unfold bT;rw[if_pos (show s.one.e=0 from he)];simp
  have hp:gX C sum cond s.n s.one=iI C sum {hd0 s.n with x:=(aK C s.one).1} (aY C [61] (aK C s.one).2):=by unfold gX;rw[if_neg (by rw[show isF C [114,101,116,117,114,110] s.one=isF C [114,101,116,117,114,110] s from rfl,k3];simp),if_neg (by rw[show isF C [97,115,115,101,114,116] s.one=isF C [97,115,115,101,114,116] s from rfl,k4];simp),if_neg (by rw[show isF C [42] s.one=isF C [42] s from rfl,k2];simp),if_neg (by rw[zQ he1];simp),if_neg (by rw[zQ he1];simp)]
  rw[hp];have h2:=((Stp.want [61] (aK C s.one).2).trans (qN hs {hd0 s.n with x:=(aK C s.one).1} _)).trans (Stp.want (C:=C) [59] _)
  have h0:Stp C s (aK C s.one).2:=by
   rw[hnm];have:=Stp.fail (C:=C) 51 (by decide) s.one
   exact⟨this.i1,this.i2,this.dp,this.er,fun x=>by
    rw[←hnm];refine⟨?_,fun y=>absurd y he1⟩;rw[hnm];unfold bT;rw[if_pos (show s.one.e=0 from he)];show s.n+1≤201;have:=x.2 he
    omega,this.pl,this.ec⟩
  exact h0.trans h2
theorem qR {stmt:PS→(Hd×Sl×Sl)×PS} (hs:∀s,s.e=0→Stp C s (stmt s).2):∀(f:Nat) (l:Sl) (s:PS),Stp C s (je C stmt f l s).2
 |0,_,s=>Stp.refl s
 |f+1,l,s=>by
  unfold je;split
  ·exact Stp.refl s
  ·split
   ·exact Stp.is_ ‹_›
   ·split
    ·exact Stp.fail 51 (by decide) s
    ·exact(hs s (by omega)).trans (qR hs f _ _)
theorem qU {stmt:PS→(Hd×Sl×Sl)×PS} (hs:∀s,s.e=0→Stp C s (stmt s).2) (s:PS):Stp C s (lC C stmt s).2:=qR hs _ _ _
theorem mF:∀(d:Nat) (s:PS),s.e=0→Stp C s (nP C d s).2
 |0,s,he=>ug (fK 0) (iT 0) (kV fun s=>Stp.refl s) s he
 |d+1,s,he=>ug (fK (d+1)) (iT (d+1)) (kV (qU (mF d))) s he
theorem qV (d:Nat) (s:PS):Stp C s (jq C d s).2:=qU (mF d) s
def zB (C:PC):Nat→PS→Sl×PS
 |0=>iy C fun s=>(.nil,s)
 |d+1=>iy C (jq C d)
theorem kW:∀(d:Nat) (s:PS),Stp C s (zB C d s).2
 |0,s=>kV (fun s=>Stp.refl s) s
 |d+1,s=>kV (qV d) s
theorem ou (k:Nat) (hk:k≠0) (s:PS):(bT C k s).e≠0:=by
 unfold bT;split
 ·exact hk
 ·assumption
theorem jm (l:List Vr) (p:Bool) (m:Nat) (s:PS):Stp C s (eF C l p m s).2:=by
 unfold eF;split
 ·exact Stp.fail 53 (by decide) s
 ·exact Stp.name s
theorem qA:∀(f:Nat) (l:List Vr) (s:PS),Stp C s (gG C f l s).2
 |0,_,s=>Stp.refl s
 |f+1,l,s=>by
  unfold gG;split
  ·exact Stp.refl s
  ·split
   ·exact((Stp.CO _ s).trans (jm _ _ _ _)).trans (Stp.is_ ‹_›)
   ·exact(((Stp.CO _ s).trans (jm _ _ _ _)).trans (Stp.want _ _)).trans (qA f _ _)
theorem w_ (s:PS):Stp C s (mM C s).2:=by
 unfold mM;split
 ·exact Stp.is_ ‹_›
 ·exact qA _ _ _
theorem qB:∀(f:Nat) (l:List Vr) (s:PS),Stp C s (ji C f l s).2
 |0,_,s=>Stp.refl s
 |f+1,l,s=>by
  unfold ji;split
  ·rename_i h
   have hlt:s.i<C.tk.length:=by simp only[Bool.or_eq_true]at h;rcases h with h|h<;>exact dD h
   exact(((Stp.next hlt).trans (jm _ _ _ _)).trans (Stp.want _ _)).trans (qB f _ _)
  ·exact Stp.refl s
end
def dX:List Vr→List UInt8→Nat
 | [],_=>0
 |v::l,x=>if v.nm==x then(if v.ptr then 2 else 1)else dX l x
def Ex.name:Ex→List UInt8
 | .nil=> []
 | .mk _ _ nm _ _=>nm
section
variable (K:List UInt8→Nat)
def dJ:Ex→Bool
 | .nil=>true
 | .mk k _ nm a b=>if k=1 then K nm !=2 else dJ a&&dJ b
def fZ:Cn→Bool
 | .nil=>true
 | .mk k a b p q nm=>if k=9 then K nm==2 else dJ K a&&dJ K b&&fZ p&&fZ q
def dN:Ex→Bool
 | .nil=>false
 | .mk k _ nm _ _=>k==1&&K nm==2
def jf (a:Ag):Ag×Bool:=if a.ptr then(a,K a.nm==2)else if dN K a.e then(⟨true,a.e.name,.nil⟩,true)else(a,dJ K a.e)
def qG (l:List Ag):List Ag×Bool:=(l.map fun a=>(jf K a).1,l.all fun a=>(jf K a).2)
def aS (h:Hd):Hd×Bool:=
 if h.k=0 then(if K h.x=2 then(if dN K h.e then(⟨2,h.x,h.e.name,.nil,.nil,.nil,[],h.at_⟩,true)else(h,false))else(h,dJ K h.e))
 else if h.k=2 then(h,K h.x==2&&K h.y==2)
 else if h.k=1 then(h,K h.x==2&&K h.y==0)
 else if h.k=3 then(h,K h.x==2)
 else if h.k=4 then(h,K h.x !=2&&K h.y==2)
 else if h.k=5 then(h,K h.x==2&&dJ K h.e)
 else if h.k=6 then(h,K h.x !=2&&K h.y==0&&dJ K h.e)
 else if h.k=7 then(h,K h.y==0&&dJ K h.e&&dJ K h.f)
 else if h.k=8 then({h with args:=(qG K h.args).1},((h.x== []||K h.x !=2)&&K h.y==0)&&(qG K h.args).2)
 else if h.k=9 then(h,dJ K h.e)
 else(h,fZ K h.c)
def turned (h:Hd):Bool:=h.k==0&&K h.x==2&&dN K h.e
def aO:Sl→Sl×Option Nat
 | .nil=>(.nil,none)
 | .cons h t e r=>
  if (aS K h).2 then
   (if turned K h then
    (match (aO r).2 with|some at_=>(.nil,some at_)|none=>(.cons (aS K h).1 .nil .nil (aO r).1,none))
   else match (aO t).2 with
    |some at_=>(.nil,some at_)
    |none=>match (aO e).2 with
     |some at_=>(.nil,some at_)
     |none=>match (aO r).2 with|some at_=>(.nil,some at_)|none=>(.cons (aS K h).1 (aO t).1 (aO e).1 (aO r).1,none))
  else(.nil,some h.at_)
def bQ:Ex→Bool
 | .nil=>true
 | .mk k _ nm a b=>(k !=1||K nm !=2)&&bQ a&&bQ b
def kG:Cn→Bool
 | .nil=>true
 | .mk k a b p q nm=>(k !=9||K nm==2)&&bQ K a&&bQ K b&&kG p&&kG q
def jE (a:Ag):Bool:=if a.ptr then K a.nm==2 else dN K a.e||bQ K a.e
def aB (h:Hd):Bool:=
 if h.k=0 then(if K h.x=2 then dN K h.e else bQ K h.e)
 else if h.k=2 then K h.x==2&&K h.y==2
 else if h.k=1 then K h.x==2&&K h.y==0
 else if h.k=3 then K h.x==2
 else if h.k=4 then K h.x !=2&&K h.y==2
 else if h.k=5 then K h.x==2&&bQ K h.e
 else if h.k=6 then K h.x !=2&&K h.y==0&&bQ K h.e
 else if h.k=7 then K h.y==0&&(bQ K h.e&&bQ K h.f)
 else if h.k=8 then(h.x== []||K h.x !=2)&&K h.y==0&&h.args.all (jE K)
 else if h.k=9 then bQ K h.e
 else if h.k=10∨h.k=11∨h.k=12 then kG K h.c
 else true
def dF:Sl→Option Nat
 | .nil=>none
 | .cons h t e r=>if aB K h then(match dF t with|some a=>some a|none=>match dF e with|some a=>some a|none=>dF r)else some h.at_
def fG (a:Ag):Ag:=if dN K a.e&& !a.ptr then⟨true,a.e.name,.nil⟩else a
def n_ (h:Hd):Hd:=if dN K h.e&&h.k==0 then{h with k:=2,y:=h.e.name,e:= .nil,args:=h.args.map (fG K)}else{h with args:=h.args.map (fG K)}
def dI:Sl→Sl
 | .nil=> .nil
 | .cons h t e r=> .cons (n_ K h) (dI t) (dI e) (dI r)
end
def WfE:Ex→Prop
 | .nil=>True
 | .mk k _ _ a b=>(k=1→a= .nil∧b= .nil)∧WfE a∧WfE b
def WfC:Cn→Prop
 | .nil=>True
 | .mk k a b p q _=>(k=9→a= .nil∧b= .nil∧p= .nil∧q= .nil)∧WfE a∧WfE b∧WfC p∧WfC q
structure WfH (h:Hd) (tt ee:Sl):Prop where
 e:WfE h.e
 f:WfE h.f
 c:WfC h.c
 a:∀a∈h.args,WfE a.e∧(a.ptr=true→a.e=Ex.nil)
 args:h.k≠8→h.args= []
 k0:h.k=0→h.f= .nil∧h.c= .nil∧tt= .nil∧ee= .nil
 k2:h.k=2→h.e= .nil
 k:h.k≤12
def WfS:Sl→Prop
 | .nil=>True
 | .cons h t e r=>WfH h t e∧WfS t∧WfS e∧WfS r
section
variable {K:List UInt8→Nat}
theorem gK:∀{e:Ex},WfE e→dJ K e=bQ K e
 | .nil,_=>rfl
 | .mk k n nm a b,⟨h1,ha,hb⟩=>by
  unfold dJ bQ;by_cases hk:k=1
  ·obtain⟨rfl,rfl⟩:=h1 hk;rw[if_pos hk];simp[hk,bQ]
  ·rw[if_neg hk,gK ha,gK hb]
   have:(k !=1)=true:=by simpa using hk
   rw[this,Bool.true_or,Bool.true_and]
theorem nJ:∀{c:Cn},WfC c→fZ K c=kG K c
 | .nil,_=>rfl
 | .mk k a b p q nm,⟨h1,ha,hb,hp,hq⟩=>by
  unfold fZ kG;by_cases hk:k=9
  ·obtain⟨rfl,rfl,rfl,rfl⟩:=h1 hk;rw[if_pos hk];simp[hk,bQ,kG]
  ·rw[if_neg hk,gK ha,gK hb,nJ hp,nJ hq]
   have:(k !=9)=true:=by simpa using hk
   rw[this,Bool.true_or,Bool.true_and]
theorem zU {h:Hd} (e:h.args= []):({h with args:= []}:Hd)=h:=by
 cases h;simp only at e;rw[e]
theorem sG:∀{l:List Ag},(∀a∈l,WfE a.e∧(a.ptr=true→a.e=Ex.nil))→(qG K l).2=l.all (jE K)∧(qG K l).1=l.map (fG K)
 | [],_=>⟨rfl,rfl⟩
 |a::l,h=>by
  obtain⟨i1,i2⟩:=sG (l:=l) fun x hx=>h x (List.mem_cons_of_mem _ hx);obtain⟨h1,h2⟩:=h a (List.mem_cons_self ..);unfold qG at i1 i2⊢;simp only at i1 i2
  have e1:(jf K a).2=jE K a:=by
   unfold jf jE
   cases hp:a.ptr with
   |true=>simp
   |false=>
    cases hq:dN K a.e with
    |true=>simp
    |false=>simp[gK h1]
  have e2:(jf K a).1=fG K a:=by
   unfold jf fG
   cases hp:a.ptr with
   |true=>simp
   |false=>
    cases hq:dN K a.e with
    |true=>simp
    |false=>simp
  exact⟨by rw[List.all_cons,List.all_cons,i1,e1],by rw[List.map_cons,List.map_cons,i2,e2]⟩
theorem yG {h:Hd} {t e:Sl} (H:WfH h t e):(aS K h).2=aB K h:=by
 have he:=gK (K:=K) H.e;have hf:=gK (K:=K) H.f;have hc:=nJ (K:=K) H.c;have ha:=(sG (K:=K) H.a).1;have hk:=H.k;unfold aS aB;rw[he,hf,hc,ha];by_cases h0:h.k=0
 ·rw[if_pos h0,if_pos h0];by_cases hx:K h.x=2
  ·rw[if_pos hx,if_pos hx]
   cases hp:dN K h.e with
   |true=>rw[if_pos rfl]
   |false=>rw[if_neg (by simp)]
  ·rw[if_neg hx,if_neg hx]
 rw[if_neg h0,if_neg h0];by_cases h2:h.k=2
 ·rw[if_pos h2,if_pos h2]
 rw[if_neg h2,if_neg h2];by_cases h1:h.k=1
 ·rw[if_pos h1,if_pos h1]
 rw[if_neg h1,if_neg h1];by_cases h3:h.k=3
 ·rw[if_pos h3,if_pos h3]
 rw[if_neg h3,if_neg h3];by_cases h4:h.k=4
 ·rw[if_pos h4,if_pos h4]
 rw[if_neg h4,if_neg h4];by_cases h5:h.k=5
 ·rw[if_pos h5,if_pos h5]
 rw[if_neg h5,if_neg h5];by_cases h6:h.k=6
 ·rw[if_pos h6,if_pos h6]
 rw[if_neg h6,if_neg h6];by_cases h7:h.k=7
 ·rw[if_pos h7,if_pos h7,Bool.and_assoc]
 rw[if_neg h7,if_neg h7];by_cases h8:h.k=8
 ·rw[if_pos h8,if_pos h8]
 rw[if_neg h8,if_neg h8];by_cases h9:h.k=9
 ·rw[if_pos h9,if_pos h9]
 rw[if_neg h9,if_neg h9,if_pos (by omega)]
theorem vS:∀{e:Ex},dN K e=true→bQ K e=false
 | .nil,h=>by cases h
 | .mk k n nm a b,h=>by unfold dN at h;simp at h;unfold bQ;simp[h.1,h.2]
theorem Aq {h:Hd} {t e:Sl} (H:WfH h t e) (hs:(aS K h).2=true):(aS K h).1=n_ K h:=by
 have ha:=(sG (K:=K) H.a).2;have hargs:=H.args;have hk0:=H.k0;unfold aS at hs⊢;unfold n_;by_cases h0:h.k=0
 ·have e0:=hargs (by omega);obtain⟨f0,c0,_⟩:=hk0 h0;rw[if_pos h0]at hs⊢;split
  ·rename_i hx;rw[if_pos hx]at hs;split
   ·rename_i hp;rw[hp,h0];simp[e0,f0,c0]
   ·rename_i hp;rw[if_neg hp]at hs;cases hs
  ·rename_i hx;rw[if_neg hx]at hs
   have:dN K h.e=false:=by
    cases hp:dN K h.e with
    |false=>rfl
    |true=>
     have:=vS hp;rw[←gK H.e]at this;rw[this]at hs;cases hs
   rw[this];simp only[Bool.false_and,Bool.false_eq_true,if_false,e0,List.map_nil];exact(zU e0).symm
 ·have hb:(h.k==0)=false:=by simpa using h0
  simp only[hb,Bool.and_false,Bool.false_eq_true,if_false];by_cases h8:h.k=8
  ·rw[if_neg h0,if_neg (by omega),if_neg (by omega),if_neg (by omega),if_neg (by omega),if_neg (by omega),if_neg (by omega),if_neg (by omega),if_pos h8];simp only[ha]
  ·have e0:=hargs h8
   have:h={h with args:=h.args.map (fG K)}:=by rw[e0];exact(zU e0).symm
   rw[←this];simp only[if_neg h0,if_neg h8]
   repeat' split
   all_goals rfl
theorem jJ:∀{l:Sl},WfS l→(aO K l).2=dF K l∧((aO K l).2=none→(aO K l).1=dI K l)
 | .nil,_=>⟨rfl,fun _=>rfl⟩
 | .cons h t e r,⟨H,ht,he,hr⟩=>by
  obtain⟨t1,t2⟩:=jJ ht;obtain⟨e1,e2⟩:=jJ he;obtain⟨r1,r2⟩:=jJ hr;have hs:=yG (K:=K) H;unfold aO dF dI;rw[←hs]
  cases hso:(aS K h).2 with
  |false=>simp
  |true=>
   have hh:=Aq H hso;simp only[if_true]
   cases htu:turned K h with
   |true=>
    have hk:h.k=0:=by unfold turned at htu;simp at htu;exact htu.1.1
    obtain⟨_,_,rfl,rfl⟩:=H.k0 hk;simp only[if_true,dF,dI];rw[←r1]
    cases hr2:(aO K r).2 with
    |some a=>simp
    |none=>simp[hh,r2 hr2]
   |false=>
    simp only[Bool.false_eq_true,if_false];rw[←t1,←e1,←r1]
    cases ht2:(aO K t).2 with
    |some a=>simp
    |none=>
     cases he2:(aO K e).2 with
     |some a=>simp
     |none=>
      cases hr2:(aO K r).2 with
      |some a=>simp
      |none=>simp[hh,t2 ht2,e2 he2,r2 hr2]
theorem He (a:Ag) (h:jE K a=true) (_h2:a.ptr=true→a.e=Ex.nil):jE K (fG K a)=true∧fG K (fG K a)=fG K a:=by
 unfold fG jE at*
 cases hp:a.ptr with
 |true=>
  rw[hp]at h;simp only[if_true]at h;simp[hp,h]
 |false=>
  rw[hp]at h;simp only[Bool.false_eq_true,if_false]at h
  cases hq:dN K a.e with
  |true=>
   have hn:K a.e.name=2:=by
    cases he:a.e with
    |nil=>rw[he]at hq;cases hq
    |mk k n nm x y=>rw[he]at hq;unfold dN at hq;simp at hq;exact hq.2
   simp[hn,dN]
  |false=>
   rw[hq]at h;simp at h;simp[hp,hq,h]
theorem Hf {α:Type} {l:List α} {f:α→α} {p:α→Bool} (h:∀a∈l,p (f a)=true∧f (f a)=f a):(l.map f).all p=true∧(l.map f).map f=l.map f:=by
 constructor
 ·rw[List.all_eq_true];intro x hx;obtain⟨a,ha,rfl⟩:=List.mem_map.1 hx;exact(h a ha).1
 ·rw[List.map_map];exact List.map_congr_left fun a ha=>(h a ha).2
theorem G_ {h:Hd} {t e:Sl} (H:WfH h t e) (hs:aB K h=true):aB K (n_ K h)=true∧n_ K (n_ K h)=n_ K h:=by
 have hm:∀a∈h.args,h.args.all (jE K)=true→jE K (fG K a)=true∧fG K (fG K a)=fG K a:=fun a ha hall=>He a (List.all_eq_true.1 hall a ha) (H.a a ha).2;by_cases h0:h.k=0
 ·have e0:=H.args (by omega)
  cases hp:dN K h.e with
  |true=>
   have hn:K h.e.name=2:=by
    cases he:h.e with
    |nil=>rw[he]at hp;cases hp
    |mk k n nm x y=>rw[he]at hp;unfold dN at hp;simp at hp;exact hp.2
   have hx:K h.x=2:=by
    unfold aB at hs;rw[if_pos h0]at hs;by_cases hx:K h.x=2
    ·exact hx
    ·rw[if_neg hx,vS hp]at hs;cases hs
   have hh:n_ K h={h with k:=2,y:=h.e.name,e:= .nil,args:= []}:=by unfold n_;simp[hp,h0,e0]
   rw[hh];refine⟨by unfold aB;simp[hx,hn],?_⟩;unfold n_;simp[dN]
  |false=>
   have hh:n_ K h=h:=by unfold n_;rw[hp];simp only[Bool.false_and,Bool.false_eq_true,if_false,e0,List.map_nil];exact zU e0
   rw[hh];exact⟨hs,hh⟩
 ·have hb:(h.k==0)=false:=by simpa using h0
  by_cases h8:h.k=8
  ·have hall:h.args.all (jE K)=true:=by unfold aB at hs;rw[if_neg h0,if_neg (by omega),if_neg (by omega),if_neg (by omega),if_neg (by omega),if_neg (by omega),if_neg (by omega),if_neg (by omega),if_pos h8]at hs;simp only[Bool.and_eq_true]at hs;exact hs.2
   obtain⟨m1,m2⟩:=Hf (l:=h.args) (f:=fG K) (p:=jE K) fun a ha=>hm a ha hall
   have hh:n_ K h={h with args:=h.args.map (fG K)}:=by unfold n_;rw[hb];simp
   rw[hh];refine⟨?_,?_⟩
   ·unfold aB at hs⊢;simp only;rw[if_neg h0,if_neg (by omega),if_neg (by omega),if_neg (by omega),if_neg (by omega),if_neg (by omega),if_neg (by omega),if_neg (by omega),if_pos h8]at hs⊢;simp only[Bool.and_eq_true]at hs⊢;exact⟨hs.1,m1⟩
   ·unfold n_;simp only[hb,Bool.and_false,Bool.false_eq_true,if_false,m2]
  ·have e0:=H.args h8
   have hh:n_ K h=h:=by unfold n_;rw[hb];simp only[Bool.and_false,Bool.false_eq_true,if_false,e0,List.map_nil];exact zU e0
   rw[hh];exact⟨hs,hh⟩
theorem wB:∀{l:Sl},WfS l→dF K l=none→dF K (dI K l)=none∧dI K (dI K l)=dI K l
 | .nil,_,_=>⟨rfl,rfl⟩
 | .cons h t e r,⟨H,ht,he,hr⟩,hf=>by
  unfold dF at hf
  cases hs:aB K h with
  |false=>rw[hs]at hf;simp at hf
  |true=>
   rw[hs]at hf;simp only[if_true]at hf
   cases ht2:dF K t with
   |some a=>rw[ht2]at hf;simp at hf
   |none=>
    rw[ht2]at hf;simp only at hf
    cases he2:dF K e with
    |some a=>rw[he2]at hf;simp at hf
    |none=>
     rw[he2]at hf;simp only at hf;obtain⟨a1,a2⟩:=wB ht ht2;obtain⟨b1,b2⟩:=wB he he2;obtain⟨c1,c2⟩:=wB hr hf;obtain⟨d1,d2⟩:=G_ H hs;refine⟨?_,?_⟩
     ·unfold dI dF;rw[d1,a1,b1,c1];simp
     ·show Sl.cons (n_ K (n_ K h)) (dI K (dI K t)) (dI K (dI K e)) (dI K (dI K r))=Sl.cons (n_ K h) (dI K t) (dI K e) (dI K r);rw[d2,a2,b2,c2]
end
end Go.Proofs.YtpndglghpojjkaaGreat
namespace Go.Proofs.YtpndglghpojjkaaGreat
open Go.RowKit
structure Writes (M:List (Option Nat)) (w w':World):Prop where
 os:w'.os=w.os
 tape:w'.tape=w.tape
 output:w'.output=w.output
 size:w.heap.size≤w'.heap.size
 block:∀k,k<w.heap.size→some k∉M→w'.heap[k]? =w.heap[k]?
section
variable {M M':List (Option Nat)} {w w' w'':World}
theorem Writes.refl (M:List (Option Nat)) (w:World):Writes M w w:=⟨rfl,rfl,rfl,Nat.le_refl _,fun _ _ _=>rfl⟩
theorem Writes.of_below (h:Below w.heap.size w w') (M:List (Option Nat)):Writes M w w':=⟨h.os,h.tape,h.output,h.size,fun k hk _=>h.block k hk⟩
theorem Writes.bG {r:Option Nat} (h:w.grownBy w' r) (hr:r∈M):Writes M w w':=⟨h.os,h.tape,h.output,h.size,fun k hk hn=>h.block k hk (fun e=>hn (by rw[e];exact hr))⟩
theorem Writes.store (w:World) {p:Addr} (hp:some p.block∈M) (u:Value):Writes M w (w.setCell p u):=
 ⟨rfl,rfl,rfl,by simp[World.setCell],fun k _ hn=>Below.heap_setCell w p u k (fun e=>hn (by rw[e];exact hp))⟩
theorem Writes.alloc (M:List (Option Nat)) (w:World) (o:Obj):Writes M w (w.alloc o):= .of_below (aA w o) M
theorem Writes.then_ (h:Writes M w w') (h':Writes M' w' w'') (hM:∀k,k<w.heap.size→some k∈M'→some k∈M):Writes M w w'':=
 ⟨h'.os.trans h.os,h'.tape.trans h.tape,h'.output.trans h.output,Nat.le_trans h.size h'.size,fun k hk hn=>
  (h'.block k (Nat.lt_of_lt_of_le hk h.size) (fun e=>hn (hM k hk e))).trans (h.block k hk hn)⟩
theorem Writes.trans (h:Writes M w w') (h':Writes M w' w''):Writes M w w'':=h.then_ h' fun _ _ e=>e
theorem Writes.more (h:Writes M w w') (hM:∀b∈M,b∈M'):Writes M' w w':=⟨h.os,h.tape,h.output,h.size,fun k hk hn=>h.block k hk (fun e=>hn (hM _ e))⟩
theorem Writes.below {B:Nat} (h:Writes M w w') (hB:B≤w.heap.size) (hM:∀k,some k∈M→B≤k):Below B w w':=
 ⟨h.os,h.tape,h.output,h.size,fun k hk=>h.block k (by omega) (fun e=>by have:=hM k e;omega)⟩
theorem Writes.heap (h:Writes M w w') {g:Nat} {o:Obj} (hg:w.heap[g]? =some o) (hn:some g∉M):w'.heap[g]? =some o:=
 (h.block g (Array.getElem?_eq_some_iff.1 hg).1 hn).trans hg
theorem Writes.holds (h:Writes M w w') {g:Nat} {t:TypeId} {cs:Array Value} (hg:Holds w g t cs) (hn:some g∉M):Holds w' g t cs:=h.heap hg hn
theorem Writes.own (h:Writes M w w') {B:Nat} {e:TypeId} {v:Value} {n:Nat} {xs:List Value} {size:Nat} (ho:w.ownsRow B e size v n xs) (hn:v.ownBlock=none∨v.ownBlock∉M):w'.ownsRow B e size v n xs:=by
 refine⟨ho.1,?_⟩;rcases ho.2 with h1| ⟨g,cap,cur,rfl,hb,hg,r⟩
 ·exact .inl h1
 ·refine .inr ⟨g,cap,cur,rfl,hb,h.heap hg ?_,r⟩;rcases hn with hn|hn
  ·simp[Value.ownBlock]at hn
  ·exact hn
def blk (A:Option Addr):Option Nat:=A.map (·.block)
theorem Writes.row (h:Writes M w w') {B:Nat} {A:Option Addr} {vs:List Value} (hr:Row w B A vs) (hB:B≤w.heap.size) (hn:vs≠[]→blk A∉M):Row w' B A vs:=fun hne=>by
 obtain⟨b,off,rfl,hb,hc⟩:=hr hne;refine⟨b,off,rfl,hb,fun j u hu=> ?_⟩;have:=h.block b (by omega) (hn hne);rw[←hc j u hu];exact World.cell?_of_block this
end
end Go.Proofs.YtpndglghpojjkaaGreat
namespace Go.Proofs.YtpndglghpojjkaaGreat
open Go.RowKit Go.ChangeShapes Go.WideShapes Go.Deep
open Go.ChangeMaps (open_string)
theorem Tryz.own:ownKnob Tryz.prog.godebug=none:=by kernel_rfl
def gQ (t:TypeId) (W:World) (v:Value):Prop:=
 ∃(H:Type) (enc:TypeId×Value→H) (d:DataW H) (p:List MemPlace) (base:Nat),Value.okWide Tryz.prog W .any base t v∧DataW.Trod enc Tryz.prog W 0 (fun _=>true) true t v d p
theorem sD {W:World} {A:Option Addr} {n c:Nat} {Z:List Int} (hZ:Z.length=c) (hn:n≤c) (hwf:∀n∈Z,(Lit.int .u8 n).wf=true)
  (hc:∀a',A=some a'→∀j,j<c→W.cell? (a'.add j)=some (.int .u8 (Z.getD j 0))) (h0:A=none→c=0):
  ∃l:List UInt8,l.length=n∧Bytes W W.heap.size A l:=by
 refine⟨(Z.take n).map fun z=>UInt8.ofNat z.toNat,by simp;omega,fun hne=> ?_⟩
 have hn0:0<n:=by
  rcases Nat.eq_zero_or_pos n with h|h
  ·subst h;simp at hne
  ·exact h
 rcases A with _|a
 ·have:=h0 rfl;omega
 ·obtain⟨b,off,rfl,hc2⟩:=ints_at (k:= .u8) (zs:=Z) (fun i hi=>hc a rfl i (by omega)) (by omega);refine⟨b,off,rfl,?_,fun j u hu=> ?_⟩
  ·have:=hc2 0 (by omega);exact block_lt_of_cell this
  ·have hj:j<n:=by
    rcases Nat.lt_or_ge j n with h|h
    ·exact h
    ·rw[List.getElem?_eq_none (by simp;omega)]at hu;cases hu
   rw[hc2 j (by omega)]
   have hjZ:j<Z.length:=by omega
   have hz:=bounds_u8 (hwf Z[j] (List.getElem_mem hjZ));simp[hj,hjZ]at hu;subst hu;simp only[Eo,List.getD_eq_getElem?_getD,List.getElem?_eq_getElem hjZ,Option.getD_some];congr 2;rw[UInt8.toNat_ofNat_of_lt' (show Z[j].toNat<256 by omega)];omega
theorem gQ.bytes {W:World} {v:Value} (h:gQ 37 W v):∃A n c l,v= .slice A n c∧l.length=n∧n≤c∧c≤maxLen∧Bytes W W.heap.size A l:=by
 obtain⟨H,enc,d,p,base,hok,fuel,hf⟩:=h;obtain⟨a0,len0,cap0,rfl⟩:=okWide_slice Tryz.underlying37 hok;rcases open_ints Tryz.underlying37 Tryz.underlying5 (by kernel_rfl) hf with⟨hcs,_⟩| ⟨x,l,c,zs,hcs,_,hl,hm,hz,_,hcell,hwz⟩
 ·simp[Value.cells]at hcs;obtain⟨rfl,rfl,rfl⟩:=hcs;exact⟨_,_,_,[],rfl,rfl,Nat.le_refl _,by simp,Row.nil_ _ _ _⟩
 ·simp[Value.cells]at hcs;obtain⟨rfl,rfl,rfl⟩:=hcs;simp only[if_true]at hz;obtain⟨l,hl2,hb⟩:=sD (W:=W) (A:=some x) hz hl hwz (fun a' e j hj=>by cases e;exact hcell j (by omega)) (fun e=>by cases e);exact⟨_,_,_,l,rfl,hl2,hl,hm,hb⟩
theorem gQ.int {W:World} {v:Value} (h:gQ 3 W v):∃n:Int,v= .int .i64 n∧-9223372036854775808≤n∧n≤9223372036854775807:=by
 obtain⟨H,enc,d,p,base,hok,hf⟩:=h;obtain⟨n,rfl,_,_,hw⟩:=open_int Tryz.underlying3 hok hf;refine⟨n,rfl,?_⟩;simp[Lit.wf,IntKind.min,IntKind.max,IntKind.signed,IntKind.bits]at hw;omega
theorem gQ.u8 {W:World} {v:Value} (h:gQ 5 W v):∃n:Nat,v= .int .u8 n∧n<256:=by
 obtain⟨H,enc,d,p,base,hok,hf⟩:=h;obtain⟨n,rfl,_,_,hw⟩:=open_int Tryz.underlying5 hok hf;have:=bounds_u8 hw;exact⟨n.toNat,by rw[Int.toNat_of_nonneg this.1],by omega⟩
end Go.Proofs.YtpndglghpojjkaaGreat
namespace Go.Proofs.YtpndglghpojjkaaGreat
open Go.RowKit Go.Deep
def Tok.cells (t:Tok):List Value:= [.int .i64 t.k,.string (ay t.t),.int .i64 t.at_]
structure PL where
 g:Nat
 A:Option Addr
 c:Nat
structure PC.Fit (C:PC):Prop where
 len:C.tk.length≤4096
 end_:C.end_≤4096
 at_:∀t∈C.tk,t.at_≤4096
 txt:∀t∈C.tk,t.t.length≤4096∧t.k≤2
structure PS.Ok (C:PC) (s:PS):Prop where
 i:s.i≤C.tk.length
 n:s.n≤1000
 at_:s.at_≤4096
 e:s.e≤100
 deep:s.deep≤40
def PS.cells (C:PC) (L:PL) (s:PS):Array Value:= #[.slice L.A C.tk.length L.c,.int .i64 s.i,.int .i64 C.end_,.int .i64 s.e,.int .i64 s.at_,.int .i64 s.deep,.int .i64 s.n]
structure PAt (C:PC) (L:PL) (s:PS) (w:World):Prop where
 fit:C.Fit
 ok:s.Ok C
 hold:Holds w L.g 70 (s.cells C L)
 row:Row w L.g L.A (C.tk.flatMap Tok.cells)
def PL.v (L:PL):Value:= .pointer (some ⟨L.g,0,none⟩)
section
variable {C:PC} {L:PL} {s s2:PS} {w w':World}
theorem PAt.lt (h:PAt C L s w):L.g<w.heap.size:=h.hold.lt
theorem PAt.below {B:Nat} (h:PAt C L s w) (hb:Below B w w') (hB:L.g<B):PAt C L s w':=
 ⟨h.fit,h.ok,h.hold.below hb hB,h.row.keep fun p hp=>hb.cell (by omega)⟩
theorem PAt.up (h:PAt C L s w) (hb:Below w.heap.size w w'):PAt C L s w':=h.below hb h.lt
theorem PAt.writes {M:List (Option Nat)} (h:PAt C L s w) (hW:Writes M w w') (hM:∀k,some k∈M→L.g<k):PAt C L s w':=
 ⟨h.fit,h.ok,hW.holds h.hold fun e=>by have:=hM _ e;omega,hW.row h.row (Nat.le_of_lt h.lt) fun hn e=>by
  obtain⟨b,off,hA,hb,_⟩:=h.row hn;rw[hA]at e;have:=hM b e
  omega⟩
theorem PAt.store (h:PAt C L s w) (i:Nat) (v:Value) (hc:(s.cells C L).setIfInBounds i v=s2.cells C L) (ho:s2.Ok C):PAt C L s2 (w.setCell ⟨L.g,i,none⟩ v)∧Writes [some L.g] w (w.setCell ⟨L.g,i,none⟩ v):=by
 refine⟨⟨h.fit,ho,?_,h.row.keep fun p hp=> ?_⟩,Writes.store w (by simp) v⟩
 ·rw[←hc];exact h.hold.store i v
 ·exact World.cell?_of_block (Below.heap_setCell w ⟨L.g,i,none⟩ v p.block (by simp only;omega))
theorem PAt.facts (h:PAt C L s w):L.g<w.heap.size∧w.cell? ⟨L.g,0,none⟩=some (.slice L.A C.tk.length L.c)∧w.cell? ⟨L.g,1,none⟩=some (.int .i64 s.i)∧w.cell? ⟨L.g,2,none⟩=some (.int .i64 C.end_)∧w.cell? ⟨L.g,3,none⟩=some (.int .i64 s.e)∧
  w.cell? ⟨L.g,4,none⟩=some (.int .i64 s.at_)∧w.cell? ⟨L.g,5,none⟩=some (.int .i64 s.deep)∧w.cell? ⟨L.g,6,none⟩=some (.int .i64 s.n)∧(∀i,w.frozen? ⟨L.g,i,none⟩=false):=
 ⟨h.lt,by rw[h.hold.cell];rfl,by rw[h.hold.cell];rfl,by rw[h.hold.cell];rfl,by rw[h.hold.cell];rfl,by rw[h.hold.cell];rfl,by rw[h.hold.cell];rfl,by rw[h.hold.cell];rfl,fun i=>h.hold.frozen i⟩
theorem PAt.bounds (h:PAt C L s w):C.tk.length≤4096∧C.end_≤4096∧s.i≤C.tk.length∧s.e≤100∧s.at_≤4096∧s.deep≤40∧s.n≤1000:=⟨h.fit.len,h.fit.end_,h.ok.i,h.ok.e,h.ok.at_,h.ok.deep,h.ok.n⟩
theorem vH (l:List Tok):∀(k:Nat) (hk:k<l.length) (r:Nat) (v:Value),l[k].cells[r]? =some v→(l.flatMap Tok.cells)[k*3+r]? =some v:=by
 induction l with
 |nil=>intro k hk;simp at hk
 |cons a l ih=>
  intro k hk r v h;rw[List.flatMap_cons]
  cases k with
  |zero=>
   have hr:r<a.cells.length:=(List.getElem?_eq_some_iff.1 h).1;rw[Nat.zero_mul,Nat.zero_add,List.getElem?_append_left hr];exact h
  |succ k=>
   have hc:a.cells.length=3:=rfl;rw[List.getElem?_append_right (by rw[hc];omega),hc];have:=ih k (by simpa using hk) r v (by simpa using h);rw[←this];congr 1;omega
theorem PAt.tok (h:PAt C L s w) {k:Nat} (hk:k<C.tk.length):∃b off,L.A=some ⟨b,off,none⟩∧b<L.g∧w.cell? ⟨b,off+k*3,none⟩=some (.int .i64 C.tk[k].k)∧w.cell? ⟨b,off+k*3+1,none⟩=some (.string (ay C.tk[k].t))∧w.cell? ⟨b,off+k*3+2,none⟩=some (.int .i64 C.tk[k].at_):=by
 obtain⟨b,off,e,hb,hc⟩:=h.row (by
  intro e;have:=vH C.tk k hk 0 _ rfl;rw[e]at this
  cases this)
 exact⟨b,off,e,hb,by have:=hc _ _ (vH C.tk k hk 0 _ rfl);simpa[Nat.add_assoc]using this,by have:=hc _ _ (vH C.tk k hk 1 _ rfl);simpa[Nat.add_assoc]using this,by have:=hc _ _ (vH C.tk k hk 2 _ rfl);simpa[Nat.add_assoc]using this⟩
end
theorem below_drewN {B:Nat} {w w':World} (h:Below B w w') (n:Nat):Below B w (w'.drewN n):=⟨h.os,h.tape,h.output,h.size,h.block⟩
theorem aH (l:List UInt8):(ay l).toList=l:=by
 unfold ay;rw[ByteArray.toList_eq]
theorem mJ {C:PC} {L:PL} (w:World) (s:PS) (k:Nat) (hP:PAt C L s w) (hk:k≠0∧k≤100):
  Calls Tryz.prog 35 #[.pointer (some ⟨L.g,0,none⟩),.int .i64 k] w fun e w'=>e= .returned (.tuple #[])∧PAt C L (bT C k s) w'∧Writes [some L.g] w w':=by
 obtain⟨h0,c0,c1,c2,c3,c4,c5,c6,hfz⟩:=hP.facts;obtain⟨b1,b2,b3,b4,b5,b6,b7⟩:=hP.bounds;by_cases he:s.e=0
 ·have he':((s.e:Int)==0)=true:=by simp;omega
  have s1:=hP.store (s2:={s with e:=k}) 3 (.int .i64 k) rfl ⟨hP.ok.i,hP.ok.n,hP.ok.at_,hk.2,hP.ok.deep⟩;have s2:=s1.1.store (s2:={s with e:=k,at_:=C.end_}) 4 (.int .i64 C.end_) rfl ⟨hP.ok.i,hP.ok.n,b2,hk.2,hP.ok.deep⟩;have hW:=Za (s1.2.trans s2.2);obtain⟨wa,hwa⟩:∃x,x=(w.setCell ⟨L.g,3,none⟩ (.int .i64 k)).setCell ⟨L.g,4,none⟩ (.int .i64 C.end_):=⟨_,rfl⟩;rw[←hwa]at s2 hW;have hPa:=s2.1;clear s1 s2 hP;obtain⟨a0,d0,d1,d2,d3,d4,d5,d6,dfz⟩:=hPa.facts;by_cases hi:s.i<C.tk.length
  ·have hF:bT C k s={s with e:=k,at_:=C.tk[s.i].at_}:=by unfold bT;rw[if_pos he,List.getElem?_eq_getElem hi]
   rw[hF];clear hF;obtain⟨b,off,hA,hbg,t0,t1,t2⟩:=hPa.tok hi;have hPa:=Za hPa;go_enter Tryz.func35,Tryz.ntmps35;go_wp2_with fail;rw[←hwa];go_quiet (fail);have hPb:=hPa.out.up (below_drewN (Below.refl _ wa) nq);have hWb:=Za (hW.out.trans (Writes.of_below (below_drewN (Below.refl _ wa) nq) _));obtain⟨wb,hwb⟩:∃x,x=wa.drewN nq:=⟨_,rfl⟩;rw[←hwb]at hPb hWb⊢;clear hwb a0 d0 d1 d2 d3 d4 d5 d6 dfz t0 t1 t2 hPa hwa hW;obtain⟨a0,d0,d1,d2,d3,d4,d5,d6,dfz⟩:=hPb.facts;obtain⟨b',off',hA',hbg,t0,t1,t2⟩:=hPb.tok hi;rw[hA]at hA';injection hA' with hA';injection hA' with hb1 hb2;subst hb1 hb2;have hPb:=Za hPb;go_wp2_with fail
   go_still_tail 14,(by kernel_rfl)
   have hPc:=hPb.out.up (Below.refl _ wb).drew;have hWc:=hWb.out.trans (Writes.of_below (Below.refl _ wb).drew _);change wpList _ _ _ _ _ wb.drew;obtain⟨wc,hwc⟩:∃x,x=wb.drew:=⟨_,rfl⟩;rw[←hwc]at hPc hWc⊢;clear hwc a0 d0 d1 d2 d3 d4 d5 d6 dfz t0 t1 t2 hPb hWb;obtain⟨a0,d0,d1,d2,d3,d4,d5,d6,dfz⟩:=hPc.facts;have hPc:=Za hPc;have hWc:=Za hWc;go_wp2_with fail;go_end0;have s3:=hPc.out.store (s2:={s with e:=k,at_:=C.tk[s.i].at_}) 4 (.int .i64 C.tk[s.i].at_) rfl ⟨hPc.out.ok.i,hPc.out.ok.n,hPc.out.fit.at_ _ (List.getElem_mem hi),hPc.out.ok.e,hPc.out.ok.deep⟩;exact⟨rfl,s3.1,hWc.out.trans s3.2⟩
  ·have hF:bT C k s={s with e:=k,at_:=C.end_}:=by unfold bT;rw[if_pos he,List.getElem?_eq_none (by omega)]
   rw[hF];clear hF;have hPa:=Za hPa;go_enter Tryz.func35,Tryz.ntmps35;go_wp2_with fail;rw[←hwa];go_quiet (fail);go_wp2_with fail;go_end0;exact⟨rfl,hPa.out.up (below_drewN (Below.refl _ _) _),hW.out.trans (Writes.of_below (below_drewN (Below.refl _ _) _) _)⟩
 ·have he':((s.e:Int)==0)=false:=by simp;omega
  have hF:bT C k s=s:=by unfold bT;rw[if_neg he]
  rw[hF];clear hF;have hP:=Za hP;go_enter Tryz.func35,Tryz.ntmps35;go_wp2_with fail;go_end0;exact⟨rfl,hP.out,Writes.refl _ _⟩
theorem DW {C:PC} {L:PL} (w:World) (s:PS) (t:List UInt8) (hP:PAt C L s w):
  Calls Tryz.prog 33 #[.pointer (some ⟨L.g,0,none⟩),.string ⟨t.toArray⟩] w fun e w'=>e= .returned (.bool (isF C t s))∧∃n,w'=w.drewN n:=by
 obtain⟨a0,d0,d1,d2,d3,d4,d5,d6,dfz⟩:=hP.facts;obtain⟨b1,b2,b3,b4,b5,b6,b7⟩:=hP.bounds;by_cases he:s.e=0
 ·have he':((s.e:Int)==0)=true:=by simp;omega
  by_cases hi:s.i<C.tk.length
  ·have hi2:decide (s.i<C.tk.length)=true:=by simpa using hi
   obtain⟨b,off,hA,hbg,t0,t1,t2⟩:=hP.tok hi;have hk:=(hP.fit.txt _ (List.getElem_mem hi)).2;obtain⟨x,hx⟩:∃x,x=C.tk[s.i]:=⟨_,rfl⟩
   have hF:isF C t s=(x.k !=1&&x.t==t):=by unfold isF;rw[he,List.getElem?_eq_getElem hi,hx];rfl
   rw[←hx]at t0 t1 t2 hk;rw[hF];clear hF hx hP he;by_cases h1:x.k=1
   ·have h1':((x.k:Int) !=1)=false:=by simp;omega
    have hR:(x.k !=1&&x.t==t)=false:=by simp[h1]
    rw[hR];clear hR h1;go_enter Tryz.func33,Tryz.ntmps33;go_wp2_with fail;go_quiet (fail);go_wp2_with fail;go_ret;exact⟨rfl,_,rfl⟩
   ·have h1':((x.k:Int) !=1)=true:=by simp;omega
    have hst:Hid (((ay x.t).toList==t)=(x.t==t)):=Za (by rw[aH])
    have hR:(x.k !=1&&x.t==t)=(x.t==t):=by simp[h1]
    rw[hR];clear hR h1;go_enter Tryz.func33,Tryz.ntmps33;go_wp2_with fail;go_quiet (fail);go_wp2_with fail;go_ret;exact⟨Dl hst.out,_,rfl⟩
  ·have hi2:decide (s.i<C.tk.length)=false:=by simpa using hi
   have hF:isF C t s=false:=by unfold isF;rw[List.getElem?_eq_none (by omega)];simp
   rw[hF];clear hF hP he;go_enter Tryz.func33,Tryz.ntmps33;go_wp2_with fail;go_quiet (fail);go_wp2_with fail;go_ret;exact⟨rfl,_,rfl⟩
 ·have he':((s.e:Int)==0)=false:=by simp;omega
  have hF:isF C t s=false:=by unfold isF;rw[show(s.e==0)=false by simpa using he];rfl
  rw[hF];clear hF hP;go_enter Tryz.func33,Tryz.ntmps33;go_wp2_with fail;go_quiet (fail);go_wp2_with fail;go_ret;exact⟨rfl,_,rfl⟩
structure Moved (C:PC) (L:PL) (s2:PS) (w w':World):Prop where
 at_:PAt C L s2 w'
 wr:Writes [some L.g] w w'
section
variable {C:PC} {L:PL} {s s2 s3:PS} {w w' w'':World}
theorem Moved.refl (h:PAt C L s w):Moved C L s w w:=⟨h,Writes.refl _ _⟩
theorem Moved.drewN (h:PAt C L s w) (n:Nat):Moved C L s w (w.drewN n):=⟨h.up (below_drewN (Below.refl _ _) _),Writes.of_below (below_drewN (Below.refl _ _) _) _⟩
theorem Moved.trans (h:Moved C L s w w') (h2:Moved C L s2 w' w''):Moved C L s2 w w'':=⟨h2.at_,h.wr.trans h2.wr⟩
theorem Moved.below (h:Moved C L s w w') (hb:Below w'.heap.size w' w''):Moved C L s w w'':=⟨h.at_.up hb,h.wr.trans (Writes.of_below hb _)⟩
theorem Moved.store (h:Moved C L s w w') (i:Nat) (v:Value) (hc:(s.cells C L).setIfInBounds i v=s2.cells C L) (ho:s2.Ok C):Moved C L s2 w (w'.setCell ⟨L.g,i,none⟩ v):=by
 have:=h.at_.store (s2:=s2) i v hc ho;exact⟨this.1,h.wr.trans this.2⟩
theorem Moved.next (h:Moved C L s w w') (hi:s.i<C.tk.length):Moved C L s.next w (w'.setCell ⟨L.g,1,none⟩ (.int .i64 ((s.i:Int)+1))):=by
 refine h.store 1 _ ?_ ⟨hi,h.at_.ok.n,h.at_.ok.at_,h.at_.ok.e,h.at_.ok.deep⟩;simp[PS.cells,PS.next]
end
theorem take_any {C:PC} {L:PL} (w:World) (s:PS) (t:List UInt8) (hP:PAt C L s w):
  Calls Tryz.prog 31 #[.pointer (some ⟨L.g,0,none⟩),.string ⟨t.toArray⟩] w fun e w'=>e= .returned (.bool (isF C t s))∧Moved C L (if isF C t s then s.next else s) w w':=by
 obtain⟨b1,b2,b3,b4,b5,b6,b7⟩:=hP.bounds;have hc:=DW w s t hP
 cases hi:isF C t s with
 |false=>
  rw[hi]at hc;simp only[Bool.false_eq_true,if_false];have hP:=Za hP;clear hi;go_enter Tryz.func31,Tryz.ntmps31;go_wp2_with fail;refine hc.mono ?_;rintro e w1 ⟨rfl,n,rfl⟩;go_wp2_with fail;go_ret;exact⟨rfl,Moved.drewN hP.out n⟩
 |true=>
  rw[hi]at hc;simp only[if_true];have hlt:=dD hi;have hP:=Za hP;clear hi;go_enter Tryz.func31,Tryz.ntmps31;go_wp2_with fail;refine hc.mono ?_;clear hc;rintro e w1 ⟨rfl,n,hw1⟩;have hM:=Moved.drewN hP.out n;rw[←hw1]at hM;clear hw1 hP;obtain⟨a0,d0,d1,d2,d3,d4,d5,d6,dfz⟩:=hM.at_.facts;have hM:=Za hM;go_wp2_with fail;go_ret;exact⟨rfl,hM.out.next hlt⟩
theorem Ci {C:PC} {L:PL} (w:World) (s:PS) (t:List UInt8) (hP:PAt C L s w):
  Calls Tryz.prog 29 #[.pointer (some ⟨L.g,0,none⟩),.string ⟨t.toArray⟩] w fun e w'=>e= .returned (.tuple #[])∧Moved C L (aY C t s) w w':=by
 have hc:=take_any w s t hP;unfold aY
 cases hi:isF C t s with
 |false=>
  rw[hi]at hc;simp only[Bool.false_eq_true,if_false]at hc⊢;clear hi hP;go_enter Tryz.func29,Tryz.ntmps29;go_wp2_with fail;refine hc.mono ?_;clear hc;rintro e w1 ⟨rfl,hM⟩;have hc:=mJ w1 s 51 hM.at_ (by decide);have hM:=Za hM;go_wp2_with fail;refine hc.mono ?_;clear hc;rintro e w2 ⟨rfl,hP,hW⟩;have hM2:=Za (hM.out.trans ⟨hP,hW⟩);clear hP hW hM;go_wp2_with fail;go_end0;exact⟨rfl,hM2.out⟩
 |true=>
  rw[hi]at hc;simp only[if_true]at hc⊢;clear hi hP;go_enter Tryz.func29,Tryz.ntmps29;go_wp2_with fail;refine hc.mono ?_;clear hc;rintro e w1 ⟨rfl,hM⟩;have hM:=Za hM;go_wp2_with fail;go_end0;exact⟨rfl,hM.out⟩
def Cc:List Value:=gU.map fun l=> .string (ay l)
theorem EG (k:Nat) (hk:k<11):Cc[k]? =some (.string (ay (gU.getD k []))):=by
 match k,hk with
 |0,_=>rfl
 |1,_=>rfl
 |2,_=>rfl
 |3,_=>rfl
 |4,_=>rfl
 |5,_=>rfl
 |6,_=>rfl
 |7,_=>rfl
 |8,_=>rfl
 |9,_=>rfl
 |10,_=>rfl
theorem tK {α:Type} (l:List α) (p:α→Bool) (k:Nat) (hk:k<l.length):(l.take (k+1)).any p=((l.take k).any p||p l[k]):=by
 rw[List.take_succ_eq_append_getElem hk,List.any_append];simp
theorem Ce (w:World) (t:List UInt8):
  Calls Tryz.prog 116 #[.string (ay t)] w fun e w'=>e= .returned (.bool (qp t))∧Below w.heap.size w w':=by
 obtain⟨wa,hwa⟩:∃x,x=w.alloc (.cells #[.string ⟨#[102,110]⟩,.string ⟨#[118,97,114]⟩,.string ⟨#[112,116,114]⟩,.string ⟨#[105,102]⟩,.string ⟨#[101,108,115,101]⟩,.string ⟨#[119,104,105,108,101]⟩,.string ⟨#[114,101,116,117,114,110]⟩,.string ⟨#[97,115,115,101,114,116]⟩,.string ⟨#[110,117,108,108]⟩,.string ⟨#[99,101,108,108]⟩,.string ⟨#[97,114,114,97,121]⟩] 9):=⟨_,rfl⟩
 have hH:Holds wa w.heap.size 9 Cc.toArray:=by rw[hwa];exact Holds.new w _ _
 have hB:Hid (Below w.heap.size w wa):=Za (by rw[hwa];exact aA w _);go_enter Tryz.func116,Tryz.ntmps116;go_wp2_with fail;rw[←hwa];clear hwa;obtain⟨g,hg⟩:∃x,x=w.heap.size:=⟨_,rfl⟩;rw[←hg]at hH⊢;clear hg;have hH:=Za hH
 go_loop [4] (fun i=>∃k:Nat,k≤11∧i= .int .i64 k∧Hid ((gU.take k).any (fun x=>x==t)=false)) (fun i=>11-(intOf i).toNat)
 case atStart=>exact⟨0,by omega,rfl,Za rfl⟩
 case round=>
  obtain⟨k,hk,rfl,hT⟩:=hrel;by_cases hlt:k<11
  ·have hlt':(k:Int)<11:=by omega
   have hc:wa.cell? ⟨g,k,none⟩=some (.string (ay (gU.getD k []))):=by rw[hH.out.cell];simpa using EG k hlt
   have hs:=tK gU (fun x=>x==t) k hlt
   have hgd:gU.getD k []=gU[k]:=by rw[List.getD_eq_getElem?_getD,List.getElem?_eq_getElem hlt];rfl
   rw[hgd]at hc
   have he:((ay gU[k]).toList==(ay t).toList)=(gU[k]==t):=by rw[aH,aH]
   have hl:=hH.out.lt
   cases hx:(gU[k]==t)with
   |true=>
    rw[hx]at he;have hr:Hid (qp t=true):=Za (List.any_eq_true.2 ⟨_,List.getElem_mem hlt,hx⟩);clear hs hx hgd;generalize ay gU[k]=sk at hc he;go_wp2_with fail;go_ret;rw[hr.out];exact⟨rfl,hB.out⟩
   |false=>
    rw[hx]at he;have hT2:Hid ((gU.take (k+1)).any (fun x=>x==t)=false):=Za (by rw[hs,hT.out,hx];rfl);clear hs hx hgd hT;generalize ay gU[k]=sk at hc he;go_wp2_with fail;go_round
    case rel=>exact⟨k+1,by omega,by go_num,hT2⟩
    case measure=>simp[intOf];omega
  ·obtain rfl:k=11:=by omega
   have hr:Hid (qp t=false):=Za hT.out;clear hT;go_wp2_with fail;go_ret;rw[hr.out];exact⟨rfl,hB.out⟩
theorem uJ {C:PC} {L:PL} (w:World) (s:PS) (hP:PAt C L s w):
  Calls Tryz.prog 64 #[.pointer (some ⟨L.g,0,none⟩)] w fun e w'=>e= .returned (.bool (cu C s))∧Below w.heap.size w w':=by
 obtain⟨a0,d0,d1,d2,d3,d4,d5,d6,dfz⟩:=hP.facts;obtain⟨b1,b2,b3,b4,b5,b6,b7⟩:=hP.bounds;by_cases he:s.e=0
 ·have he':((s.e:Int)==0)=true:=by simp;omega
  by_cases hi:s.i<C.tk.length
  ·have hi2:decide (s.i<C.tk.length)=true:=by simpa using hi
   obtain⟨b,off,hA,hbg,t0,t1,t2⟩:=hP.tok hi;have hk:=(hP.fit.txt _ (List.getElem_mem hi)).2;obtain⟨x,hx⟩:∃x,x=C.tk[s.i]:=⟨_,rfl⟩
   have hF:cu C s=(x.k==0&& !qp x.t):=by unfold cu;rw[he,List.getElem?_eq_getElem hi,hx];rfl
   rw[←hx]at t0 t1 t2 hk;rw[hF];clear hF hx he;by_cases h1:x.k=0
   ·have h1':((x.k:Int)==0)=true:=by simp;omega
    have hR:(x.k==0&& !qp x.t)= !qp x.t:=by simp[h1]
    rw[hR];clear hR h1;have hP:=Za hP;go_enter Tryz.func64,Tryz.ntmps64;go_wp2_with fail
    go_still_tail 43,(by kernel_rfl)
    have hb:=(Below.refl w.heap.size w).drew;change wpList _ _ _ _ _ w.drew;obtain⟨wb,hwb⟩:∃x,x=w.drew:=⟨_,rfl⟩;rw[←hwb]at hb⊢;clear hwb;have hb:=Za hb;clear t0 t1 t2 d0 d1 d2 d3 d4 d5 d6 dfz;go_wp2_with fail;refine(Ce wb x.t).mono ?_;rintro e w1 ⟨rfl,hb1⟩;have hb2:=Za (hb.out.trans (hb1.mono hb.out.size));clear hb1;go_wp2_with fail;go_ret;exact⟨rfl,hb2.out⟩
   ·have h1':((x.k:Int)==0)=false:=by simp;omega
    have hR:(x.k==0&& !qp x.t)=false:=by simp[h1]
    rw[hR];clear hR h1;go_enter Tryz.func64,Tryz.ntmps64;go_wp2_with fail;go_quiet (fail);go_wp2_with fail;go_ret;exact⟨rfl,below_drewN (Below.refl _ _) _⟩
  ·have hi2:decide (s.i<C.tk.length)=false:=by simpa using hi
   have hF:cu C s=false:=by unfold cu;rw[List.getElem?_eq_none (by omega)];simp
   rw[hF];clear hF hP he;go_enter Tryz.func64,Tryz.ntmps64;go_wp2_with fail;go_quiet (fail);go_wp2_with fail;go_ret;exact⟨rfl,below_drewN (Below.refl _ _) _⟩
 ·have he':((s.e:Int)==0)=false:=by simp;omega
  have hF:cu C s=false:=by unfold cu;rw[show(s.e==0)=false by simpa using he];rfl
  rw[hF];clear hF hP;go_enter Tryz.func64,Tryz.ntmps64;go_wp2_with fail;go_quiet (fail);go_wp2_with fail;go_ret;exact⟨rfl,below_drewN (Below.refl _ _) _⟩
theorem name_any {C:PC} {L:PL} (w:World) (s:PS) (hP:PAt C L s w):
  Calls Tryz.prog 30 #[.pointer (some ⟨L.g,0,none⟩)] w fun e w'=>e= .returned (.string (ay (aK C s).1))∧Moved C L (aK C s).2 w w'∧(aK C s).1.length≤4096:=by
 have hc:=uJ w s hP
 cases hi:cu C s with
 |false=>
  have hF:aK C s=([],bT C 51 s):=by unfold aK;rw[hi];rfl
  rw[hF];clear hF;rw[hi]at hc;have hP:=Za hP;clear hi;go_enter Tryz.func30,Tryz.ntmps30;go_wp2_with fail;refine hc.mono ?_;clear hc;rintro e w1 ⟨rfl,hb⟩;have hM:=(Moved.refl hP.out).below hb;have hc:=mJ w1 s 51 hM.at_ (by decide);have hM:=Za hM;clear hb;go_wp2_with fail;refine hc.mono ?_;clear hc;rintro e w2 ⟨rfl,hP,hW⟩;have hM2:=Za (hM.out.trans ⟨hP,hW⟩);clear hP hW hM;go_wp2_with fail;go_ret;exact⟨rfl,hM2.out,by simp⟩
 |true=>
  have hlt:=uK hi
  have hF:aK C s=(C.tk[s.i].t,s.next):=by unfold aK;rw[hi,List.getElem?_eq_getElem hlt];rfl
  rw[hF];clear hF;rw[hi]at hc;have htx:=(hP.fit.txt _ (List.getElem_mem hlt)).1;obtain⟨b1,b2,b3,b4,b5,b6,b7⟩:=hP.bounds;have hP:=Za hP;clear hi;go_enter Tryz.func30,Tryz.ntmps30;go_wp2_with fail;refine hc.mono ?_;clear hc;rintro e w1 ⟨rfl,hb⟩;have hM:=(Moved.refl hP.out).below hb;obtain⟨a0,d0,d1,d2,d3,d4,d5,d6,dfz⟩:=hM.at_.facts;have hM2:=hM.next hlt;obtain⟨wb,hwb⟩:∃x,x=w1.setCell ⟨L.g,1,none⟩ (.int .i64 ((s.i:Int)+1)):=⟨_,rfl⟩;rw[←hwb]at hM2;obtain⟨b,off,hA,hbg,t0,t1,t2⟩:=hM2.at_.tok hlt;have hwr:IntKind.i64.wrap ((s.i:Int)+1)=(s.i:Int)+1:=IntWalk.i64_in _ (by omega)
  have hsub:IntKind.i64.wrap ((s.i:Int)+1-1)=(s.i:Int):=by rw[IntWalk.i64_in _ (by omega)];omega
  clear hb hM hP;go_wp2_with fail;rw[←hwb];clear hwb a0 d0 d1 d2 d3 d4 d5 d6 dfz;obtain⟨a0,d0,d1,d2,d3,d4,d5,d6,dfz⟩:=hM2.at_.facts
  have e1:((s.next.i:Nat):Int)=(s.i:Int)+1:=by simp[PS.next]
  rw[e1]at d1;have hM2:=Za hM2;clear e1;go_quiet (fail);go_wp2_with fail;go_ret;exact⟨rfl,hM2.out.below (below_drewN (Below.refl _ _) _),htx⟩
theorem open_any {C:PC} {L:PL} (w:World) (s:PS) (hP:PAt C L s w):
  Calls Tryz.prog 34 #[.pointer (some ⟨L.g,0,none⟩)] w fun e w'=>e= .returned (.bool (aV C s).1)∧Moved C L (aV C s).2 w w':=by
 obtain⟨a0,d0,d1,d2,d3,d4,d5,d6,dfz⟩:=hP.facts;obtain⟨b1,b2,b3,b4,b5,b6,b7⟩:=hP.bounds;by_cases he:s.e=0
 ·have he':((s.e:Int) !=0)=false:=by simp;omega
  by_cases hd:40≤s.deep
  ·have hF:aV C s=(false,bT C 52 s):=by unfold aV;rw[if_neg (by omega),if_pos hd]
   rw[hF];have hc:=mJ w s 52 hP (by decide);clear hF hP;go_enter Tryz.func34,Tryz.ntmps34;go_wp2_with fail;refine hc.mono ?_;clear hc;rintro e w1 ⟨rfl,hP,hW⟩;have hM:=Za (⟨hP,hW⟩:Moved _ _ _ _ _);clear hP hW;go_wp2_with fail;go_ret;exact⟨rfl,hM.out⟩
  ·have hF:aV C s=(true,{s with deep:=s.deep+1}):=by unfold aV;rw[if_neg (by omega),if_neg hd]
   rw[hF];have hP:=Za hP;clear hF;go_enter Tryz.func34,Tryz.ntmps34;go_wp2_with fail;go_ret;exact⟨rfl,(Moved.refl hP.out).store 5 _ (by simp[PS.cells]) ⟨hP.out.ok.i,hP.out.ok.n,hP.out.ok.at_,hP.out.ok.e,by simp only;omega⟩⟩
 ·have he':((s.e:Int) !=0)=true:=by simp;omega
  have hF:aV C s=(false,s):=by unfold aV;rw[if_pos he]
  rw[hF];have hP:=Za hP;clear hF;go_enter Tryz.func34,Tryz.ntmps34;go_wp2_with fail;go_ret;exact⟨rfl,Moved.refl hP.out⟩
theorem A_ (l:List UInt8) (c:UInt8) (n:Int):rD (l++ [c]) n=w64 (w64 (10*rD l n)+(c-48).toNat):=by
 induction l generalizing n with
 |nil=>rfl
 |cons a r ih=>exact ih _
theorem Cj (x:Int):w64 x=wrap64 x:=by unfold w64 wrap64;rfl
theorem sub48 (c:UInt8):(((c-48).toNat:Nat):Int)=((c.toNat:Int)-48)%256:=by
 have h:=c.toNat_lt;rw[UInt8.toNat_sub];simp;omega
theorem qO (s:ByteArray) (k:Nat) (h:k<s.size):s.data.toList.take (k+1)=s.data.toList.take k++ [s[k]]:=by
 rw[List.take_succ_eq_append_getElem (by simpa using h)];rfl
theorem yR (w:World) (s:ByteArray) (hs:s.size≤4096):
  Calls Tryz.prog 65 #[.string s] w fun e w'=>e= .returned (.int .i64 (rD s.data.toList 0))∧w'=w:=by
 go_enter Tryz.func65,Tryz.ntmps65;go_wp2_with fail
 go_loop [3,4] (fun n i=>∃k:Nat,k≤s.size∧i= .int .i64 k∧n= .int .i64 (rD (s.data.toList.take k) 0)) (fun _ i=>s.size-(intOf i).toNat)
 case atStart=>exact⟨0,Nat.zero_le _,rfl,rfl⟩
 case round=>
  obtain⟨k,hk,rfl,rfl⟩:=hrel;by_cases hlt:k<s.size
  ·have HS:Hid (rD (s.data.toList.take (k+1)) 0=wrap64 (wrap64 (10*rD (s.data.toList.take k) 0)+((s[k].toNat:Int)-48)%256)):=Za (by rw[qO s k hlt,A_,Cj,Cj,sub48]);generalize rD (s.data.toList.take k) 0=n0 at HS⊢;go_wp2_with fail;go_round
   case rel=>exact⟨k+1,by omega,by go_num,by rw[HS.out]⟩
   case measure=>simp[intOf];omega
  ·go_wp2_with fail;go_ret;exact⟨EO (by rw[List.take_of_length_le (by simp;omega)]),rfl⟩
def aJ (w:World) (S:Nat→Prop):Ex→Value→Prop
 | .nil,v=>v= .pointer none
 | .mk k n nm a b,v=>∃g va vb,v= .pointer (some ⟨g,0,none⟩)∧S g∧nm.length≤4096∧k≤7∧
   Holds w g 205 #[.int .i64 k,.int .i64 n,.string (ay nm),va,vb]∧aJ w S a va∧aJ w S b vb
theorem aJ.keep {w w':World} {S:Nat→Prop} (hk:∀x,x<w.heap.size→S x→w'.heap[x]? =w.heap[x]?):∀{e:Ex} {v:Value},aJ w S e v→aJ w' S e v
 | .nil,_,h=>h
 | .mk _ _ _ _ _,_,h=>by obtain⟨g,va,vb,e,hS,hn,hk7,hH,ha,hb⟩:=h;exact⟨g,va,vb,e,hS,hn,hk7,(hk g hH.lt hS).trans hH,ha.keep hk,hb.keep hk⟩
theorem aJ.mono {w:World} {S S':Nat→Prop} (hk:∀x,x<w.heap.size→S x→S' x):∀{e:Ex} {v:Value},aJ w S e v→aJ w S' e v
 | .nil,_,h=>h
 | .mk _ _ _ _ _,_,h=>by obtain⟨g,va,vb,e,hS,hn,hk7,hH,ha,hb⟩:=h;exact⟨g,va,vb,e,hk g hH.lt hS,hn,hk7,hH,ha.mono hk,hb.mono hk⟩
theorem aJ.below {w w':World} {S:Nat→Prop} {e:Ex} {v:Value} (h:aJ w S e v) (hb:Below w.heap.size w w'):aJ w' S e v:=h.keep fun x hx _=>hb.block x hx
theorem aJ.writes {w w':World} {M:List (Option Nat)} {S:Nat→Prop} {e:Ex} {v:Value} (h:aJ w S e v) (hW:Writes M w w') (hM:∀k,some k∈M→¬S k):aJ w' S e v:=h.keep fun x hx hS=>hW.block x hx fun e=>hM x e hS
def Ge (B x:Nat):Prop:=B≤x
theorem aJ.ge {w:World} {B B':Nat} {e:Ex} {v:Value} (h:aJ w (Ge B') e v) (hB:B≤B'):aJ w (Ge B) e v:=h.mono fun _ _ h=>Nat.le_trans hB h
theorem aJ.node {w:World} {S:Nat→Prop} {a b:Ex} {va vb:Value} (k:Nat) (n:Int) (nm:List UInt8) (hk:k≤7) (hn:nm.length≤4096) (hS:S w.heap.size) (ha:aJ w S a va) (hb:aJ w S b vb):
  aJ (w.alloc (.cells #[.int .i64 k,.int .i64 n,.string (ay nm),va,vb] 205)) S (.mk k n nm a b) (.pointer (some ⟨w.heap.size,0,none⟩)):=
 ⟨_,va,vb,rfl,hS,hn,hk,Holds.new _ _ _,ha.below (aA w _),hb.below (aA w _)⟩
theorem aJ.new {w:World} {B g:Nat} {a b:Ex} {va vb:Value} (k:Nat) (n:Int) (nm:List UInt8) (hk:k≤7) (hn:nm.length≤4096) (hB:B≤w.heap.size) (hg:g=w.heap.size) (ha:aJ w (Ge B) a va) (hb:aJ w (Ge B) b vb):
  aJ (w.alloc (.cells #[.int .i64 k,.int .i64 n,.string (ay nm),va,vb] 205)) (Ge B) (.mk k n nm a b) (.pointer (some ⟨g,0,none⟩)):=by
 subst hg;exact aJ.node k n nm hk hn hB ha hb
theorem gV (w:World) (p:Addr) (v:Value):(w.setCell p v).heap.size=w.heap.size:=by simp[World.setCell]
theorem aJ.pw {w w':World} {B g:Nat} {e:Ex} {v:Value} (h:aJ w (Ge B) e v) (hW:Writes [some g] w w') (hg:g<B):aJ w' (Ge B) e v:=
 h.writes hW fun k hk hge=>by simp at hk;subst hk;exact absurd hge (Nat.not_le_of_lt hg)
theorem aJ.nil_ (w:World) (S:Nat→Prop):aJ w S .nil (.pointer none):=rfl
theorem aJ.vp {w:World} {S:Nat→Prop} {e:Ex} {v:Value} (h:aJ w S e v):∃p,v= .pointer p:=by
 cases e with
 |nil=>exact⟨_,h⟩
 |mk k n nm a b=>
  obtain⟨g,va,vb,e,_⟩:=h;exact⟨_,e⟩
def fA (C:PC) (L:PL) (r:Ex×PS) (w:World) (e:Ending) (w':World):Prop:=∃p,e= .returned (.pointer p)∧Moved C L r.2 w w'∧aJ w' (Ge w.heap.size) r.1 (.pointer p)
theorem fA.of {C:PC} {L:PL} {r:Ex×PS} {w w':World} {p:Option Addr} (h:Moved C L r.2 w w') (h2:aJ w' (Ge w.heap.size) r.1 (.pointer p)):fA C L r w (.returned (.pointer p)) w':=⟨p,rfl,h,h2⟩
section
variable {C:PC} {L:PL} {s s2:PS} {w0 w w':World}
theorem aG (hM:Moved C L s w0 w) (t:List UInt8) {b:Bool} (hb:isF C t s=b):Calls Tryz.prog 33 #[.pointer (some ⟨L.g,0,none⟩),.string ⟨t.toArray⟩] w fun e w'=>e= .returned (.bool b)∧Moved C L s w0 w'∧Writes [some L.g] w w':=by
 refine(DW w s t hM.at_).mono ?_;rintro e w' ⟨rfl,n,rfl⟩;rw[hb];exact⟨rfl,hM.below (below_drewN (Below.refl _ _) _),Writes.of_below (below_drewN (Below.refl _ _) _) _⟩
theorem bg (hM:Moved C L s w0 w) (t:List UInt8) (hb:isF C t s=false):Calls Tryz.prog 31 #[.pointer (some ⟨L.g,0,none⟩),.string ⟨t.toArray⟩] w fun e w'=>e= .returned (.bool false)∧Moved C L s w0 w'∧Writes [some L.g] w w':=by
 refine(take_any w s t hM.at_).mono ?_;rintro e w' ⟨rfl,h⟩;rw[hb]at h⊢;exact⟨rfl,hM.trans h,h.wr⟩
theorem dH (hM:Moved C L s w0 w) (t:List UInt8) (hb:isF C t s=true) (hs:s.next=s2):Calls Tryz.prog 31 #[.pointer (some ⟨L.g,0,none⟩),.string ⟨t.toArray⟩] w fun e w'=>e= .returned (.bool true)∧Moved C L s2 w0 w'∧Writes [some L.g] w w':=by
 subst hs;refine(take_any w s t hM.at_).mono ?_;rintro e w' ⟨rfl,h⟩;rw[hb]at h⊢;exact⟨rfl,hM.trans h,h.wr⟩
theorem bf (hM:Moved C L s w0 w) (t:List UInt8) (hs:aY C t s=s2):Calls Tryz.prog 29 #[.pointer (some ⟨L.g,0,none⟩),.string ⟨t.toArray⟩] w fun e w'=>e= .returned (.tuple #[])∧Moved C L s2 w0 w'∧Writes [some L.g] w w':=by
 subst hs;refine(Ci w s t hM.at_).mono ?_;rintro e w' ⟨rfl,h⟩;exact⟨rfl,hM.trans h,h.wr⟩
theorem fF (hM:Moved C L s w0 w) (k:Nat) (hk:k≠0∧k≤100) (hs:bT C k s=s2):Calls Tryz.prog 35 #[.pointer (some ⟨L.g,0,none⟩),.int .i64 k] w fun e w'=>e= .returned (.tuple #[])∧Moved C L s2 w0 w'∧Writes [some L.g] w w':=by
 subst hs;refine(mJ w s k hM.at_ hk).mono ?_;rintro e w' ⟨rfl,h1,h2⟩;exact⟨rfl,hM.trans ⟨h1,h2⟩,h2⟩
theorem aX (hM:Moved C L s w0 w) {b:Bool} (hb:cu C s=b):Calls Tryz.prog 64 #[.pointer (some ⟨L.g,0,none⟩)] w fun e w'=>e= .returned (.bool b)∧Moved C L s w0 w'∧Writes [some L.g] w w':=by
 refine(uJ w s hM.at_).mono ?_;rintro e w' ⟨rfl,h⟩;rw[hb];exact⟨rfl,hM.below h,Writes.of_below h _⟩
theorem dR (hM:Moved C L s w0 w) {x:List UInt8} (hs:aK C s=(x,s2)):Calls Tryz.prog 30 #[.pointer (some ⟨L.g,0,none⟩)] w fun e w'=>e= .returned (.string (ay x))∧Moved C L s2 w0 w'∧x.length≤4096∧Writes [some L.g] w w':=by
 refine(name_any w s hM.at_).mono ?_;rintro e w' ⟨rfl,h,hl⟩;rw[hs]at h hl⊢;exact⟨rfl,hM.trans h,hl,h.wr⟩
theorem eu (hM:Moved C L s w0 w) {b:Bool} (hs:aV C s=(b,s2)):Calls Tryz.prog 34 #[.pointer (some ⟨L.g,0,none⟩)] w fun e w'=>e= .returned (.bool b)∧Moved C L s2 w0 w'∧Writes [some L.g] w w':=by
 refine(open_any w s hM.at_).mono ?_;rintro e w' ⟨rfl,h⟩;rw[hs]at h⊢;exact⟨rfl,hM.trans h,h.wr⟩
theorem Moved.shut (h:Moved C L s w0 w) (hd:1≤s.deep):Moved C L s.shut w0 (w.setCell ⟨L.g,5,none⟩ (.int .i64 ((s.deep:Int)-1))):=by
 refine h.store 5 _ ?_ ⟨h.at_.ok.i,h.at_.ok.n,h.at_.ok.at_,h.at_.ok.e,by have:=h.at_.ok.deep;simp only[PS.shut];omega⟩;simp[PS.cells,PS.shut];omega
theorem Moved.facts (h:Moved C L s w0 w):L.g<w.heap.size∧w.cell? ⟨L.g,0,none⟩=some (.slice L.A C.tk.length L.c)∧w.cell? ⟨L.g,1,none⟩=some (.int .i64 s.i)∧w.cell? ⟨L.g,2,none⟩=some (.int .i64 C.end_)∧w.cell? ⟨L.g,3,none⟩=some (.int .i64 s.e)∧
  w.cell? ⟨L.g,4,none⟩=some (.int .i64 s.at_)∧w.cell? ⟨L.g,5,none⟩=some (.int .i64 s.deep)∧w.cell? ⟨L.g,6,none⟩=some (.int .i64 s.n)∧(∀i,w.frozen? ⟨L.g,i,none⟩=false):=h.at_.facts
theorem Moved.bounds (h:Moved C L s w0 w):C.tk.length≤4096∧C.end_≤4096∧s.i≤C.tk.length∧s.e≤100∧s.at_≤4096∧s.deep≤40∧s.n≤1000:=h.at_.bounds
theorem dh {i:Nat} (h:i≤5000):IntKind.i64.wrap ((i:Int)+1)=(i:Int)+1:=IntWalk.i64_in _ (by omega)
theorem lK {i:Nat} (h:1≤i) (h2:i≤5000):IntKind.i64.wrap ((i:Int)-1)=(i:Int)-1:=IntWalk.i64_in _ (by omega)
end
def dG (f:Nat) (m:Nat) (F:PC→PS→Ex×PS):Prop:=∀(C:PC) (L:PL) (w:World) (s:PS),PAt C L s w→m≤s.deep→Calls Tryz.prog f #[.pointer (some ⟨L.g,0,none⟩)] w (fA C L (F C s) w)
theorem dG.from_ {f m:Nat} {F:PC→PS→Ex×PS} (h:dG f m F) {C:PC} {L:PL} {s:PS} {w0 w:World} {r:Ex×PS} (hM:Moved C L s w0 w) (hm:m≤s.deep) (hr:F C s=r):
  Calls Tryz.prog f #[.pointer (some ⟨L.g,0,none⟩)] w fun e w'=>∃p,e= .returned (.pointer p)∧Moved C L r.2 w0 w'∧aJ w' (Ge w0.heap.size) r.1 (.pointer p)∧Writes [some L.g] w w':=by
 subst hr;refine(h C L w s hM.at_ hm).mono ?_;rintro e w' ⟨p,rfl,h1,h2⟩;exact⟨p,rfl,hM.trans h1,h2.ge hM.wr.size,h1.wr⟩
theorem Moved.tok {C:PC} {L:PL} {s:PS} {w0 w:World} (h:Moved C L s w0 w) {k b off:Nat} {x:Tok} (hx:C.tk[k]? =some x) (hA:L.A=some ⟨b,off,none⟩):
  w.cell? ⟨b,off+k*3,none⟩=some (.int .i64 x.k)∧w.cell? ⟨b,off+k*3+1,none⟩=some (.string (ay x.t))∧w.cell? ⟨b,off+k*3+2,none⟩=some (.int .i64 x.at_):=by
 obtain⟨hk,rfl⟩:=List.getElem?_eq_some_iff.1 hx;obtain⟨b',off',hA',_,h1,h2,h3⟩:=h.at_.tok hk;rw[hA]at hA';injection hA' with hA';injection hA' with e1 e2;subst e1 e2;exact⟨h1,h2,h3⟩
theorem iV {α β:Type} {x:α×β} {a:α} (h:x.1=a):x=(a,x.2):=by rw[←h]
theorem zF (m:Nat) (sum un:PC→PS→Ex×PS) (hsum:dG 130 (m+1) sum) (hun:dG 191 (m+1) un)
  (hs1:∀C s,Stp C s (sum C s).2) (hs2:∀C s,Stp C s (un C s).2):dG 191 m (fun C=>unF C (sum C) (un C)):=by
 intro C L w s hP hm;obtain⟨a0,d0,d1,d2,d3,d4,d5,d6,dfz⟩:=hP.facts;obtain⟨b1,b2,b3,b4,b5,b6,b7⟩:=hP.bounds;have hM:=Za (Moved.refl hP);have hlt0:=hP.lt;show Calls _ _ _ _ (fA C L (unF C (sum C) (un C) s) w);obtain⟨R,hR⟩:∃x,x=unF C (sum C) (un C) s:=⟨_,rfl⟩;rw[←hR];by_cases he:s.e=0
 case neg=>
  have he':((s.e:Int) !=0)=true:=by simp;omega
  have hF:Hid (R=(.nil,bT C 51 s)):=Za (by rw[hR];unfold unF;rw[if_pos he]);clear hP he hR;go_enter Tryz.func191,Tryz.ntmps191;go_wp2_with fail;go_quiet (fail);go_wp2_with fail;refine(fF (hM.out.below (below_drewN (Below.refl _ _) _)) 51 (by decide) rfl).mono ?_;rintro e w1 ⟨rfl,h1,-⟩;have h1:=Za h1;clear a0 d0 d1 d2 d3 d4 d5 d6 dfz;go_wp2_with fail;go_ret;rw[hF.out];exact fA.of h1.out (aJ.nil_ _ _)
 have he':((s.e:Int) !=0)=false:=by simp;omega
 by_cases hi:s.i<C.tk.length
 case neg=>
  have hi2:decide (C.tk.length≤s.i)=true:=by simpa using hi
  have hF:Hid (R=(.nil,bT C 51 s)):=Za (by rw[hR];unfold unF;rw[if_neg (by omega),List.getElem?_eq_none (by omega)]);clear hP he hR;go_enter Tryz.func191,Tryz.ntmps191;go_wp2_with fail;go_quiet (fail);go_wp2_with fail;refine(fF (hM.out.below (below_drewN (Below.refl _ _) _)) 51 (by decide) rfl).mono ?_;rintro e w1 ⟨rfl,h1,-⟩;have h1:=Za h1;clear a0 d0 d1 d2 d3 d4 d5 d6 dfz;go_wp2_with fail;go_ret;rw[hF.out];exact fA.of h1.out (aJ.nil_ _ _)
 have hi2:decide (C.tk.length≤s.i)=false:=by simpa using hi
 have hx:=List.getElem?_eq_getElem hi
 cases h45:isF C [45] s with
 |true=>
  cases ho:(aV C s).1 with
  |false=>
   have hF:Hid (R=(.nil,(aV C s).2)):=Za (by rw[hR];unfold unF;rw[if_neg (by omega),hx];simp only[h45,ho];rfl);have ho':=Za (iV ho);replace h45:=Za h45;clear hP he hx hR ho;go_enter Tryz.func191,Tryz.ntmps191;go_wp2_with fail;go_quiet (fail);go_wp2_with fail;refine(aG (hM.out.below (below_drewN (Below.refl _ _) _)) [45] h45.out).mono ?_;rintro e w1 ⟨rfl,h1,-⟩;clear a0 d0 d1 d2 d3 d4 d5 d6 dfz;have h1:=Za h1;go_wp2_with fail;refine(eu h1.out ho'.out).mono ?_;rintro e w2 ⟨rfl,h2,-⟩;have h2:=Za h2;go_wp2_with fail;go_ret;rw[hF.out];exact fA.of h2.out (aJ.nil_ _ _)
  |true=>
   obtain⟨e1,_,hlt⟩:=iK ho;obtain⟨s2,hs2'⟩:∃x,x=(aV C s).2:=⟨_,rfl⟩;obtain⟨r,hr⟩:∃x,x=un C s2.next:=⟨_,rfl⟩;have hF:Hid (R=(.mk 7 0 [] r.1 .nil,r.2.shut)):=Za (by rw[hR,hr,hs2'];unfold unF;rw[if_neg (by omega),hx];simp only[h45,ho];rfl);have ho':Hid (aV C s=(true,s2)):=Za (by rw[hs2'];exact iV ho)
   have hi3:s2.i<C.tk.length:=by rw[hs2',e1];exact hi
   have hdp:m+1≤s2.next.deep:=by rw[hs2',e1];simp only[PS.next];omega
   have hd1:1≤r.2.deep:=by rw[hr,(hs2 C s2.next).dp];omega
   replace hr:=Za hr;replace h45:=Za h45;clear hP he hx hR ho e1 hs2';go_enter Tryz.func191,Tryz.ntmps191;go_wp2_with fail;go_quiet (fail);go_wp2_with fail;refine(aG (hM.out.below (below_drewN (Below.refl _ _) _)) [45] h45.out).mono ?_;rintro e w1 ⟨rfl,h1,-⟩;clear a0 d0 d1 d2 d3 d4 d5 d6 dfz;have h1:=Za h1;go_wp2_with fail;refine(eu h1.out ho'.out).mono ?_;rintro e w2 ⟨rfl,h2,-⟩;obtain⟨a0,d0,d1,d2,d3,d4,d5,d6,dfz⟩:=h2.facts;have h2:=Za h2;have hw1:=dh (i:=s2.i) (by omega);go_wp2_with fail;refine(hun.from_ (h2.out.next hi3) hdp hr.out.symm).mono ?_;rintro e w3 ⟨p,rfl,h3,hE,-⟩;clear a0 d0 d1 d2 d3 d4 d5 d6 dfz hw1 h2 h1;obtain⟨c1,c2,c3,c4,c5,c6,c7⟩:=h3.bounds;obtain⟨a0,d0,d1,d2,d3,d4,d5,d6,dfz⟩:=h3.facts;have h3:=Za h3;have hE:=Za hE;have hw1:=lK hd1 (by omega);go_wp2_with fail;go_ret;rw[hF.out];have h4:=h3.out.shut hd1;have hst:Writes [some L.g] w3 (w3.setCell ⟨L.g,5,none⟩ (.int .i64 ((r.2.deep:Int)-1))):=Writes.store w3 (by simp) _;have hE2:=hE.out.pw hst hlt0
   exact fA.of (h4.below (aA _ _)) (aJ.new 7 0 [] (by decide) (by simp) (Nat.le_trans h3.out.wr.size hst.size) (gV _ _ _).symm hE2 (aJ.nil_ _ _))
 |false=>
  cases h40:isF C [40] s with
  |true=>
   cases ho:(aV C s).1 with
   |false=>
    have hF:Hid (R=(.nil,(aV C s).2)):=Za (by rw[hR];unfold unF;rw[if_neg (by omega),hx];simp only[h45,h40,ho];rfl);have ho':=Za (iV ho);replace h45:=Za h45;replace h40:=Za h40;clear hP he hx hR ho;go_enter Tryz.func191,Tryz.ntmps191;go_wp2_with fail;go_quiet (fail);go_wp2_with fail;refine(aG (hM.out.below (below_drewN (Below.refl _ _) _)) [45] h45.out).mono ?_;rintro e w1 ⟨rfl,h1,-⟩;clear a0 d0 d1 d2 d3 d4 d5 d6 dfz;have h1:=Za h1;go_wp2_with fail;refine(aG h1.out [40] h40.out).mono ?_;rintro e w2 ⟨rfl,h2,-⟩;have h2:=Za h2;go_wp2_with fail;refine(eu h2.out ho'.out).mono ?_;rintro e w3 ⟨rfl,h3,-⟩;have h3:=Za h3;go_wp2_with fail;go_ret;rw[hF.out];exact fA.of h3.out (aJ.nil_ _ _)
   |true=>
    obtain⟨e1,_,hlt⟩:=iK ho;obtain⟨s2,hs2'⟩:∃x,x=(aV C s).2:=⟨_,rfl⟩;obtain⟨r,hr⟩:∃x,x=sum C s2.next:=⟨_,rfl⟩;obtain⟨s3,hs3⟩:∃x,x=aY C [41] r.2:=⟨_,rfl⟩;have hF:Hid (R=(r.1,s3.shut)):=Za (by rw[hR,hs3,hr,hs2'];unfold unF;rw[if_neg (by omega),hx];simp only[h45,h40,ho];rfl);have ho':Hid (aV C s=(true,s2)):=Za (by rw[hs2'];exact iV ho)
    have hi3:s2.i<C.tk.length:=by rw[hs2',e1];exact hi
    have hdp:m+1≤s2.next.deep:=by rw[hs2',e1];simp only[PS.next];omega
    have hd1:1≤s3.deep:=by rw[hs3,(Stp.want [41] r.2).dp,hr,(hs1 C s2.next).dp];omega
    replace hr:=Za hr;replace hs3:=Za hs3;replace h45:=Za h45;replace h40:=Za h40;clear hP he hx hR ho e1 hs2';go_enter Tryz.func191,Tryz.ntmps191;go_wp2_with fail;go_quiet (fail);go_wp2_with fail;refine(aG (hM.out.below (below_drewN (Below.refl _ _) _)) [45] h45.out).mono ?_;rintro e w1 ⟨rfl,h1,-⟩;clear a0 d0 d1 d2 d3 d4 d5 d6 dfz;have h1:=Za h1;go_wp2_with fail;refine(aG h1.out [40] h40.out).mono ?_;rintro e w2 ⟨rfl,h2,-⟩;have h2:=Za h2;go_wp2_with fail;refine(eu h2.out ho'.out).mono ?_;rintro e w3 ⟨rfl,h3,-⟩;obtain⟨a0,d0,d1,d2,d3,d4,d5,d6,dfz⟩:=h3.facts;have h3:=Za h3;have hw1:=dh (i:=s2.i) (by omega);go_wp2_with fail;refine(hsum.from_ (h3.out.next hi3) hdp hr.out.symm).mono ?_;rintro e w4 ⟨p,rfl,h4,hE,-⟩;clear a0 d0 d1 d2 d3 d4 d5 d6 dfz hw1 h2 h1 h3;have h4:=Za h4;have hE:=Za hE;go_wp2_with fail;refine(bf h4.out [41] hs3.out.symm).mono ?_;rintro e w5 ⟨rfl,h5,hW5⟩;have hE5:=Za (hE.out.pw hW5 hlt0);clear hW5 hE h4;obtain⟨c1,c2,c3,c4,c5,c6,c7⟩:=h5.bounds;obtain⟨a0,d0,d1,d2,d3,d4,d5,d6,dfz⟩:=h5.facts;have h5:=Za h5;have hw1:=lK hd1 (by omega)
    go_wp2_with fail;go_ret;rw[hF.out];have h6:=h5.out.shut hd1;have hst:Writes [some L.g] w5 (w5.setCell ⟨L.g,5,none⟩ (.int .i64 ((s3.deep:Int)-1))):=Writes.store w5 (by simp) _;exact fA.of h6 (hE5.out.pw hst hlt0)
  |false=>
   obtain⟨x,hxx⟩:∃x,x=C.tk[s.i]:=⟨_,rfl⟩;have hxt:=(hP.fit.txt _ (List.getElem_mem hi));obtain⟨b,off,hA,hbg,t0,t1,t2⟩:=hP.tok hi;rw[←hxx]at hx hxt t0 t1 t2;by_cases hx1:x.k=1
   ·have hF:Hid (R=(.mk 0 (rD x.t 0) [] .nil .nil,s.next)):=Za (by rw[hR];unfold unF;rw[if_neg (by omega),hx];simp only[h45,h40,hx1];rfl);replace h45:=Za h45;replace h40:=Za h40
    have hx1':((x.k:Int)==1)=true:=by simp;omega
    replace hx:=Za hx;clear hP he hR hxx hx1;go_enter Tryz.func191,Tryz.ntmps191;go_wp2_with fail;go_quiet (fail);go_wp2_with fail;refine(aG (hM.out.below (below_drewN (Below.refl _ _) _)) [45] h45.out).mono ?_;rintro e w1 ⟨rfl,h1,-⟩;clear a0 d0 d1 d2 d3 d4 d5 d6 dfz t0 t1 t2;have h1:=Za h1;go_wp2_with fail;refine(aG h1.out [40] h40.out).mono ?_;rintro e w2 ⟨rfl,h2,-⟩;obtain⟨a0,d0,d1,d2,d3,d4,d5,d6,dfz⟩:=h2.facts;obtain⟨t0,t1,t2⟩:=h2.tok hx.out hA;have h2:=Za h2;clear h1;go_wp2_with fail;go_quiet (fail);have h3:=h2.out.below (below_drewN (Below.refl _ w2) nq);obtain⟨w3,hw3⟩:∃x,x=w2.drewN nq:=⟨_,rfl⟩;rw[←hw3]at h3⊢;clear hw3 a0 d0 d1 d2 d3 d4 d5 d6 dfz t0 t1 t2 h2;obtain⟨a0,d0,d1,d2,d3,d4,d5,d6,dfz⟩:=h3.facts;have h4:=h3.next hi;obtain⟨w4,hw4⟩:∃x,x=w3.setCell ⟨L.g,1,none⟩ (.int .i64 ((s.i:Int)+1)):=⟨_,rfl⟩;rw[←hw4]at h4;have hw1:=dh (i:=s.i) (by omega);go_wp2_with fail;rw[←hw4];clear hw4 a0 d0 d1 d2 d3 d4 d5 d6 dfz h3 hw1;obtain⟨a0,d0,d1,d2,d3,d4,d5,d6,dfz⟩:=h4.facts;obtain⟨t0,t1,t2⟩:=h4.tok hx.out hA
    have e1:((s.next.i:Nat):Int)=(s.i:Int)+1:=by simp[PS.next]
    rw[e1]at d1;clear e1;have h4:=Za h4
    have hsub:IntKind.i64.wrap ((s.i:Int)+1-1)=(s.i:Int):=by rw[IntWalk.i64_in _ (by omega)];omega
    have hsub2:IntKind.i64.wrap (s.i:Int)=(s.i:Int):=IntWalk.i64_in _ (by omega);have hnum:=yR w4.drew (ay x.t) (by rw[oK];exact hxt.1)
    go_still_tail 12,(by kernel_rfl)
    have h5:=Za (h4.out.below (Below.refl _ w4).drew);change wpList _ _ _ _ _ w4.drew;obtain⟨w5,hw5⟩:∃x,x=w4.drew:=⟨_,rfl⟩;rw[←hw5]at h5 hnum⊢;clear hw5 a0 d0 d1 d2 d3 d4 d5 d6 dfz t0 t1 t2 h4 hsub hsub2;go_wp2_with fail;refine hnum.mono ?_;clear hnum;rintro e w6 ⟨rfl,hw6⟩;subst hw6;go_wp2_with fail;go_ret;rw[hF.out];exact fA.of (h5.out.below (aA _ _)) (aJ.new 0 (rD x.t 0) [] (by decide) (by simp) h5.out.wr.size rfl (aJ.nil_ _ _) (aJ.nil_ _ _))
   ·cases hn:cu C s with
    |true=>
     obtain⟨nm,hnm⟩:∃y,y=(aK C s).1:=⟨_,rfl⟩;obtain⟨s2,hs2'⟩:∃y,y=(aK C s).2:=⟨_,rfl⟩;have hnf:Hid (aK C s=(nm,s2)):=Za (by rw[hnm,hs2']);have hF:Hid (R=(.mk 1 0 nm .nil .nil,s2)):=Za (by rw[hR,hnm,hs2'];unfold unF;rw[if_neg (by omega),hx];simp only[h45,h40,hx1,hn];rfl);replace h45:=Za h45;replace h40:=Za h40;replace hn:=Za hn;replace hx:=Za hx
     have hx1':((x.k:Int)==1)=false:=by simp;omega
     clear hP he hR hxx hx1 hnm hs2';go_enter Tryz.func191,Tryz.ntmps191;go_wp2_with fail;go_quiet (fail);go_wp2_with fail;refine(aG (hM.out.below (below_drewN (Below.refl _ _) _)) [45] h45.out).mono ?_;rintro e w1 ⟨rfl,h1,-⟩;clear a0 d0 d1 d2 d3 d4 d5 d6 dfz t0 t1 t2;have h1:=Za h1;go_wp2_with fail;refine(aG h1.out [40] h40.out).mono ?_;rintro e w2 ⟨rfl,h2,-⟩;obtain⟨a0,d0,d1,d2,d3,d4,d5,d6,dfz⟩:=h2.facts;obtain⟨t0,t1,t2⟩:=h2.tok hx.out hA;have h2:=Za h2;clear h1;go_wp2_with fail;go_quiet (fail);go_wp2_with fail;refine(aX (h2.out.below (below_drewN (Below.refl _ _) _)) hn.out).mono ?_;rintro e w3 ⟨rfl,h3,-⟩;clear a0 d0 d1 d2 d3 d4 d5 d6 dfz t0 t1 t2 h2;have h3:=Za h3;go_wp2_with fail;refine(dR h3.out hnf.out).mono ?_;rintro e w4 ⟨rfl,h4,hl,-⟩;have h4:=Za h4;clear h3;go_wp2_with fail;go_ret;rw[hF.out];exact fA.of (h4.out.below (aA _ _)) (aJ.new 1 0 nm (by decide) hl h4.out.wr.size rfl (aJ.nil_ _ _) (aJ.nil_ _ _))
    |false=>
     have hF:Hid (R=(.nil,bT C 51 s)):=Za (by rw[hR];unfold unF;rw[if_neg (by omega),hx];simp only[h45,h40,hx1,hn];rfl);replace h45:=Za h45;replace h40:=Za h40;replace hn:=Za hn;replace hx:=Za hx
     have hx1':((x.k:Int)==1)=false:=by simp;omega
     clear hP he hR hxx hx1;go_enter Tryz.func191,Tryz.ntmps191;go_wp2_with fail;go_quiet (fail);go_wp2_with fail;refine(aG (hM.out.below (below_drewN (Below.refl _ _) _)) [45] h45.out).mono ?_;rintro e w1 ⟨rfl,h1,-⟩;clear a0 d0 d1 d2 d3 d4 d5 d6 dfz t0 t1 t2;have h1:=Za h1;go_wp2_with fail;refine(aG h1.out [40] h40.out).mono ?_;rintro e w2 ⟨rfl,h2,-⟩;obtain⟨a0,d0,d1,d2,d3,d4,d5,d6,dfz⟩:=h2.facts;obtain⟨t0,t1,t2⟩:=h2.tok hx.out hA;have h2:=Za h2;clear h1;go_wp2_with fail;go_quiet (fail);go_wp2_with fail;refine(aX (h2.out.below (below_drewN (Below.refl _ _) _)) hn.out).mono ?_;rintro e w3 ⟨rfl,h3,-⟩;clear a0 d0 d1 d2 d3 d4 d5 d6 dfz t0 t1 t2 h2;have h3:=Za h3;go_wp2_with fail;refine(fF h3.out 51 (by decide) rfl).mono ?_;rintro e w4 ⟨rfl,h4,-⟩;have h4:=Za h4;clear h3;go_wp2_with fail;go_ret;rw[hF.out];exact fA.of h4.out (aJ.nil_ _ _)
def rG (L:PL) (w:World):Nat:=5000-(intOf ((w.cell? ⟨L.g,1,none⟩).getD undef)).toNat
theorem Moved.left {C:PC} {L:PL} {s:PS} {w0 w:World} (h:Moved C L s w0 w):rG L w=5000-s.i:=by
 obtain⟨a0,d0,d1,d2,d3,d4,d5,d6,dfz⟩:=h.facts;unfold rG;rw[d1];simp[intOf]
structure kL (C:PC) (L:PL) (kf:PS→Nat) (part:PS→Ex×PS) (m:Nat) (R:Ex×PS) (f:Nat) (a:Ex) (s:PS) (p:Option Addr) (w0 w:World):Prop where
 eq:moreL kf part f a s=R
 fuel:C.tk.length<s.i+f
 dp:m≤s.deep
 mv:Moved C L s w0 w
 tree:aJ w (Ge w0.heap.size) a (.pointer p)
theorem kL.stop {C:PC} {L:PL} {kf:PS→Nat} {part:PS→Ex×PS} {m:Nat} {R:Ex×PS} {f:Nat} {a:Ex} {s:PS} {p:Option Addr} {w0 w:World} (h:kL C L kf part m R f a s p w0 w) (hs:s.e≠0∨kf s=0):R=(a,s):=by
 rw[←h.eq]
 cases f with
 |zero=>rfl
 |succ f=>
  unfold moreL;rcases hs with hs|hs
  ·rw[if_pos hs]
  ·by_cases he:s.e≠0
   ·rw[if_pos he]
   ·rw[if_neg he,if_pos hs]
theorem kL.go_ {C:PC} {L:PL} {kf:PS→Nat} {part:PS→Ex×PS} {m:Nat} {R:Ex×PS} {f:Nat} {a:Ex} {s:PS} {p:Option Addr} {w0 w:World} (h:kL C L kf part m R f a s p w0 w) (he:s.e=0) {k:Nat} (hk:kf s=k) (hk0:k≠0) (hi:s.i<C.tk.length) (hp:∀s,Stp C s (part s).2):
  ∃f',moreL kf part f' (.mk k 0 [] a (part s.next).1) (part s.next).2=R∧C.tk.length<(part s.next).2.i+f'∧m≤(part s.next).2.deep∧s.i+1≤(part s.next).2.i:=by
 subst hk;have hi2:=(hp s.next).i1;have hd:=(hp s.next).dp;have hf:=h.fuel;have hdp:=h.dp;simp only[PS.next]at hi2 hd
 cases f with
 |zero=>omega
 |succ f=>
  refine⟨f,?_,by simp only[PS.next];omega,by simp only[PS.next];omega,hi2⟩;rw[←h.eq]
  conv=>rhs;unfold moreL
  rw[if_neg (by omega),if_neg hk0]
theorem uD (m:Nat) (un:PC→PS→Ex×PS) (hun:dG 191 m un) (hs:∀C s,Stp C s (un C s).2):dG 166 m (fun C=>nX C (un C)):=by
 intro C L w s hP hm;have hM:=Za (Moved.refl hP);have hlt0:=hP.lt;have hlen:=hP.fit.len;show Calls _ _ _ _ (fA C L (nX C (un C) s) w);obtain⟨R,hR⟩:∃x,x=nX C (un C) s:=⟨_,rfl⟩;rw[←hR];obtain⟨r,hr⟩:∃x,x=un C s:=⟨_,rfl⟩;have hd:=(hs C s).dp;rw[←hr]at hd;have hR2:Hid (moreL (gW C) (un C) (C.tk.length+1) r.1 r.2=R):=Za (by subst hr;exact hR.symm)
 have hdm:m≤r.2.deep:=by omega
 replace hr:=Za hr;clear hP hR hd;go_enter Tryz.func166,Tryz.ntmps166;go_wp2_with fail;refine(hun.from_ hM.out hm hr.out.symm).mono ?_;rintro e w1 ⟨p,rfl,h1,hE,-⟩;have hL1:Hid (kL C L (gW C) (un C) m R (C.tk.length+1) r.1 r.2 p w w1):=Za ⟨hR2.out,by omega,hdm,h1,hE⟩;clear h1 hE hR2 hr hdm;go_wp2_with fail;go_loopw [3] (fun av wr=>∃(f:Nat) (a:Ex) (t:PS) (p:Option Addr),av= .pointer p∧Hid (kL C L (gW C) (un C) m R f a t p w wr)) (fun _ wr=>rG L wr)
 case atStart=>exact⟨_,_,_,p,rfl,hL1⟩
 clear hL1;obtain⟨f,a,t,q,rfl,hL⟩:=hrel;obtain⟨a0,d0,d1,d2,d3,d4,d5,d6,dfz⟩:=hL.out.mv.facts;obtain⟨b1,b2,b3,b4,b5,b6,b7⟩:=hL.out.mv.bounds;by_cases he:t.e=0
 case neg=>
  have he':((t.e:Int)==0)=false:=by simp;omega
  have hF:=Za (hL.out.stop (.inl he));go_wp2_with fail;go_ret;rw[hF.out];exact fA.of hL.out.mv hL.out.tree
 have he':((t.e:Int)==0)=true:=by simp;omega
 have he0:=Za he;clear he
 cases h42:isF C [42] t with
 |true=>
  have hk:gW C t=4:=by unfold gW;simp[h42]
  replace h42:=Za h42;have hi:=dD h42.out;obtain⟨f',hE1,hE2,hE3,hE4⟩:=hL.out.go_ he0.out hk (by decide) hi (hs C);obtain⟨r,hr⟩:∃x,x=un C t.next:=⟨_,rfl⟩;rw[←hr]at hE1 hE2 hE3 hE4;replace hr:=Za hr;replace hE1:=Za hE1;clear hk;go_wp2_with fail;refine(aG hL.out.mv [42] h42.out).mono ?_;rintro e v0 ⟨rfl,hV0,hW0⟩;have hT0:=Za (aJ.pw (hL.out.tree) hW0 hlt0);clear hW0;clear a0 d0 d1 d2 d3 d4 d5 d6 dfz;obtain⟨a0,d0,d1,d2,d3,d4,d5,d6,dfz⟩:=hV0.facts;replace hV0:=Za hV0;have hw1:=dh (i:=t.i) (by omega);go_wp2_with fail;have hst:Writes [some L.g] v0 (v0.setCell ⟨L.g,1,none⟩ (.int .i64 ((t.i:Int)+1))):=Writes.store v0 (by simp) _;have hTs:=Za (hT0.out.pw hst hlt0);refine(hun.from_ (hV0.out.next hi) (by have:=hL.out.dp;simpa[PS.next]using this) hr.out.symm).mono ?_;rintro e w2 ⟨p2,rfl,h2,hE,hW2⟩;clear a0 d0 d1 d2 d3 d4 d5 d6 dfz hst;have hTa:=hTs.out.pw hW2 hlt0
  have hL2:Hid (kL C L (gW C) (un C) m R f' (.mk 4 0 [] a r.1) r.2 (some ⟨w2.heap.size,0,none⟩) w (w2.alloc (.cells #[.int .i64 4,.int .i64 0,.string ⟨#[]⟩,.pointer q,.pointer p2] 205))):=
   Za ⟨hE1.out,hE2,hE3,h2.below (aA _ _),aJ.new 4 0 [] (by decide) (by simp) h2.wr.size rfl hTa hE⟩
  have hm1:=hL.out.mv.left;have hm2:=hL2.out.mv.left;have hb2:=hL2.out.mv.bounds.2.2.1;clear hTa h2 hE hW2 hE1 hTs;go_wp2_with fail;exact⟨⟨_,_,_,_,rfl,hL2⟩,by rw[hm1,hm2];omega⟩
 |false=>
  cases h47:isF C [47] t with
  |true=>
   have hk:gW C t=5:=by unfold gW;simp[h42,h47]
   replace h42:=Za h42;replace h47:=Za h47;have hi:=dD h47.out;obtain⟨f',hE1,hE2,hE3,hE4⟩:=hL.out.go_ he0.out hk (by decide) hi (hs C);obtain⟨r,hr⟩:∃x,x=un C t.next:=⟨_,rfl⟩;rw[←hr]at hE1 hE2 hE3 hE4;replace hr:=Za hr;replace hE1:=Za hE1;clear hk;go_wp2_with fail;refine(aG hL.out.mv [42] h42.out).mono ?_;rintro e v0 ⟨rfl,hV0,hW0⟩;have hT0:=Za (aJ.pw (hL.out.tree) hW0 hlt0);clear hW0;clear a0 d0 d1 d2 d3 d4 d5 d6 dfz;replace hV0:=Za hV0;go_wp2_with fail;refine(aG hV0.out [47] h47.out).mono ?_;rintro e v1 ⟨rfl,hV1,hW1⟩;have hT1:=Za (aJ.pw (hT0.out) hW1 hlt0);clear hW1;obtain⟨a0,d0,d1,d2,d3,d4,d5,d6,dfz⟩:=hV1.facts;replace hV1:=Za hV1;have hw1:=dh (i:=t.i) (by omega);go_wp2_with fail;have hst:Writes [some L.g] v1 (v1.setCell ⟨L.g,1,none⟩ (.int .i64 ((t.i:Int)+1))):=Writes.store v1 (by simp) _;have hTs:=Za (hT1.out.pw hst hlt0);refine(hun.from_ (hV1.out.next hi) (by have:=hL.out.dp;simpa[PS.next]using this) hr.out.symm).mono ?_;rintro e w2 ⟨p2,rfl,h2,hE,hW2⟩;clear a0 d0 d1 d2 d3 d4 d5 d6 dfz hst;have hTa:=hTs.out.pw hW2 hlt0
   have hL2:Hid (kL C L (gW C) (un C) m R f' (.mk 5 0 [] a r.1) r.2 (some ⟨w2.heap.size,0,none⟩) w (w2.alloc (.cells #[.int .i64 5,.int .i64 0,.string ⟨#[]⟩,.pointer q,.pointer p2] 205))):=
    Za ⟨hE1.out,hE2,hE3,h2.below (aA _ _),aJ.new 5 0 [] (by decide) (by simp) h2.wr.size rfl hTa hE⟩
   have hm1:=hL.out.mv.left;have hm2:=hL2.out.mv.left;have hb2:=hL2.out.mv.bounds.2.2.1;clear hTa h2 hE hW2 hE1 hTs;go_wp2_with fail;exact⟨⟨_,_,_,_,rfl,hL2⟩,by rw[hm1,hm2];omega⟩
  |false=>
   cases h37:isF C [37] t with
   |true=>
    have hk:gW C t=6:=by unfold gW;simp[h42,h47,h37]
    replace h42:=Za h42;replace h47:=Za h47;replace h37:=Za h37;have hi:=dD h37.out;obtain⟨f',hE1,hE2,hE3,hE4⟩:=hL.out.go_ he0.out hk (by decide) hi (hs C);obtain⟨r,hr⟩:∃x,x=un C t.next:=⟨_,rfl⟩;rw[←hr]at hE1 hE2 hE3 hE4;replace hr:=Za hr;replace hE1:=Za hE1;clear hk;go_wp2_with fail;refine(aG hL.out.mv [42] h42.out).mono ?_;rintro e v0 ⟨rfl,hV0,hW0⟩;have hT0:=Za (aJ.pw (hL.out.tree) hW0 hlt0);clear hW0;clear a0 d0 d1 d2 d3 d4 d5 d6 dfz;replace hV0:=Za hV0;go_wp2_with fail;refine(aG hV0.out [47] h47.out).mono ?_;rintro e v1 ⟨rfl,hV1,hW1⟩;have hT1:=Za (aJ.pw (hT0.out) hW1 hlt0);clear hW1;replace hV1:=Za hV1;go_wp2_with fail;refine(aG hV1.out [37] h37.out).mono ?_;rintro e v2 ⟨rfl,hV2,hW2⟩;have hT2:=Za (aJ.pw (hT1.out) hW2 hlt0);clear hW2;obtain⟨a0,d0,d1,d2,d3,d4,d5,d6,dfz⟩:=hV2.facts;replace hV2:=Za hV2;have hw1:=dh (i:=t.i) (by omega);go_wp2_with fail;have hst:Writes [some L.g] v2 (v2.setCell ⟨L.g,1,none⟩ (.int .i64 ((t.i:Int)+1))):=Writes.store v2 (by simp) _;have hTs:=Za (hT2.out.pw hst hlt0)
    refine(hun.from_ (hV2.out.next hi) (by have:=hL.out.dp;simpa[PS.next]using this) hr.out.symm).mono ?_;rintro e w2 ⟨p2,rfl,h2,hE,hW2⟩;clear a0 d0 d1 d2 d3 d4 d5 d6 dfz hst;have hTa:=hTs.out.pw hW2 hlt0
    have hL2:Hid (kL C L (gW C) (un C) m R f' (.mk 6 0 [] a r.1) r.2 (some ⟨w2.heap.size,0,none⟩) w (w2.alloc (.cells #[.int .i64 6,.int .i64 0,.string ⟨#[]⟩,.pointer q,.pointer p2] 205))):=
     Za ⟨hE1.out,hE2,hE3,h2.below (aA _ _),aJ.new 6 0 [] (by decide) (by simp) h2.wr.size rfl hTa hE⟩
    have hm1:=hL.out.mv.left;have hm2:=hL2.out.mv.left;have hb2:=hL2.out.mv.bounds.2.2.1;clear hTa h2 hE hW2 hE1 hTs;go_wp2_with fail;exact⟨⟨_,_,_,_,rfl,hL2⟩,by rw[hm1,hm2];omega⟩
   |false=>
    have hk:gW C t=0:=by unfold gW;simp[h42,h47,h37]
    have hF:=Za (hL.out.stop (.inr hk));clear hk;replace h42:=Za h42;replace h47:=Za h47;replace h37:=Za h37;go_wp2_with fail;refine(aG hL.out.mv [42] h42.out).mono ?_;rintro e v0 ⟨rfl,hV0,hW0⟩;have hT0:=Za (aJ.pw (hL.out.tree) hW0 hlt0);clear hW0;replace hV0:=Za hV0;clear a0 d0 d1 d2 d3 d4 d5 d6 dfz;go_wp2_with fail;refine(aG hV0.out [47] h47.out).mono ?_;rintro e v1 ⟨rfl,hV1,hW1⟩;have hT1:=Za (aJ.pw (hT0.out) hW1 hlt0);clear hW1;replace hV1:=Za hV1;go_wp2_with fail;refine(aG hV1.out [37] h37.out).mono ?_;rintro e v2 ⟨rfl,hV2,hW2⟩;have hT2:=Za (aJ.pw (hT1.out) hW2 hlt0);clear hW2;replace hV2:=Za hV2;go_wp2_with fail;go_ret;rw[hF.out];exact fA.of hV2.out hT2.out
theorem wG (m:Nat) (prod:PC→PS→Ex×PS) (hprod:dG 166 m prod) (hs:∀C s,Stp C s (prod C s).2):dG 130 m (fun C s=>moreL (kS C) (prod C) (C.tk.length+1) (prod C s).1 (prod C s).2):=by
 intro C L w s hP hm;have hM:=Za (Moved.refl hP);have hlt0:=hP.lt;have hlen:=hP.fit.len;show Calls _ _ _ _ (fA C L (moreL (kS C) (prod C) (C.tk.length+1) (prod C s).1 (prod C s).2) w);obtain⟨R,hR⟩:∃x,x=moreL (kS C) (prod C) (C.tk.length+1) (prod C s).1 (prod C s).2:=⟨_,rfl⟩;rw[←hR];obtain⟨r,hr⟩:∃x,x=prod C s:=⟨_,rfl⟩;have hd:=(hs C s).dp;rw[←hr]at hd;have hR2:Hid (moreL (kS C) (prod C) (C.tk.length+1) r.1 r.2=R):=Za (by subst hr;exact hR.symm)
 have hdm:m≤r.2.deep:=by omega
 replace hr:=Za hr;clear hP hR hd;go_enter Tryz.func130,Tryz.ntmps130;go_wp2_with fail;refine(hprod.from_ hM.out hm hr.out.symm).mono ?_;rintro e w1 ⟨p,rfl,h1,hE,-⟩;have hL1:Hid (kL C L (kS C) (prod C) m R (C.tk.length+1) r.1 r.2 p w w1):=Za ⟨hR2.out,by omega,hdm,h1,hE⟩;clear h1 hE hR2 hr hdm;go_wp2_with fail;go_loopw [3] (fun av wr=>∃(f:Nat) (a:Ex) (t:PS) (p:Option Addr),av= .pointer p∧Hid (kL C L (kS C) (prod C) m R f a t p w wr)) (fun _ wr=>rG L wr)
 case atStart=>exact⟨_,_,_,p,rfl,hL1⟩
 clear hL1;obtain⟨f,a,t,q,rfl,hL⟩:=hrel;obtain⟨a0,d0,d1,d2,d3,d4,d5,d6,dfz⟩:=hL.out.mv.facts;obtain⟨b1,b2,b3,b4,b5,b6,b7⟩:=hL.out.mv.bounds;by_cases he:t.e=0
 case neg=>
  have he':((t.e:Int)==0)=false:=by simp;omega
  have hF:=Za (hL.out.stop (.inl he));go_wp2_with fail;go_ret;rw[hF.out];exact fA.of hL.out.mv hL.out.tree
 have he':((t.e:Int)==0)=true:=by simp;omega
 have he0:=Za he;clear he
 cases h45:isF C [45] t with
 |true=>
  have hk:kS C t=3:=by unfold kS;simp[h45]
  replace h45:=Za h45;have hi:=dD h45.out;obtain⟨f',hE1,hE2,hE3,hE4⟩:=hL.out.go_ he0.out hk (by decide) hi (hs C);obtain⟨r,hr⟩:∃x,x=prod C t.next:=⟨_,rfl⟩;rw[←hr]at hE1 hE2 hE3 hE4;replace hr:=Za hr;replace hE1:=Za hE1;clear hk;go_wp2_with fail;refine(aG hL.out.mv [45] h45.out).mono ?_;rintro e v0 ⟨rfl,hV0,hW0⟩;have hT0:=Za (aJ.pw (hL.out.tree) hW0 hlt0);clear hW0;clear a0 d0 d1 d2 d3 d4 d5 d6 dfz;obtain⟨a0,d0,d1,d2,d3,d4,d5,d6,dfz⟩:=hV0.facts;replace hV0:=Za hV0;have hw1:=dh (i:=t.i) (by omega);go_wp2_with fail;have hst:Writes [some L.g] v0 (v0.setCell ⟨L.g,1,none⟩ (.int .i64 ((t.i:Int)+1))):=Writes.store v0 (by simp) _;have hTs:=Za (hT0.out.pw hst hlt0);refine(hprod.from_ (hV0.out.next hi) (by have:=hL.out.dp;simpa[PS.next]using this) hr.out.symm).mono ?_;rintro e w2 ⟨p2,rfl,h2,hE,hW2⟩;clear a0 d0 d1 d2 d3 d4 d5 d6 dfz hst;have hTa:=hTs.out.pw hW2 hlt0
  have hL2:Hid (kL C L (kS C) (prod C) m R f' (.mk 3 0 [] a r.1) r.2 (some ⟨w2.heap.size,0,none⟩) w (w2.alloc (.cells #[.int .i64 3,.int .i64 0,.string ⟨#[]⟩,.pointer q,.pointer p2] 205))):=
   Za ⟨hE1.out,hE2,hE3,h2.below (aA _ _),aJ.new 3 0 [] (by decide) (by simp) h2.wr.size rfl hTa hE⟩
  have hm1:=hL.out.mv.left;have hm2:=hL2.out.mv.left;have hb2:=hL2.out.mv.bounds.2.2.1;clear hTa h2 hE hW2 hE1 hTs;go_wp2_with fail;exact⟨⟨_,_,_,_,rfl,hL2⟩,by rw[hm1,hm2];omega⟩
 |false=>
  cases h43:isF C [43] t with
  |true=>
   have hk:kS C t=2:=by unfold kS;simp[h45,h43]
   replace h45:=Za h45;replace h43:=Za h43;have hi:=dD h43.out;obtain⟨f',hE1,hE2,hE3,hE4⟩:=hL.out.go_ he0.out hk (by decide) hi (hs C);obtain⟨r,hr⟩:∃x,x=prod C t.next:=⟨_,rfl⟩;rw[←hr]at hE1 hE2 hE3 hE4;replace hr:=Za hr;replace hE1:=Za hE1;clear hk;go_wp2_with fail;refine(aG hL.out.mv [45] h45.out).mono ?_;rintro e v0 ⟨rfl,hV0,hW0⟩;have hT0:=Za (aJ.pw (hL.out.tree) hW0 hlt0);clear hW0;clear a0 d0 d1 d2 d3 d4 d5 d6 dfz;replace hV0:=Za hV0;go_wp2_with fail;refine(aG hV0.out [43] h43.out).mono ?_;rintro e v1 ⟨rfl,hV1,hW1⟩;have hT1:=Za (aJ.pw (hT0.out) hW1 hlt0);clear hW1;obtain⟨a0,d0,d1,d2,d3,d4,d5,d6,dfz⟩:=hV1.facts;replace hV1:=Za hV1;have hw1:=dh (i:=t.i) (by omega);go_wp2_with fail;have hst:Writes [some L.g] v1 (v1.setCell ⟨L.g,1,none⟩ (.int .i64 ((t.i:Int)+1))):=Writes.store v1 (by simp) _;have hTs:=Za (hT1.out.pw hst hlt0);refine(hprod.from_ (hV1.out.next hi) (by have:=hL.out.dp;simpa[PS.next]using this) hr.out.symm).mono ?_;rintro e w2 ⟨p2,rfl,h2,hE,hW2⟩;clear a0 d0 d1 d2 d3 d4 d5 d6 dfz hst;have hTa:=hTs.out.pw hW2 hlt0
   have hL2:Hid (kL C L (kS C) (prod C) m R f' (.mk 2 0 [] a r.1) r.2 (some ⟨w2.heap.size,0,none⟩) w (w2.alloc (.cells #[.int .i64 2,.int .i64 0,.string ⟨#[]⟩,.pointer q,.pointer p2] 205))):=
    Za ⟨hE1.out,hE2,hE3,h2.below (aA _ _),aJ.new 2 0 [] (by decide) (by simp) h2.wr.size rfl hTa hE⟩
   have hm1:=hL.out.mv.left;have hm2:=hL2.out.mv.left;have hb2:=hL2.out.mv.bounds.2.2.1;clear hTa h2 hE hW2 hE1 hTs;go_wp2_with fail;exact⟨⟨_,_,_,_,rfl,hL2⟩,by rw[hm1,hm2];omega⟩
  |false=>
   have hk:kS C t=0:=by unfold kS;simp[h45,h43]
   have hF:=Za (hL.out.stop (.inr hk));clear hk;replace h45:=Za h45;replace h43:=Za h43;go_wp2_with fail;refine(aG hL.out.mv [45] h45.out).mono ?_;rintro e v0 ⟨rfl,hV0,hW0⟩;have hT0:=Za (aJ.pw (hL.out.tree) hW0 hlt0);clear hW0;replace hV0:=Za hV0;clear a0 d0 d1 d2 d3 d4 d5 d6 dfz;go_wp2_with fail;refine(aG hV0.out [43] h43.out).mono ?_;rintro e v1 ⟨rfl,hV1,hW1⟩;have hT1:=Za (aJ.pw (hT0.out) hW1 hlt0);clear hW1;replace hV1:=Za hV1;go_wp2_with fail;go_ret;rw[hF.out];exact fA.of hV1.out hT1.out
theorem dG.vac (f:Nat) (F:PC→PS→Ex×PS):dG f 41 F:=fun C L w s hP hm=>absurd hP.ok.deep (by omega)
theorem j_:∀d,d≤40→dG 191 (40-d) (fun C=>unD C d)∧dG 166 (40-d) (fun C=>uG C d)∧dG 130 (40-d) (fun C=>sS C d)
 |0,_=>by
  have h1:dG 191 40 (fun C=>unD C 0):=zF 40 (fun _ s=>(.nil,s)) (fun _ s=>(.nil,s)) (dG.vac _ _) (dG.vac _ _) (fun _ s=>Stp.refl s) (fun _ s=>Stp.refl s);have h2:dG 166 40 (fun C=>uG C 0):=uD 40 (fun C=>unD C 0) h1 (fun C s=>kR 0 s);exact⟨h1,h2,wG 40 (fun C=>uG C 0) h2 (fun C s=>uF 0 s)⟩
 |d+1,hd=>by
  obtain⟨i1,i2,i3⟩:=j_ d (by omega)
  have e:40-d=40-(d+1)+1:=by omega
  rw[e]at i1 i2 i3;have h1:dG 191 (40-(d+1)) (fun C=>unD C (d+1)):=zF _ (fun C=>sS C d) (fun C=>unD C d) i3 i1 (fun C s=>fK d s) (fun C s=>kR d s);have h2:dG 166 (40-(d+1)) (fun C=>uG C (d+1)):=uD _ (fun C=>unD C (d+1)) h1 (fun C s=>kR (d+1) s);exact⟨h1,h2,wG _ (fun C=>uG C (d+1)) h2 (fun C s=>uF (d+1) s)⟩
def bC (w:World) (S:Nat→Prop):Cn→Value→Prop
 | .nil,v=>v= .pointer none
 | .mk k a b p q nm,v=>∃g va vb vp vq,v= .pointer (some ⟨g,0,none⟩)∧S g∧nm.length≤4096∧k≤9∧
   Holds w g 213 #[.int .i64 k,va,vb,vp,vq,.string (ay nm)]∧aJ w S a va∧aJ w S b vb∧bC w S p vp∧bC w S q vq
theorem bC.keep {w w':World} {S:Nat→Prop} (hk:∀x,x<w.heap.size→S x→w'.heap[x]? =w.heap[x]?):∀{e:Cn} {v:Value},bC w S e v→bC w' S e v
 | .nil,_,h=>h
 | .mk _ _ _ _ _ _,_,h=>by obtain⟨g,va,vb,vp,vq,e,hS,hn,hk9,hH,ha,hb,hp,hq⟩:=h;exact⟨g,va,vb,vp,vq,e,hS,hn,hk9,(hk g hH.lt hS).trans hH,ha.keep hk,hb.keep hk,hp.keep hk,hq.keep hk⟩
theorem bC.mono {w:World} {S S':Nat→Prop} (hk:∀x,x<w.heap.size→S x→S' x):∀{e:Cn} {v:Value},bC w S e v→bC w S' e v
 | .nil,_,h=>h
 | .mk _ _ _ _ _ _,_,h=>by obtain⟨g,va,vb,vp,vq,e,hS,hn,hk9,hH,ha,hb,hp,hq⟩:=h;exact⟨g,va,vb,vp,vq,e,hk g hH.lt hS,hn,hk9,hH,ha.mono hk,hb.mono hk,hp.mono hk,hq.mono hk⟩
theorem bC.below {w w':World} {S:Nat→Prop} {e:Cn} {v:Value} (h:bC w S e v) (hb:Below w.heap.size w w'):bC w' S e v:=h.keep fun x hx _=>hb.block x hx
theorem bC.writes {w w':World} {M:List (Option Nat)} {S:Nat→Prop} {e:Cn} {v:Value} (h:bC w S e v) (hW:Writes M w w') (hM:∀k,some k∈M→¬S k):bC w' S e v:=h.keep fun x hx hS=>hW.block x hx fun e=>hM x e hS
theorem bC.ge {w:World} {B B':Nat} {e:Cn} {v:Value} (h:bC w (Ge B') e v) (hB:B≤B'):bC w (Ge B) e v:=h.mono fun _ _ h=>Nat.le_trans hB h
theorem bC.pw {w w':World} {B g:Nat} {e:Cn} {v:Value} (h:bC w (Ge B) e v) (hW:Writes [some g] w w') (hg:g<B):bC w' (Ge B) e v:=
 h.writes hW fun k hk hge=>by simp at hk;subst hk;exact absurd hge (Nat.not_le_of_lt hg)
theorem bC.nil_ (w:World) (S:Nat→Prop):bC w S .nil (.pointer none):=rfl
theorem bC.new {w:World} {B g:Nat} {a b:Ex} {p q:Cn} {va vb vp vq:Value} (k:Nat) (nm:List UInt8) (hk:k≤9) (hn:nm.length≤4096) (hB:B≤w.heap.size) (hg:g=w.heap.size) (ha:aJ w (Ge B) a va) (hb:aJ w (Ge B) b vb) (hp:bC w (Ge B) p vp) (hq:bC w (Ge B) q vq):
  bC (w.alloc (.cells #[.int .i64 k,va,vb,vp,vq,.string (ay nm)] 213)) (Ge B) (.mk k a b p q nm) (.pointer (some ⟨g,0,none⟩)):=by
 subst hg;have hb':=aA w (.cells #[.int .i64 k,va,vb,vp,vq,.string (ay nm)] 213);exact⟨_,va,vb,vp,vq,rfl,hB,hn,hk,Holds.new _ _ _,ha.below hb',hb.below hb',hp.below hb',hq.below hb'⟩
def f_ (C:PC) (L:PL) (r:Cn×PS) (w:World) (e:Ending) (w':World):Prop:=∃p,e= .returned (.pointer p)∧Moved C L r.2 w w'∧bC w' (Ge w.heap.size) r.1 (.pointer p)
theorem f_.of {C:PC} {L:PL} {r:Cn×PS} {w w':World} {p:Option Addr} (h:Moved C L r.2 w w') (h2:bC w' (Ge w.heap.size) r.1 (.pointer p)):f_ C L r w (.returned (.pointer p)) w':=⟨p,rfl,h,h2⟩
def dL (f:Nat) (m:Nat) (F:PC→PS→Cn×PS):Prop:=∀(C:PC) (L:PL) (w:World) (s:PS),PAt C L s w→m≤s.deep→Calls Tryz.prog f #[.pointer (some ⟨L.g,0,none⟩)] w (f_ C L (F C s) w)
theorem dL.vac (f:Nat) (F:PC→PS→Cn×PS):dL f 41 F:=fun C L w s hP hm=>absurd hP.ok.deep (by omega)
theorem dL.from_ {f m:Nat} {F:PC→PS→Cn×PS} (h:dL f m F) {C:PC} {L:PL} {s:PS} {w0 w:World} {r:Cn×PS} (hM:Moved C L s w0 w) (hm:m≤s.deep) (hr:F C s=r):
  Calls Tryz.prog f #[.pointer (some ⟨L.g,0,none⟩)] w fun e w'=>∃p,e= .returned (.pointer p)∧Moved C L r.2 w0 w'∧bC w' (Ge w0.heap.size) r.1 (.pointer p)∧Writes [some L.g] w w':=by
 subst hr;refine(h C L w s hM.at_ hm).mono ?_;rintro e w' ⟨p,rfl,h1,h2⟩;exact⟨p,rfl,hM.trans h1,h2.ge hM.wr.size,h1.wr⟩
structure ny (C:PC) (L:PL) (t:List UInt8) (k:Nat) (part:PS→Cn×PS) (m:Nat) (R:Cn×PS) (f:Nat) (a:Cn) (s:PS) (p:Option Addr) (w0 w:World):Prop where
 eq:joinL C t k part f a s=R
 fuel:C.tk.length<s.i+f
 dp:m≤s.deep
 mv:Moved C L s w0 w
 tree:bC w (Ge w0.heap.size) a (.pointer p)
section
variable {C:PC} {L:PL} {t:List UInt8} {k:Nat} {part:PS→Cn×PS} {m:Nat} {R:Cn×PS} {f:Nat} {a:Cn} {s:PS} {p:Option Addr} {w0 w:World}
theorem ny.stop (h:ny C L t k part m R f a s p w0 w) (hs:isF C t s=false):R=(a,s):=by
 rw[←h.eq]
 cases f with
 |zero=>rfl
 |succ f=>unfold joinL;rw[hs];rfl
theorem ny.go_ (h:ny C L t k part m R f a s p w0 w) (hi:isF C t s=true) (hp:∀s,Stp C s (part s).2):
  ∃f',joinL C t k part f' (.mk k .nil .nil a (part s.next).1 []) (part s.next).2=R∧C.tk.length<(part s.next).2.i+f'∧m≤(part s.next).2.deep∧s.i+1≤(part s.next).2.i:=by
 have hi2:=(hp s.next).i1;have hd:=(hp s.next).dp;have hf:=h.fuel;have hdp:=h.dp;have hlt:=dD hi;simp only[PS.next]at hi2 hd
 cases f with
 |zero=>omega
 |succ f=>
  refine⟨f,?_,by simp only[PS.next];omega,by simp only[PS.next];omega,hi2⟩;rw[←h.eq]
  conv=>rhs;unfold joinL
  rw[hi];rfl
end
theorem yj (m:Nat) (part:PC→PS→Cn×PS) (hpart:dL 192 m part) (hs:∀C s,Stp C s (part C s).2):
  dL 167 m (fun C s=>joinL C [38,38] 6 (part C) (C.tk.length+1) (part C s).1 (part C s).2):=by
 intro C L w s hP hm;have hM:=Za (Moved.refl hP);have hlt0:=hP.lt;have hlen:=hP.fit.len;show Calls _ _ _ _ (f_ C L (joinL C [38,38] 6 (part C) (C.tk.length+1) (part C s).1 (part C s).2) w);obtain⟨R,hR⟩:∃x,x=joinL C [38,38] 6 (part C) (C.tk.length+1) (part C s).1 (part C s).2:=⟨_,rfl⟩;rw[←hR];obtain⟨r,hr⟩:∃x,x=part C s:=⟨_,rfl⟩;have hd:=(hs C s).dp;rw[←hr]at hd;have hR2:Hid (joinL C [38,38] 6 (part C) (C.tk.length+1) r.1 r.2=R):=Za (by subst hr;exact hR.symm)
 have hdm:m≤r.2.deep:=by omega
 replace hr:=Za hr;clear hP hR hd;go_enter Tryz.func167,Tryz.ntmps167;go_wp2_with fail;refine(hpart.from_ hM.out hm hr.out.symm).mono ?_;rintro e w1 ⟨p,rfl,h1,hE,-⟩;have hL1:Hid (ny C L [38,38] 6 (part C) m R (C.tk.length+1) r.1 r.2 p w w1):=Za ⟨hR2.out,by omega,hdm,h1,hE⟩;clear h1 hE hR2 hr hdm;go_wp2_with fail;go_loopw [3] (fun av wr=>∃(f:Nat) (a:Cn) (t:PS) (p:Option Addr),av= .pointer p∧Hid (ny C L [38,38] 6 (part C) m R f a t p w wr)) (fun _ wr=>rG L wr)
 case atStart=>exact⟨_,_,_,p,rfl,hL1⟩
 clear hL1;obtain⟨f,a,t,q,rfl,hL⟩:=hrel
 cases hi:isF C [38,38] t with
 |false=>
  have hF:=Za (hL.out.stop hi);replace hi:=Za hi;go_wp2_with fail;refine(bg hL.out.mv [38,38] hi.out).mono ?_;rintro e v0 ⟨rfl,hV0,hW0⟩;have hT0:=Za (hL.out.tree.pw hW0 hlt0);clear hW0;replace hV0:=Za hV0;go_wp2_with fail;go_ret;rw[hF.out];exact f_.of hV0.out hT0.out
 |true=>
  have hlt:=dD hi;obtain⟨f',hE1,hE2,hE3,hE4⟩:=hL.out.go_ hi (hs C);obtain⟨r,hr⟩:∃x,x=part C t.next:=⟨_,rfl⟩;rw[←hr]at hE1 hE2 hE3 hE4;replace hr:=Za hr;replace hE1:=Za hE1;replace hi:=Za hi;go_wp2_with fail;refine(dH hL.out.mv [38,38] hi.out rfl).mono ?_;rintro e v0 ⟨rfl,hV0,hW0⟩;have hT0:=Za (hL.out.tree.pw hW0 hlt0);clear hW0;replace hV0:=Za hV0;go_wp2_with fail;refine(hpart.from_ hV0.out (by have:=hL.out.dp;simpa[PS.next]using this) hr.out.symm).mono ?_;rintro e w2 ⟨p2,rfl,h2,hE,hW2⟩;have hTa:=hT0.out.pw hW2 hlt0
  have hL2:Hid (ny C L [38,38] 6 (part C) m R f' (.mk 6 .nil .nil a r.1 []) r.2 (some ⟨w2.heap.size,0,none⟩) w (w2.alloc (.cells #[.int .i64 6,.pointer none,.pointer none,.pointer q,.pointer p2,.string ⟨#[]⟩] 213))):=
   Za ⟨hE1.out,hE2,hE3,h2.below (aA _ _),bC.new 6 [] (by decide) (by simp) h2.wr.size rfl (aJ.nil_ _ _) (aJ.nil_ _ _) hTa hE⟩
  have hm1:=hL.out.mv.left;have hm2:=hL2.out.mv.left;have hb2:=hL2.out.mv.bounds.2.2.1;clear hTa h2 hE hW2 hE1;go_wp2_with fail;exact⟨⟨_,_,_,_,rfl,hL2⟩,by rw[hm1,hm2];omega⟩
theorem uQ (m:Nat) (part:PC→PS→Cn×PS) (hpart:dL 167 m part) (hs:∀C s,Stp C s (part C s).2):
  dL 131 m (fun C s=>joinL C [124,124] 7 (part C) (C.tk.length+1) (part C s).1 (part C s).2):=by
 intro C L w s hP hm;have hM:=Za (Moved.refl hP);have hlt0:=hP.lt;have hlen:=hP.fit.len;show Calls _ _ _ _ (f_ C L (joinL C [124,124] 7 (part C) (C.tk.length+1) (part C s).1 (part C s).2) w);obtain⟨R,hR⟩:∃x,x=joinL C [124,124] 7 (part C) (C.tk.length+1) (part C s).1 (part C s).2:=⟨_,rfl⟩;rw[←hR];obtain⟨r,hr⟩:∃x,x=part C s:=⟨_,rfl⟩;have hd:=(hs C s).dp;rw[←hr]at hd;have hR2:Hid (joinL C [124,124] 7 (part C) (C.tk.length+1) r.1 r.2=R):=Za (by subst hr;exact hR.symm)
 have hdm:m≤r.2.deep:=by omega
 replace hr:=Za hr;clear hP hR hd;go_enter Tryz.func131,Tryz.ntmps131;go_wp2_with fail;refine(hpart.from_ hM.out hm hr.out.symm).mono ?_;rintro e w1 ⟨p,rfl,h1,hE,-⟩;have hL1:Hid (ny C L [124,124] 7 (part C) m R (C.tk.length+1) r.1 r.2 p w w1):=Za ⟨hR2.out,by omega,hdm,h1,hE⟩;clear h1 hE hR2 hr hdm;go_wp2_with fail;go_loopw [3] (fun av wr=>∃(f:Nat) (a:Cn) (t:PS) (p:Option Addr),av= .pointer p∧Hid (ny C L [124,124] 7 (part C) m R f a t p w wr)) (fun _ wr=>rG L wr)
 case atStart=>exact⟨_,_,_,p,rfl,hL1⟩
 clear hL1;obtain⟨f,a,t,q,rfl,hL⟩:=hrel
 cases hi:isF C [124,124] t with
 |false=>
  have hF:=Za (hL.out.stop hi);replace hi:=Za hi;go_wp2_with fail;refine(bg hL.out.mv [124,124] hi.out).mono ?_;rintro e v0 ⟨rfl,hV0,hW0⟩;have hT0:=Za (hL.out.tree.pw hW0 hlt0);clear hW0;replace hV0:=Za hV0;go_wp2_with fail;go_ret;rw[hF.out];exact f_.of hV0.out hT0.out
 |true=>
  have hlt:=dD hi;obtain⟨f',hE1,hE2,hE3,hE4⟩:=hL.out.go_ hi (hs C);obtain⟨r,hr⟩:∃x,x=part C t.next:=⟨_,rfl⟩;rw[←hr]at hE1 hE2 hE3 hE4;replace hr:=Za hr;replace hE1:=Za hE1;replace hi:=Za hi;go_wp2_with fail;refine(dH hL.out.mv [124,124] hi.out rfl).mono ?_;rintro e v0 ⟨rfl,hV0,hW0⟩;have hT0:=Za (hL.out.tree.pw hW0 hlt0);clear hW0;replace hV0:=Za hV0;go_wp2_with fail;refine(hpart.from_ hV0.out (by have:=hL.out.dp;simpa[PS.next]using this) hr.out.symm).mono ?_;rintro e w2 ⟨p2,rfl,h2,hE,hW2⟩;have hTa:=hT0.out.pw hW2 hlt0
  have hL2:Hid (ny C L [124,124] 7 (part C) m R f' (.mk 7 .nil .nil a r.1 []) r.2 (some ⟨w2.heap.size,0,none⟩) w (w2.alloc (.cells #[.int .i64 7,.pointer none,.pointer none,.pointer q,.pointer p2,.string ⟨#[]⟩] 213))):=
   Za ⟨hE1.out,hE2,hE3,h2.below (aA _ _),bC.new 7 [] (by decide) (by simp) h2.wr.size rfl (aJ.nil_ _ _) (aJ.nil_ _ _) hTa hE⟩
  have hm1:=hL.out.mv.left;have hm2:=hL2.out.mv.left;have hb2:=hL2.out.mv.bounds.2.2.1;clear hTa h2 hE hW2 hE1;go_wp2_with fail;exact⟨⟨_,_,_,_,rfl,hL2⟩,by rw[hm1,hm2];omega⟩
end Go.Proofs.YtpndglghpojjkaaGreat
