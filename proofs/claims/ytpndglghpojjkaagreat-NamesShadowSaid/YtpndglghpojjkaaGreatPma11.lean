/-
  10 texts of the proof, in one file: no condition.
-/
import Derived.WalkKit
import Derived.WalkSpells
import Derived.WalkLawsBesides
import Derived.Lib.Hide
import Derived.Deep.Draws
import Derived.Lib.SlBytesConst
import Derived.Test.YtpndglghpojjkaaGreatRows
import Derived.ProofKit
import Derived.OpenShut
import Derived.Deep.Matrix
import Derived.Maps.AppendAt
import Derived.Deep.QuietTactic
import Derived.BigQuiet
import Derived.StillTailTactics
import Derived.IntWalk
import Derived.Deep.DeepCutAuto
import Derived.Laws.ResultCell
import Derived.Laws.Rows
import Derived.Laws.NewBlocks
import Derived.Test.YtpndglghpojjkaaGreatProg
import Derived.Maps.OwnSet
import Derived.Maps.RangeWalk
import Derived.StringKeys
import Derived.Lib.SlicesCompact
import Derived.Sort.EncStr
import Derived.Shelf.SlIter.Nil
import Derived.Shelf.SortM.Plain
import Derived.Shelf.SortM.SortNone
import Derived.Ground.GgzProg
import Derived.Ground.SlgmProg
import Derived.Shelf.Abstract
import Derived.OwnWalk
import Derived.Lib.SliceRun
import Derived.Lib.Walk
import Derived.Lib.AppendZerosOnto
import Derived.Shelf.Small.Strs
import Derived.Shelf.Sort.Plain
import Derived.Ground.Names2Prog
import Derived.Shelf.Slices.Clone
import Derived.Shelf.Slices.CompactS
import Derived.Shelf.Slices.Cells
import Derived.Shelf.Slices.In.SortNone
import Derived.Sort.OwnSorted
import Derived.Sort.Grow
import Derived.Lib.OwnBridge
import Derived.RegionTactic
import Derived.ChangeAlike
import Derived.BigRegion
import Derived.Test.YtpndglghpojjkaaGreatPma1
import Derived.Test.YtpndglghpojjkaaGreatPma10
import Derived.Test.YtpndglghpojjkaaGreatPma2
import Derived.Test.YtpndglghpojjkaaGreatPma3
import Derived.Test.YtpndglghpojjkaaGreatPma4
import Derived.Test.YtpndglghpojjkaaGreatPma5
import Derived.Test.YtpndglghpojjkaaGreatPma6
import Derived.Test.YtpndglghpojjkaaGreatPma7
import Derived.Test.YtpndglghpojjkaaGreatPma8
import Derived.Test.YtpndglghpojjkaaGreatPma9
set_option maxRecDepth 1000000
set_option maxHeartbeats 8000000
namespace Go.Proofs.YtpndglghpojjkaaGreat
open Go.RowKit Go.Maps Go.Sort Go.Shelf
theorem Tryz.sortsB (m:Nat):AnyZ.SortsIn Tryz.prog Tryz.sortedB_ren Fence.wide m:=
 ⟨fun blk off cap ss W hH hblk hsz=>callsIn_wide.2 (AnyM.slices_Sort_string Tryz.sortB blk off cap ss W hH hblk hsz),
  fun p cap W=>callsIn_wide.2 (AnyM.slices_Sort_string_none Tryz.sortB p cap W)⟩
def ED (f:ByteArray→Option Value) (ss:List (List UInt8)):Prop:=ss.Pairwise (·<·)∧∀x,x∈ss↔f (ay x)≠none
theorem oL (x:List UInt8):(ay x).data.toList=x:=by simp[ay]
theorem vF.has {D:DataW Value} {f:ByteArray→Option Value} (h:vF D f) (x:List UInt8):Maps.has D (.string x)=true↔f (ay x)≠none:=by
 have:=h (ay x);unfold keyS at this;rw[oL]at this
 cases hf:f (ay x)with
 |none=>rw[hf]at this;simp only at this;rw[this];simp
 |some v=>rw[hf]at this;simp only at this;rw[this.1];simp
theorem yY {w:World} {m n:Nat} {D:DataW Value} (ho:w.ownsMap Tryz.prog 9 D8 m n D):(strKeys D).Nodup∧∀x,x∈strKeys D↔Maps.has D (.string x)=true:=by
 obtain⟨es,hD,hpw,_⟩:=ho.entries Tryz.strKeyed;obtain⟨es',hD',hko⟩:=ho.keysOf
 obtain rfl:es=es':=by rw[hD]at hD';simpa using hD'
 subst hD
 have hk:∀p∈es,∃x,p.1= .string x:=fun p hp=>by obtain⟨v,hv⟩:=hko p hp;obtain⟨x,_,hx,_⟩:=Maps.keyOf_str Tryz.underlying9 hv;exact⟨x,hx⟩
 constructor
 ·show(es.map fun p=>strOf p.1).Nodup;refine List.pairwise_map.2 (hpw.imp_of_mem fun{p q} hp' hq' hne e=>hne ?_);obtain⟨a,ha⟩:=hk p hp';obtain⟨b,hb⟩:=hk q hq';rw[ha,hb]at e⊢;exact congrArg _ e
 ·intro x;rw[has_eq,List.any_eq_true];show x∈es.map (fun p=>strOf p.1)↔_;rw[List.mem_map];constructor
  ·rintro⟨p,hp',rfl⟩;obtain⟨a,ha⟩:=hk p hp';exact⟨p,hp',by rw[ha];simp[Lit.sameKey,strOf]⟩
  ·rintro⟨p,hp',hs⟩;obtain⟨a,ha⟩:=hk p hp';rw[ha]at hs;exact⟨p,hp',by rw[ha];simpa[Lit.sameKey,strOf]using hs⟩
theorem DR {f:ByteArray→Option Value} {ss:List (List UInt8)} (hnd:ss.Nodup) (hm:∀x,x∈ss↔f (ay x)≠none):ED f (ss.mergeSort leB):=by
 have hperm:=List.mergeSort_perm ss leB;refine⟨?_,fun x=>(hperm.mem_iff).trans (hm x)⟩;have h1:(ss.mergeSort leB).Pairwise (fun a b=>leB a b=true):=List.pairwise_mergeSort (fun a b c h1 h2=>by simp only[leB,decide_eq_true_eq]at*;exact List.le_trans h1 h2) (fun a b=>by simp only[leB,Bool.or_eq_true,decide_eq_true_eq];exact List.le_total a b) ss
 have h2:(ss.mergeSort leB).Nodup:=hperm.nodup_iff.2 hnd
 exact(List.pairwise_and_iff.2 ⟨h1,h2⟩).imp fun{a b} ⟨h3,h4⟩=>by
  simp only[leB,decide_eq_true_eq]at h3;rcases Decidable.em (a<b)with h5|h5
  ·exact h5
  ·exact absurd (List.le_antisymm h3 h5) h4
theorem Bj (w:World) (mb:Nat):Calls Tryz.prog 109 #[.map (some mb)] w fun e w'=>e= .returned (.func (.func 155) #[] #[.pointer (some ⟨w.heap.size,0,none⟩)])∧w'=w.alloc (.cells #[.map (some mb)] 108):=
 (callsIn_wide (n:=5)).1 (AnyZ.keys_in Tryz.keysB Fence.wide 5 trivial rfl (some mb) w)
theorem wQ (w:World) (mb N:Nat) (f:ByteArray→Option Value) (h:SMap w mb N f) (hN:N≤1000000):
  Calls Tryz.prog 108 #[.func (.func 155) #[] #[.pointer (some ⟨w.heap.size,0,none⟩)]] (w.alloc (.cells #[.map (some mb)] 108)) fun e w'=>
   (∃v ks,e= .returned v∧ED f ks∧ks.length≤N∧w'.ownsRow w.heap.size 9 1 v ks.length (ks.map encStr))∧Below w.heap.size w w':=by
 obtain⟨nn,D0,hn,hown,hs⟩:=h;have hbl:=hown.lt;have hsz:=hown.size_le
 have hmax:Maps.size D0≤maxLen:=by unfold maxLen;omega
 have hbytes:Maps.size D0*16≤140737488355328:=by omega
 have hseq:SeqGives Fence.wide 2 Tryz.prog 155 #[.pointer (some ⟨w.heap.size,0,none⟩)] encStr (fun ss=>ss.Perm (strKeys D0)) (Maps.size D0) (w.alloc (.cells #[.map (some mb)] 108)):=
  AnyZ.keys_gives (ρ:=Tryz.keysB_ren) {Tryz.keysB with} Fence.wide _ trivial rfl (by omega) w.heap.size mb nn D0 _ (by simp) (by simp) (by
   obtain⟨es,clock,hb,Ft,hs,hD⟩:=hown
   exact⟨es,clock,(Below.heap_alloc _ _ mb hbl).trans hb,Ft,hs,hD⟩)
 have cS:=AnyZ.sorted_in Tryz.sortedB Fence.wide 5 trivial trivial trivial trivial rfl (by omega) (Tryz.sortsB _) (enters_of Tryz.func83 (by kernel_rfl) rfl) 155 #[.pointer (some ⟨w.heap.size,0,none⟩)] trivial (enters_of Tryz.func155 (by kernel_rfl) rfl) _ _ hmax hbytes _ hseq;refine((callsIn_wide (n:=5)).1 cS).mono ?_;rintro e w' ⟨v,ss,rfl,hS,hrow,_,hb⟩
 obtain⟨k1,k2⟩:=yY hown
 have hsz2:(w.alloc (.cells #[.map (some mb)] 108)).heap.size=w.heap.size+1:=by simp
 have hlen:ss.length=Maps.size D0:=by rw[hS.length_eq];obtain⟨es,hD,_⟩:=hown.keysOf;rw[hD];simp[strKeys,Maps.size]
 refine⟨⟨v,ss.mergeSort leB,rfl,DR (hS.nodup_iff.2 k1) (fun x=>(hS.mem_iff.trans (k2 x)).trans (hs.has x)),?_,?_⟩,(aA w _).trans (hb.mono (by rw[hsz2];omega))⟩
 ·rw[List.length_mergeSort];omega
 ·rw[List.length_mergeSort]
  have hB:w.heap.size≤(w.alloc (.cells #[.map (some mb)] 108)).heap.size:=by rw[hsz2];omega
  exact own_base hrow hB
def sU (s:List S):ByteArray→Option Value:=fun k=>if k.data.toList∈s then some (.agg #[])else none
theorem AL (s:List S) (x:S):(fun j=>if j=ay x then some (Value.agg #[])else sU s j)=sU (s++ [x]):=by
 funext j;unfold sU;by_cases h:j=ay x
 ·rw[if_pos h,if_pos (by rw[h,oL];simp)]
 ·rw[if_neg h]
  have h2:j.data.toList≠x:=fun e=>h (by
   subst e;cases j
   simp[ay])
  by_cases h3:j.data.toList∈s
  ·rw[if_pos h3,if_pos (List.mem_append_left _ h3)]
  ·rw[if_neg h3,if_neg (by simp[h3,h2])]
theorem yZ {s ss:List S} (h:ED (sU s) ss):ss=canon s:=by
 refine(su h.1 fun x=> ?_).symm;rw[h.2 x];unfold sU;rw[oL];by_cases hx:x∈s<;>simp[hx]
end Go.Proofs.YtpndglghpojjkaaGreat
namespace Go.Proofs.YtpndglghpojjkaaGreat
section
variable {C:PC}
theorem Cm {sum un:PS→Ex×PS} (hs:∀s,WfE (sum s).1) (hu:∀s,WfE (un s).1) (s:PS):WfE (unF C sum un s).1:=by
 unfold unF;split
 ·trivial
 ·split
  ·trivial
  ·split
   ·split
    ·exact⟨fun h=>absurd h (by decide),hu _,trivial⟩
    ·trivial
   ·split
    ·split
     ·exact hs _
     ·trivial
    ·split
     ·exact⟨fun h=>absurd h (by decide),trivial,trivial⟩
     ·split
      ·exact⟨fun _=>⟨rfl,rfl⟩,trivial,trivial⟩
      ·trivial
theorem AY (s:PS):gW C s≠1:=by
 unfold gW
 repeat' split
 all_goals decide
theorem CQ (s:PS):kS C s≠1:=by
 unfold kS
 repeat' split
 all_goals decide
theorem rF {kf:PS→Nat} {part:PS→Ex×PS} (hk:∀s,kf s≠1) (hp:∀s,WfE (part s).1):∀(f:Nat) (a:Ex) (s:PS),WfE a→WfE (moreL kf part f a s).1
 |0,_,_,h=>h
 |f+1,a,s,h=>by
  unfold moreL;split
  ·exact h
  ·split
   ·exact h
   ·exact rF hk hp f _ _ ⟨fun h1=>absurd h1 (hk _),h,hp _⟩
theorem wZ {un:PS→Ex×PS} (hu:∀s,WfE (un s).1) (s:PS):WfE (nX C un s).1:=rF AY hu _ _ _ (hu s)
theorem zH {un:PS→Ex×PS} (hu:∀s,WfE (un s).1) (s:PS):WfE (sumF C un s).1:=rF CQ (wZ hu) _ _ _ (wZ hu s)
theorem yE:∀(d:Nat) (s:PS),WfE (unD C d s).1
 |0,s=>Cm (sum:=fun s=>(.nil,s)) (un:=fun s=>(.nil,s)) (fun _=>trivial) (fun _=>trivial) s
 |d+1,s=>Cm (zH (yE d)) (yE d) s
theorem qK (d:Nat) (s:PS):WfE (sS C d s).1:=zH (yE d) s
theorem zY {sum:PS→Ex×PS} (hs:∀s,WfE (sum s).1) {a:Ex} (ha:WfE a):∀(l:List (List UInt8)) (k:Nat) (s:PS),k+l.length≤9→WfC (pW C sum a k l s).1
 | [],_,_,_=>trivial
 |t::r,k,s,h=>by
  unfold pW;simp only[List.length_cons]at h;split
  ·exact⟨fun e=>by omega,ha,hs _,trivial,trivial⟩
  ·exact zY hs ha r (k+1) s (by omega)
theorem zN {sum:PS→Ex×PS} {cond not_:PS→Cn×PS} (hs:∀s,WfE (sum s).1) (hc:∀s,WfC (cond s).1) (hn:∀s,WfC (not_ s).1) (s:PS):WfC (nG C sum cond not_ s).1:=by
 unfold nG;split
 ·split
  ·exact⟨fun h=>absurd h (by decide),trivial,trivial,hn _,trivial⟩
  ·trivial
 ·split
  ·split
   ·exact hc _
   ·trivial
  ·split
   ·simp only;split
    ·exact⟨fun h=>absurd h (by decide),trivial,trivial,⟨fun _=>⟨rfl,rfl,rfl,rfl⟩,trivial,trivial,trivial,trivial⟩,trivial⟩
    ·exact⟨fun _=>⟨rfl,rfl,rfl,rfl⟩,trivial,trivial,trivial,trivial⟩
   ·exact zY hs (hs s) _ _ _ (by decide)
theorem rJ {t:List UInt8} {k:Nat} (hk:k≠9) {part:PS→Cn×PS} (hp:∀s,WfC (part s).1):∀(f:Nat) (c:Cn) (s:PS),WfC c→WfC (joinL C t k part f c s).1
 |0,_,_,h=>h
 |f+1,c,s,h=>by
  unfold joinL;split
  ·exact rJ hk hp f _ _ ⟨fun h1=>absurd h1 hk,trivial,trivial,h,hp _⟩
  ·exact h
theorem z_ {n:PS→Cn×PS} (hn:∀s,WfC (n s).1) (s:PS):WfC (BQ C n s).1:=rJ (by decide) hn _ _ _ (hn s)
theorem xX {n:PS→Cn×PS} (hn:∀s,WfC (n s).1) (s:PS):WfC (zW C n s).1:=rJ (by decide) (z_ hn) _ _ _ (z_ hn s)
theorem vV:∀(d:Nat) (s:PS),WfC (qI C d s).1
 |0,s=>zN (cond:=fun s=>(.nil,s)) (not_:=fun s=>(.nil,s)) (qK 0) (fun _=>trivial) (fun _=>trivial) s
 |d+1,s=>zN (qK (d+1)) (xX (vV d)) (vV d) s
theorem xY (d:Nat) (s:PS):WfC (uT C d s).1:=xX (vV d) s
def WfA (a:Ag):Prop:=WfE a.e∧(a.ptr=true→a.e=Ex.nil)
theorem yg {sum:PS→Ex×PS} (hs:∀s,WfE (sum s).1):∀(f:Nat) (l:List Ag) (s:PS),(∀a∈l,WfA a)→∀a∈(lg C sum f l s).1,WfA a
 |0,_,_,_=>by intro a h;cases h
 |f+1,l,s,hl=>by
  have hl2:∀a∈l++ [⟨false,[],(sum s).1⟩],WfA a:=by
   intro a h;rcases List.mem_append.1 h with h|h
   ·exact hl a h
   ·simp only[List.mem_singleton]at h;subst h;exact⟨hs s,fun h=>by cases h⟩
  unfold lg;split
  ·intro a h;cases h
  ·split
   ·exact hl2
   ·exact yg hs f _ _ hl2
theorem yh {sum:PS→Ex×PS} (hs:∀s,WfE (sum s).1) (s:PS):∀a∈(jg C sum s).1,WfA a:=by
 unfold jg;split
 ·intro a h;cases h
 ·exact yg hs _ _ _ (by intro a h;cases h)
theorem WfH.of {h:Hd} (e:WfE h.e) (f:WfE h.f) (c:WfC h.c) (a:∀a∈h.args,WfA a) (hk:h.k≤12) (h8:h.k≠8→h.args= []) (h0:h.k=0→h.f= .nil∧h.c= .nil) (h2:h.k≠2):WfH h .nil .nil:=
 ⟨e,f,c,a,h8,fun x=>⟨(h0 x).1,(h0 x).2,rfl,rfl⟩,fun x=>absurd x h2,hk⟩
theorem gY {P:Ag→Prop}:∀a∈([]:List Ag),P a:=by intro a h;cases h
theorem Aj {sum:PS→Ex×PS} (hs:∀s,WfE (sum s).1) (n:Nat) (x:List UInt8) (s:PS):WfH (iI C sum {hd0 n with x:=x} s).1 .nil .nil:=by
 unfold iI hd0;split
 ·exact WfH.of trivial trivial trivial gY (by simp) (fun _=>rfl) (fun h=>by simp at h) (by simp)
 ·split
  ·exact WfH.of trivial trivial trivial gY (by simp) (fun _=>rfl) (fun h=>by simp at h) (by simp)
  ·split
   ·exact WfH.of trivial trivial trivial gY (by simp) (fun _=>rfl) (fun h=>by simp at h) (by simp)
   ·split
    ·exact WfH.of (hs _) trivial trivial gY (by simp) (fun _=>rfl) (fun h=>by simp at h) (by simp)
    ·split
     ·exact WfH.of trivial trivial trivial (yh hs _) (by simp) (fun h=>absurd rfl h) (fun h=>by simp at h) (by simp)
     ·exact WfH.of (hs _) trivial trivial gY (by simp) (fun _=>rfl) (fun _=>⟨rfl,rfl⟩) (by simp)
theorem AZ {sum:PS→Ex×PS} {cond:PS→Cn×PS} (hs:∀s,WfE (sum s).1) (hc:∀s,WfC (cond s).1) (n:Nat) (s:PS):WfH (gX C sum cond n s).1 .nil .nil:=by
 unfold gX;split
 ·exact WfH.of (hs _) trivial trivial gY (by simp) (fun _=>rfl) (fun h=>by simp at h) (by simp)
 ·split
  ·exact WfH.of trivial trivial (hc _) gY (by simp) (fun _=>rfl) (fun h=>by simp at h) (by simp)
  ·split
   ·exact WfH.of (hs _) trivial trivial gY (by simp) (fun _=>rfl) (fun h=>by simp at h) (by simp)
   ·split
    ·exact WfH.of trivial trivial trivial (yh hs _) (by simp) (fun h=>absurd rfl h) (fun h=>by simp at h) (by simp)
    ·split
     ·exact WfH.of (hs _) (hs _) trivial gY (by simp) (fun _=>rfl) (fun h=>by simp at h) (by simp)
     ·exact Aj hs _ _ _
def WfT (x:Hd×Sl×Sl):Prop:=WfH x.1 x.2.1 x.2.2∧WfS x.2.1∧WfS x.2.2
theorem wM {sum:PS→Ex×PS} {cond:PS→Cn×PS} {block:PS→Sl×PS} (hs:∀s,WfE (sum s).1) (hc:∀s,WfC (cond s).1) (hb:∀s,WfS (block s).1) (s:PS):WfT (fV C sum cond block s).1:=by
 have key:∀(k n:Nat) (c:Cn) (t e:Sl),(k=10∨k=11)→WfC c→WfH {hd0 n with k:=k,c:=c} t e:=by
  intro k n c t e hk hc;refine⟨trivial,trivial,hc,gY,fun _=>rfl,fun h=> ?_,fun h=> ?_,?_⟩
  all_goals simp only at*
  all_goals omega
 unfold fV;split
 ·exact⟨WfH.of trivial trivial trivial gY (by simp[hd0]) (fun _=>rfl) (fun _=>⟨rfl,rfl⟩) (by simp[hd0]),trivial,trivial⟩
 ·split
  ·split
   ·exact⟨key _ _ _ _ _ (.inl rfl) (hc _),hb _,hb _⟩
   ·exact⟨key _ _ _ _ _ (.inl rfl) (hc _),hb _,trivial⟩
  ·split
   ·exact⟨key _ _ _ _ _ (.inr rfl) (hc _),hb _,trivial⟩
   ·exact⟨AZ hs hc _ _,trivial,trivial⟩
theorem zK:∀{l:Sl} {h:Hd} {t e:Sl},WfS l→WfT (h,t,e)→WfS (l.snoc h t e)
 | .nil,_,_,_,_,hx=>⟨hx.1,hx.2.1,hx.2.2,trivial⟩
 | .cons _ _ _ _,_,_,_,hl,hx=>⟨hl.1,hl.2.1,hl.2.2.1,zK hl.2.2.2 hx⟩
theorem t_ {stmt:PS→(Hd×Sl×Sl)×PS} (hs:∀s,WfT (stmt s).1):∀(f:Nat) (l:Sl) (s:PS),WfS l→WfS (je C stmt f l s).1
 |0,_,_,h=>h
 |f+1,l,s,h=>by
  unfold je;split
  ·exact h
  ·split
   ·exact h
   ·split
    ·trivial
    ·exact t_ hs f _ _ (zK h (hs s))
theorem uf {stmt:PS→(Hd×Sl×Sl)×PS} (hs:∀s,WfT (stmt s).1) (s:PS):WfS (lC C stmt s).1:=t_ hs _ _ _ trivial
theorem uY {stmts:PS→Sl×PS} (hs:∀s,WfS (stmts s).1) (s:PS):WfS (iy C stmts s).1:=by
 unfold iy;split
 ·split
  ·exact hs _
  ·trivial
 ·trivial
theorem wO:∀(d:Nat) (s:PS),WfT (nP C d s).1
 |0,s=>wM (qK 0) (xY 0) (uY (stmts:=fun s=>(.nil,s)) fun _=>trivial) s
 |d+1,s=>wM (qK (d+1)) (xY (d+1)) (uY (uf (wO d))) s
theorem Am (d:Nat) (s:PS):WfS (jq C d s).1:=uf (wO d) s
theorem Ep:WfS (ni C).1:=by
 unfold ni;generalize (39:Nat)=d;exact Am d _
end
structure BU (f:Fnc):Prop where
 body:WfS f.body
theorem BU.none_:BU Fnc.none:=⟨trivial⟩
theorem Eb (C:PC):BU (uO C).1:=by
 have hb:=Ep (C:=C);unfold uO;generalize ni C=r at hb;generalize qw C r.2=s;split
 ·exact BU.none_
 ·exact⟨hb⟩
theorem xQ (l:List UInt8):BU (funcF l).1:=by
 unfold funcF;generalize o_ l=x;split
 ·exact BU.none_
 ·exact Eb _
def exL:Ex→List S
 | .nil=> []
 | .mk k _ nm a b=>(if k=1 then [nm]else [])++(exL a++exL b)
def cnL:Cn→List S
 | .nil=> []
 | .mk _ a b p q _=>exL a++(exL b++(cnL p++cnL q))
def agR (l:List Ag):List S:=l.flatMap fun a=>exL a.e
def agP (l:List Ag):List S:=l.flatMap fun a=>if a.ptr then []else exL a.e
def each (d:Hd→List S):Sl→List S
 | .nil=> []
 | .cons h t e r=>d h++(each d t++(each d e++each d r))
def allH (p:Hd→Prop):Sl→Prop
 | .nil=>True
 | .cons h t e r=>p h∧allH p t∧allH p e∧allH p r
theorem ku {d d':Hd→List S} {p:Hd→Prop} {x:S} (h:∀y,p y→(x∈d y↔x∈d' y)):∀{l:Sl},allH p l→(x∈each d l↔x∈each d' l)
 | .nil,_=>Iff.rfl
 | .cons y t e r,⟨h1,h2,h3,h4⟩=>by unfold each;simp only[List.mem_append];rw[h y h1,ku h h2,ku h h3,ku h h4]
theorem allH.imp {p q:Hd→Prop} (h:∀y,p y→q y):∀{l:Sl},allH p l→allH q l
 | .nil,_=>trivial
 | .cons _ _ _ _,⟨h1,h2,h3,h4⟩=>⟨h _ h1,h2.imp h,h3.imp h,h4.imp h⟩
theorem allH.and {p q:Hd→Prop}:∀{l:Sl},allH p l→allH q l→allH (fun y=>p y∧q y) l
 | .nil,_,_=>trivial
 | .cons _ _ _ _,⟨h1,h2,h3,h4⟩,⟨g1,g2,g3,g4⟩=>⟨⟨h1,g1⟩,h2.and g2,h3.and g3,h4.and g4⟩
section
variable (K:List UInt8→Nat)
def vU (h:Hd):List S:=if h.k=0∨h.k=4∨h.k=6 then [h.x]else if h.k=8 then(if h.x= []then []else [h.x])else if h.k=1 then [h.y]else []
def hdP (h:Hd):List S:=(exL h.e++(exL h.f++(cnL h.c++(agP h.args++vU h)))).filter fun x=>K x==0
def jd (h:Hd):List S:=if h.k=6∨h.k=7 then [h.y]else []
def iw (h:Hd):List S:=if h.k=8 then [h.y]else []
def globs (d:Hd→List S) (h:Hd):List S:=(d h).filter fun x=>K x==0
def eY (h:Hd):List S:=if h.k=0∨h.k=4∨h.k=6 then [h.x]else if h.k=8 then h.x::agR h.args else if h.k=1 then [h.y]else []
def hdR (h:Hd):List S:=(eY h++(exL h.e++(exL h.f++cnL h.c))).filter fun x=>x != []&&K x==0
end
structure NeH (h:Hd):Prop where
 e:∀x∈exL h.e,x≠[]
 f:∀x∈exL h.f,x≠[]
 c:∀x∈cnL h.c,x≠[]
 a:∀x∈agR h.args,x≠[]
 x:h.k=0∨h.k=4∨h.k=6→h.x≠[]
 y:h.k=1→h.y≠[]
 n:h.k≠8→h.args= []
 p:∀a∈h.args,a.ptr=true→a.e=Ex.nil
theorem Fb {l:List Ag} (h:∀a∈l,a.ptr=true→a.e=Ex.nil):agP l=agR l:=by
 unfold agP agR
 induction l with
 |nil=>rfl
 |cons a l ih=>
  rw[List.flatMap_cons,List.flatMap_cons,ih fun b hb=>h b (List.mem_cons_of_mem _ hb)];congr 1
  cases hp:a.ptr with
  |false=>simp
  |true=>rw[h a (List.mem_cons_self ..) hp];rfl
theorem E8 {K:List UInt8→Nat} {h:Hd} (H:NeH h) (x:S):x∈hdP K h↔x∈hdR K h:=by
 unfold hdP hdR;rw[Fb H.p];simp only[List.mem_filter,List.mem_append,Bool.and_eq_true,bne_iff_ne,ne_eq,beq_iff_eq];have he:=H.e x;have hf:=H.f x;have hc:=H.c x;have ha:=H.a x
 have hown:(x∈agR h.args∨x∈vU h)∧K x=0↔x∈eY h∧x≠[]∧K x=0:=by
  by_cases h8:h.k=8
  ·have d1:vU h=if h.x= []then []else [h.x]:=by unfold vU;rw[if_neg (show¬(h.k=0∨h.k=4∨h.k=6)by omega),if_pos h8]
   have d2:eY h=h.x::agR h.args:=by unfold eY;rw[if_neg (show¬(h.k=0∨h.k=4∨h.k=6)by omega),if_pos h8]
   rw[d1,d2];by_cases hx:h.x= []
   ·rw[if_pos hx,hx];simp only[List.not_mem_nil,or_false,List.mem_cons];constructor
    ·rintro⟨a,b⟩;exact⟨.inr a,ha a,b⟩
    ·rintro⟨a|a,b,c⟩
     ·exact absurd a b
     ·exact⟨a,c⟩
   ·rw[if_neg hx];constructor
    ·rintro⟨a|a,b⟩
     ·exact⟨List.mem_cons_of_mem _ a,ha a,b⟩
     ·obtain rfl:=List.mem_singleton.1 a;exact⟨List.mem_cons_self ..,hx,b⟩
    ·rintro⟨a,b,c⟩;rcases List.mem_cons.1 a with a|a
     ·exact⟨.inr (List.mem_singleton.2 a),c⟩
     ·exact⟨.inl a,c⟩
  ·have e0:=H.n h8
   have d1:eY h=vU h:=by unfold vU eY;rw[if_neg h8,if_neg h8]
   have d2:vU h=if h.k=0∨h.k=4∨h.k=6 then [h.x]else if h.k=1 then [h.y]else []:=by unfold vU;rw[if_neg h8]
   rw[e0,d1,d2]
   have hag:x∉agR []:=by simp[agR]
   by_cases h0:h.k=0∨h.k=4∨h.k=6
   ·rw[if_pos h0];have:=H.x h0;simp only[List.mem_singleton];constructor
    ·rintro⟨a|a,b⟩
     ·exact absurd a hag
     ·subst a;exact⟨rfl,this,b⟩
    ·rintro⟨a,b,c⟩;exact⟨.inr a,c⟩
   ·rw[if_neg h0];by_cases h1:h.k=1
    ·rw[if_pos h1];have:=H.y h1;simp only[List.mem_singleton];constructor
     ·rintro⟨a|a,b⟩
      ·exact absurd a hag
      ·subst a;exact⟨rfl,this,b⟩
     ·rintro⟨a,b,c⟩;exact⟨.inr a,c⟩
    ·rw[if_neg h1];simp only[List.not_mem_nil,or_false,false_and,iff_false];exact fun⟨a,_⟩=>hag a
 constructor
 ·rintro⟨a|a|a|a,b⟩
  ·exact⟨.inr (.inl a),he a,b⟩
  ·exact⟨.inr (.inr (.inl a)),hf a,b⟩
  ·exact⟨.inr (.inr (.inr a)),hc a,b⟩
  ·obtain⟨x1,x2,x3⟩:=hown.1 ⟨a,b⟩;exact⟨.inl x1,x2,x3⟩
 ·rintro⟨a|a|a|a,b,c⟩
  ·obtain⟨x1,x2⟩:=hown.2 ⟨a,b,c⟩;exact⟨.inr (.inr (.inr x1)),x2⟩
  ·exact⟨.inl a,c⟩
  ·exact⟨.inr (.inl a),c⟩
  ·exact⟨.inr (.inr (.inl a)),c⟩
theorem jc {K:List UInt8→Nat}:∀{l:Sl},dF K l=none→allH (fun h=>aB K h=true) l
 | .nil,_=>trivial
 | .cons h t e r,hf=>by
  unfold dF at hf;by_cases hs:aB K h=true
  ·rw[if_pos hs]at hf
   cases ht:dF K t with
   |some b=>rw[ht]at hf;cases hf
   |none=>
    rw[ht]at hf;simp only at hf
    cases he:dF K e with
    |some b=>rw[he]at hf;cases hf
    |none=>
     rw[he]at hf;simp only at hf;exact⟨hs,jc ht,jc he,jc hf⟩
  ·rw[if_neg hs]at hf;cases hf
theorem Ew {K:List UInt8→Nat} {h:Hd} (H:aB K h=true):globs K jd h=jd h:=by
 unfold globs jd;by_cases hk:h.k=6∨h.k=7
 ·rw[if_pos hk]
  have:K h.y=0:=by unfold aB at H;rcases hk with hk|hk<;>simp[hk]at H<;>simp[H]
  simp[this]
 ·rw[if_neg hk];rfl
theorem Em {K:List UInt8→Nat} {h:Hd} (H:aB K h=true):globs K iw h=iw h:=by
 unfold globs iw;by_cases hk:h.k=8
 ·rw[if_pos hk]
  have:K h.y=0:=by unfold aB at H;simp[hk]at H;simp[H]
  simp[this]
 ·rw[if_neg hk];rfl
theorem Gf {K:List UInt8→Nat} {l:Sl} (H:allH NeH l):canon (each (hdP K) l)=(each (hdR K) l).foldl bH []:=by
 rw[pR];exact pX fun x=>ku (fun y hy=>E8 hy x) H
theorem Gl {K:List UInt8→Nat} {l:Sl} (H:dF K l=none):canon (each (globs K jd) l)=(each jd l).foldl bH []:=by
 rw[pR];exact pX fun x=>ku (fun y hy=>by rw[Ew hy]) (jc H)
theorem Gj {K:List UInt8→Nat} {l:Sl} (H:dF K l=none):canon (each (globs K iw) l)=(each iw l).foldl bH []:=by
 rw[pR];exact pX fun x=>ku (fun y hy=>by rw[Em hy]) (jc H)
theorem Dw {K:List UInt8→Nat} {a:Ag} (hp:a.ptr=true→a.e=Ex.nil):(∀x∈exL (fG K a).e,x∈exL a.e)∧((fG K a).ptr=true→(fG K a).e=Ex.nil):=by
 unfold fG;split
 ·exact⟨fun x h=>by simp[exL]at h,fun _=>rfl⟩
 ·exact⟨fun _ h=>h,hp⟩
theorem ES {K:List UInt8→Nat} {h:Hd} (H:NeH h):NeH (n_ K h):=by
 have ha:∀x∈agR (h.args.map (fG K)),x≠[]:=by intro x hx;unfold agR at hx;rw[List.mem_flatMap]at hx;obtain⟨b,hb,hx⟩:=hx;rw[List.mem_map]at hb;obtain⟨a,ha,rfl⟩:=hb;exact H.a x (List.mem_flatMap.2 ⟨a,ha,(Dw (H.p a ha)).1 x hx⟩)
 have hp:∀b∈h.args.map (fG K),b.ptr=true→b.e=Ex.nil:=by intro b hb;rw[List.mem_map]at hb;obtain⟨a,ha,rfl⟩:=hb;exact(Dw (H.p a ha)).2
 unfold n_;split
 ·rename_i hq;simp only[Bool.and_eq_true,beq_iff_eq]at hq;exact⟨fun x hx=>by simp[exL]at hx,H.f,H.c,ha,fun h=>by simp at h,fun h=>by simp at h,fun _=>by rw[H.n (by rw[hq.2];decide)];rfl,hp⟩
 ·exact⟨H.e,H.f,H.c,ha,H.x,H.y,fun h8=>by show h.args.map _= [];rw[H.n h8];rfl,hp⟩
theorem vW {K:List UInt8→Nat}:∀{l:Sl},allH NeH l→allH NeH (dI K l)
 | .nil,_=>trivial
 | .cons _ _ _ _,⟨h1,h2,h3,h4⟩=>⟨ES h1,vW h2,vW h3,vW h4⟩
theorem xC {l:List Vr} {x:S}:dX l x=0↔x∉l.map Vr.nm:=by
 induction l with
 |nil=>simp[dX]
 |cons v l ih=>
  unfold dX;by_cases e:v.nm=x
  ·simp only[e,beq_self_eq_true,if_true,List.map_cons,List.mem_cons,true_or,not_true_eq_false,iff_false];cases v.ptr<;>simp
  ·have:(v.nm==x)=false:=by simpa using e
   rw[this];simp only[Bool.false_eq_true,if_false,ih,List.map_cons,List.mem_cons,not_or];exact⟨fun h=>⟨fun h2=>e h2.symm,h⟩,fun h=>h.2⟩
theorem xB {l:List Vr} {x:S} (hn:(l.map Vr.nm).Nodup) {v:Vr} (hv:v∈l) (hx:v.nm=x):dX l x=if v.ptr then 2 else 1:=by
 induction l with
 |nil=>cases hv
 |cons u l ih=>
  rw[List.map_cons,List.nodup_cons]at hn;unfold dX;rcases List.mem_cons.1 hv with e|e
  ·subst e;rw[hx];simp
  ·have:u.nm≠x:=fun h=>hn.1 (by rw[h,←hx];exact List.mem_map_of_mem e)
   have:(u.nm==x)=false:=by simpa using this
   rw[this];exact ih hn.2 e
theorem DL {l:List Vr} (hn:(l.map Vr.nm).Nodup):dX l.reverse=dX l:=by
 funext x
 have hn2:(l.reverse.map Vr.nm).Nodup:=by rw[List.map_reverse];exact(List.reverse_perm _).nodup_iff.2 hn
 by_cases h:x∈l.map Vr.nm
 ·obtain⟨v,hv,hx⟩:=List.mem_map.1 h;rw[xB hn hv hx,xB hn2 (List.mem_reverse.2 hv) hx]
 ·rw[xC.2 h,xC.2 (by rw[List.map_reverse,List.mem_reverse];exact h)]
end Go.Proofs.YtpndglghpojjkaaGreat
namespace Go.Proofs.YtpndglghpojjkaaGreat
open Go.RowKit Go.Deep
structure EC (k:Nat) (first cap:Array Value) (M:List (Option Nat)) {σ:Type} (I:σ→World→Prop) (f:σ→List UInt8→σ) (bud:σ→Nat):Prop where
 ent:∀args w,(callFunc k args).run Tryz.prog w= .ok (.enter k args) w
 call:∀s x w,x.length≤4096→0<bud s→I s w→Calls Tryz.prog k (first++ #[.string (ay x)]++cap) w fun e w'=>e= .returned (.tuple #[])∧I (f s x) w'∧Writes M w w'
 keep:∀s w w',I s w→Below w.heap.size w w'→I s w'
 low:∀s w g,I s w→some g∈M→g<w.heap.size
 step:∀s x,bud s≤bud (f s x)+1
theorem b_ {σ:Type} {f:σ→List UInt8→σ} {bud:σ→Nat} (h:∀s x,bud s≤bud (f s x)+1):∀(s:σ) (e:Ex),bud s≤bud (exN f s e)+(exL e).length
 |s,.nil=>Nat.le_refl _
 |s,.mk k n x a b=>by
  have h2:=b_ h (exN f (if k=1 then f s x else s) a) b;have h1:=b_ h (if k=1 then f s x else s) a;have h0:=h s x;unfold exN exL;by_cases hk:k=1
  ·simp only[hk,if_true,List.length_append,List.length_singleton]at h1 h2⊢;omega
  ·simp only[hk,if_false,List.length_append,List.length_nil]at h1 h2⊢;omega
theorem eH {k:Nat} {first cap:Array Value} {M:List (Option Nat)} {σ:Type} {I:σ→World→Prop} {f:σ→List UInt8→σ} {bud:σ→Nat} (hk:EC k first cap M I f bud) (m:Option Nat):∀(e:Ex) (w:World) (s:σ) (v:Value),aJ w (bF M) e v→(exL e).length≤bud s→I s w→
  Calls Tryz.prog 104 #[.agg #[.map m],v,.func (.func k) first cap] w fun e' w'=>e'= .returned (.tuple #[])∧I (exN f s e) w'∧Writes M w w'
 | .nil,w,s,v,h,_,hI=>by
  obtain rfl:v= .pointer none:=h;have hb:=aA w (.cells #[.map m] 83);have hI2:=Lib.hid (hk.keep s w _ hI hb);have hB:=Lib.hid (Writes.of_below hb M);clear hb;go_enter Tryz.func104,Tryz.ntmps104;go_wp2_with fail;refine bodyPost_ret (results_none rfl _ _ _) rfl ?_;exact⟨rfl,hI2.out,hB.out⟩
 | .mk kd n x a b,w,s,v,h,hbu,hI=>by
  obtain⟨g,va,vb,rfl,hS,hx,hk7,hH,ha,hb⟩:=h;obtain⟨w1,hw1⟩:∃y,y=w.alloc (.cells #[.map m] 83):=⟨_,rfl⟩;obtain⟨gv,hgv⟩:∃y,y=w.heap.size:=⟨_,rfl⟩
  have hb1:Below w.heap.size w w1:=by rw[hw1];exact aA w _
  have hv1:Holds w1 gv 83 #[.map m]:=by rw[hw1,hgv];exact Holds.new w _ _
  have hH1:=(hH.below hb1 hH.lt);have q0:=hH1.cell 0;have q2:=hH1.cell 2;have q3:=hH1.cell 3;have q4:=hH1.cell 4;have qv:=hv1.cell 0;have ql:=hH1.lt;simp at q0 q2 q3 q4 qv;have hw1':=Lib.hid hw1.symm;clear hw1;go_enter Tryz.func104,Tryz.ntmps104;go_upto_region 1 with(fail);rw[←hgv,hw1'.out]
  have hgM:bF M gv:=fun hm=>by have:=hk.low s w gv hI hm;omega
  have hI1:=Lib.hid (hk.keep s w _ hI hb1);have hW1:=Lib.hid (Writes.of_below hb1 M);have ha1:=Lib.hid (ha.below hb1);have hb2:=Lib.hid (hb.below hb1);have hv1':=Lib.hid hv1;have hH1':=Lib.hid hH1;clear hb1 hgv hI ha hb hv1 hH hH1 hw1';by_cases hk1:kd=1
  ·subst hk1;have hq0:Hid (0<bud s):=Lib.hid (by have:=hbu;unfold exL at this;rw[if_pos rfl]at this;simp at this;omega);have hqa:Hid ((exL a).length≤bud (f s x)):=Lib.hid (by have h1:=hbu;unfold exL at h1;rw[if_pos rfl]at h1;simp at h1;have h2:=hk.step s x;omega)
   have hqb:Hid ((exL b).length≤bud (exN f (f s x) a)):=Lib.hid (by have h1:=hbu;unfold exL at h1;rw[if_pos rfl]at h1;simp at h1;have h2:=hk.step s x;have h3:=b_ hk.step (f s x) a;omega);clear hbu;have hx2:Hid (exN f s (Ex.mk 1 n x a b)=exN f (exN f (f s x) a) b):=Lib.hid rfl;have hent:=hk.ent;go_wp2_with fail;refine(hk.call s x w1 hx hq0.out hI1.out).mono ?_
   rintro e w2 ⟨rfl,hI2,hW2'⟩;have hH2':=hW2'.holds hH1'.out hS;have hv2':=hW2'.holds hv1'.out hgM;have q3:=hH2'.cell 3;have qv:=hv2'.cell 0;have ql:=hH2'.lt;simp at q3 qv;have hv2:=Lib.hid hv2';have hH2:=Lib.hid hH2';have ha2:=Lib.hid (ha1.out.wr hW2');have hb2:=Lib.hid (hb2.out.wr hW2');have hW2:=Lib.hid (hW1.out.trans hW2');replace hI2:=Lib.hid hI2
   clear hH2' hv2' hH1' hv1' ha1 hI1 hW1 hW2' q0 q2;go_wp2_with fail
   go_still_tail 6,(by kernel_rfl)
   obtain⟨w3,hw3⟩:∃y,y=w2.drew:=⟨_,rfl⟩;change wpList _ _ _ _ _ w2.drew;rw[←hw3]
   have hd3:Below w2.heap.size w2 w3:=by rw[hw3];exact(Below.refl _ w2).drew
   have hH3:=Lib.hid (hH2.out.below hd3 hH2.out.lt);have hv3:=Lib.hid (hv2.out.below hd3 hv2.out.lt);have ha3:=Lib.hid (ha2.out.below hd3);have hb3:=Lib.hid (hb2.out.below hd3);have hI3:=Lib.hid (hk.keep _ w2 w3 hI2.out hd3);have hW3:=Lib.hid (hW2.out.trans (Writes.of_below hd3 M));clear hw3 hd3 q3 qv ql hH2 hv2 ha2 hb2 hI2 hW2;go_wp2_with fail
   refine(eH hk m a w3 _ va ha3.out hqa.out hI3.out).mono ?_;rintro e w4 ⟨rfl,hI4,hW4⟩;have hH4':=hW4.holds hH3.out hS;have hv4':=hW4.holds hv3.out hgM;have q4:=hH4'.cell 4;have qv:=hv4'.cell 0;have ql:=hH4'.lt;simp at q4 qv;have hv4:=Lib.hid hv4';have hH4:=Lib.hid hH4';have hb4:=Lib.hid (hb3.out.wr hW4);have hW4':=Lib.hid (hW3.out.trans hW4);replace hI4:=Lib.hid hI4
   clear hH4' hv4' hH3 hv3 ha3 hb3 hI3 hW3 hW4;go_wp2_with fail
   go_still_tail 6,(by kernel_rfl)
   obtain⟨w5,hw5⟩:∃y,y=w4.drew:=⟨_,rfl⟩;change wpList _ _ _ _ _ w4.drew;rw[←hw5]
   have hd5:Below w4.heap.size w4 w5:=by rw[hw5];exact(Below.refl _ w4).drew
   have hb5:=Lib.hid (hb4.out.below hd5);have hI5:=Lib.hid (hk.keep _ w4 w5 hI4.out hd5);have hW5:=Lib.hid (hW4'.out.trans (Writes.of_below hd5 M));clear hw5 hd5 q4 qv ql hH4 hv4 hb4 hI4 hW4';go_wp2_with fail;refine(eH hk m b w5 _ vb hb5.out hqb.out hI5.out).mono ?_;rintro e w6 ⟨rfl,hI6,hW6⟩;have hI6:=Lib.hid hI6;have hW6:=Lib.hid (hW5.out.trans hW6);go_wp2_with fail;go_end0
   exact⟨rfl,by rw[hx2.out];exact hI6.out,hW6.out⟩
  ·have hk2:((kd:Int)==1)=false:=by simp;omega
   have hqa:Hid ((exL a).length≤bud s):=Lib.hid (by have h1:=hbu;unfold exL at h1;rw[if_neg hk1]at h1;simp at h1;omega);have hqb:Hid ((exL b).length≤bud (exN f s a)):=Lib.hid (by have h1:=hbu;unfold exL at h1;rw[if_neg hk1]at h1;simp at h1;have h3:=b_ hk.step s a;omega);clear hbu
   have hx2:Hid (exN f s (Ex.mk kd n x a b)=exN f (exN f s a) b):=Lib.hid (by conv=>lhs;unfold exN;rw[if_neg hk1]);have hH2:=hH1';have hv2:=hv1';have ha2:=ha1;have hI2:=hI1;have hW2:=hW1;clear hH1' hv1' ha1 hI1 hW1 hk1 q2;go_wp2_with fail
   go_still_tail 6,(by kernel_rfl)
   obtain⟨w3,hw3⟩:∃y,y=w1.drew:=⟨_,rfl⟩;change wpList _ _ _ _ _ w1.drew;rw[←hw3]
   have hd3:Below w1.heap.size w1 w3:=by rw[hw3];exact(Below.refl _ w1).drew
   have hH3:=Lib.hid (hH2.out.below hd3 hH2.out.lt);have hv3:=Lib.hid (hv2.out.below hd3 hv2.out.lt);have ha3:=Lib.hid (ha2.out.below hd3);have hb3:=Lib.hid (hb2.out.below hd3);have hI3:=Lib.hid (hk.keep _ w1 w3 hI2.out hd3);have hW3:=Lib.hid (hW2.out.trans (Writes.of_below hd3 M));clear hw3 hd3 q0 q3 q4 qv ql hH2 hv2 ha2 hb2 hI2 hW2;go_wp2_with fail
   refine(eH hk m a w3 _ va ha3.out hqa.out hI3.out).mono ?_;rintro e w4 ⟨rfl,hI4,hW4⟩;have hH4':=hW4.holds hH3.out hS;have hv4':=hW4.holds hv3.out hgM;have q4:=hH4'.cell 4;have qv:=hv4'.cell 0;have ql:=hH4'.lt;simp at q4 qv;have hv4:=Lib.hid hv4';have hH4:=Lib.hid hH4';have hb4:=Lib.hid (hb3.out.wr hW4);have hW4':=Lib.hid (hW3.out.trans hW4);replace hI4:=Lib.hid hI4
   clear hH4' hv4' hH3 hv3 ha3 hb3 hI3 hW3 hW4;go_wp2_with fail
   go_still_tail 6,(by kernel_rfl)
   obtain⟨w5,hw5⟩:∃y,y=w4.drew:=⟨_,rfl⟩;change wpList _ _ _ _ _ w4.drew;rw[←hw5]
   have hd5:Below w4.heap.size w4 w5:=by rw[hw5];exact(Below.refl _ w4).drew
   have hb5:=Lib.hid (hb4.out.below hd5);have hI5:=Lib.hid (hk.keep _ w4 w5 hI4.out hd5);have hW5:=Lib.hid (hW4'.out.trans (Writes.of_below hd5 M));clear hw5 hd5 q4 qv ql hH4 hv4 hb4 hI4 hW4';go_wp2_with fail;refine(eH hk m b w5 _ vb hb5.out hqb.out hI5.out).mono ?_;rintro e w6 ⟨rfl,hI6,hW6⟩;have hI6:=Lib.hid hI6;have hW6:=Lib.hid (hW5.out.trans hW6);go_wp2_with fail;go_end0
   exact⟨rfl,by rw[hx2.out];exact hI6.out,hW6.out⟩
theorem mQ {σ:Type} {f f2:σ→List UInt8→σ} {bud:σ→Nat} (h:∀s x,bud s≤bud (f s x)+1) (hf2:∀s x,bud s≤bud (f2 s x)):∀(s:σ) (e:Cn),bud s≤bud (cnN f f2 s e)+(cnL e).length
 |s,.nil=>Nat.le_refl _
 |s,.mk k a b p q x=>by
  have h0:bud s≤bud (if k=9 then f2 s x else s):=by
   split
   ·exact hf2 s x
   ·exact Nat.le_refl _
  have h1:=b_ h (if k=9 then f2 s x else s) a;have h2:=b_ h (exN f (if k=9 then f2 s x else s) a) b;have h3:=mQ h hf2 (exN f (exN f (if k=9 then f2 s x else s) a) b) p;have h4:=mQ h hf2 (cnN f f2 (exN f (exN f (if k=9 then f2 s x else s) a) b) p) q;unfold cnN cnL;simp only[List.length_append];omega
theorem jo {k k2:Nat} {first cap first2 cap2:Array Value} {M:List (Option Nat)} {σ:Type} {I:σ→World→Prop} {f f2:σ→List UInt8→σ} {bud:σ→Nat} (hk:EC k first cap M I f bud) (hk2:Snk k2 first2 cap2 M I f2) (hf2:∀s x,bud s≤bud (f2 s x)) (m:Option Nat):∀(e:Cn) (w:World) (s:σ) (v:Value),bC w (bF M) e v→(cnL e).length≤bud s→I s w→
  Calls Tryz.prog 105 #[.agg #[.map m],v,.func (.func k) first cap,.func (.func k2) first2 cap2] w fun e' w'=>e'= .returned (.tuple #[])∧I (cnN f f2 s e) w'∧Writes M w w'
 | .nil,w,s,v,h,_,hI=>by
  obtain rfl:v= .pointer none:=h;have hb:=aA w (.cells #[.map m] 83);have hI2:=Lib.hid (hk.keep s w _ hI hb);have hB:=Lib.hid (Writes.of_below hb M);clear hb;go_enter Tryz.func105,Tryz.ntmps105;go_wp2_with fail;refine bodyPost_ret (results_none rfl _ _ _) rfl ?_;exact⟨rfl,hI2.out,hB.out⟩
 | .mk kd a b p q x,w,s,v,h,hbu,hI=>by
  obtain⟨g,va,vb,vp,vq,rfl,hS,hx,hk9,hH,ha,hb,hp,hq⟩:=h;obtain⟨w1,hw1⟩:∃y,y=w.alloc (.cells #[.map m] 83):=⟨_,rfl⟩;obtain⟨gv,hgv⟩:∃y,y=w.heap.size:=⟨_,rfl⟩
  have hb1:Below w.heap.size w w1:=by rw[hw1];exact aA w _
  have hv1:Holds w1 gv 83 #[.map m]:=by rw[hw1,hgv];exact Holds.new w _ _
  have hH1:=(hH.below hb1 hH.lt);have r0:=hH1.cell 0;have r5:=hH1.cell 5;have r1:=hH1.cell 1;have qv:=hv1.cell 0;have ql:=hH1.lt;simp at r0 r1 r5 qv;have hw1':=Lib.hid hw1.symm;clear hw1;go_enter Tryz.func105,Tryz.ntmps105;go_upto_region 1 with(fail);rw[←hgv,hw1'.out]
  have hgM:bF M gv:=fun hm=>by have:=hk.low s w gv hI hm;omega
  have tq:=Lib.hid hgv;have hI1:=Lib.hid (hk.keep s w _ hI hb1);have hW1:=Lib.hid (Writes.of_below hb1 M);have ha1:=Lib.hid (ha.below hb1);have hb2:=Lib.hid (hb.below hb1);have hp1:=Lib.hid (hp.below hb1);have hq1:=Lib.hid (hq.below hb1);have hv1':=Lib.hid hv1;have hH1':=Lib.hid hH1;clear hb1 hgv hI ha hb hp hq hv1 hH hH1 hw1';by_cases hk1:kd=9
  ·subst hk1
   have hbu2:(exL a).length+((exL b).length+((cnL p).length+(cnL q).length))≤bud (f2 s x):=by have h1:=hbu;unfold cnL at h1;simp at h1;have h2:=hf2 s x;refine Nat.le_trans ?_ h2;exact h1
   have hqa:Hid ((exL a).length≤bud (f2 s x)):=Lib.hid (by omega);have hqb:Hid ((exL b).length≤bud (exN f (f2 s x) a)):=Lib.hid (by have h1:=b_ hk.step (f2 s x) a;omega);have hqp:Hid ((cnL p).length≤bud (exN f (exN f (f2 s x) a) b)):=Lib.hid (by have h1:=b_ hk.step (f2 s x) a;have h2:=b_ hk.step (exN f (f2 s x) a) b;omega)
   have hqq:Hid ((cnL q).length≤bud (cnN f f2 (exN f (exN f (f2 s x) a) b) p)):=Lib.hid (by have h1:=b_ hk.step (f2 s x) a;have h2:=b_ hk.step (exN f (f2 s x) a) b;have h3:=mQ hk.step hf2 (exN f (exN f (f2 s x) a) b) p;omega);clear hbu2 hbu;have hx2:Hid (cnN f f2 s (Cn.mk 9 a b p q x)=cnN f f2 (cnN f f2 (exN f (exN f (f2 s x) a) b) p) q):=Lib.hid rfl
   have hent:=hk2.ent;go_wp2_with fail;refine(hk2.call s x w1 hx hI1.out).mono ?_;rintro e w2 ⟨rfl,hI2,hW2'⟩;have hH2':=hW2'.holds hH1'.out hS;have hv2':=hW2'.holds hv1'.out hgM;clear r0 r1 r5 qv ql;have r1:=hH2'.cell 1;have qv:=hv2'.cell 0;have ql:=hH2'.lt;simp at r1 qv;have hv2:=Lib.hid hv2';have hH2:=Lib.hid hH2';have ha2:=Lib.hid (ha1.out.wr hW2');have hb2:=Lib.hid (hb2.out.wr hW2')
   have hp2:=Lib.hid (hp1.out.wr hW2');have hq2:=Lib.hid (hq1.out.wr hW2');have hW2:=Lib.hid (hW1.out.trans hW2');replace hI2:=Lib.hid hI2;clear hH2' hv2' hH1' hv1' ha1 hp1 hq1 hI1 hW1 hW2';go_wp2_with fail
   go_still_tail 6,(by kernel_rfl)
   obtain⟨x2,hx20⟩:∃y,y=w2.drew:=⟨_,rfl⟩;change wpList _ _ _ _ _ w2.drew;rw[←hx20]
   have hd:Below w2.heap.size w2 x2:=by rw[hx20];exact(Below.refl _ w2).drew
   have hH3:=Lib.hid (hH2.out.below hd hH2.out.lt);have hv3:=Lib.hid (hv2.out.below hd hv2.out.lt);have ha3:=Lib.hid (ha2.out.below hd);have hb3:=Lib.hid (hb2.out.below hd);have hp3:=Lib.hid (hp2.out.below hd);have hq3:=Lib.hid (hq2.out.below hd);have hI3:=Lib.hid (hk.keep _ w2 x2 hI2.out hd);have hW3:=Lib.hid (hW2.out.trans (Writes.of_below hd M))
   clear hx20 hd r1 qv ql hH2 hv2 hI2 hW2 ha2 hb2 hp2 hq2;go_wp2_with fail;refine(eH hk m a x2 _ va ha3.out hqa.out hI3.out).mono ?_;rintro e y2 ⟨rfl,hI4,hW4⟩;have hH4:=hW4.holds hH3.out hS;have hv4:=hW4.holds hv3.out hgM;have r2:=hH4.cell 2;have qv:=hv4.cell 0;have ql:=hH4.lt;simp at r2 qv;have hv2:=Lib.hid hv4;have hH2:=Lib.hid hH4;have hb2:=Lib.hid (hb3.out.wr hW4)
   have hp2:=Lib.hid (hp3.out.wr hW4);have hq2:=Lib.hid (hq3.out.wr hW4);have hW2:=Lib.hid (hW3.out.trans hW4);have hI2:=Lib.hid hI4;clear hI4 hW4 hH4 hv4 hI3 hW3 hH3 hv3 ha3 hb3 hp3 hq3;go_wp2_with fail
   go_still_tail 6,(by kernel_rfl)
   obtain⟨x3,hx30⟩:∃y,y=y2.drew:=⟨_,rfl⟩;change wpList _ _ _ _ _ y2.drew;rw[←hx30]
   have hd:Below y2.heap.size y2 x3:=by rw[hx30];exact(Below.refl _ y2).drew
   have hH3:=Lib.hid (hH2.out.below hd hH2.out.lt);have hv3:=Lib.hid (hv2.out.below hd hv2.out.lt);have hb3:=Lib.hid (hb2.out.below hd);have hp3:=Lib.hid (hp2.out.below hd);have hq3:=Lib.hid (hq2.out.below hd);have hI3:=Lib.hid (hk.keep _ y2 x3 hI2.out hd);have hW3:=Lib.hid (hW2.out.trans (Writes.of_below hd M));clear hx30 hd r2 qv ql hH2 hv2 hI2 hW2 hb2 hp2 hq2;go_wp2_with fail
   refine(eH hk m b x3 _ vb hb3.out hqb.out hI3.out).mono ?_;rintro e y3 ⟨rfl,hI4,hW4⟩;have hH4:=hW4.holds hH3.out hS;have hv4:=hW4.holds hv3.out hgM;have r3:=hH4.cell 3;have qv:=hv4.cell 0;have ql:=hH4.lt;simp at r3 qv;have hv2:=Lib.hid hv4;have hH2:=Lib.hid hH4;have hp2:=Lib.hid (hp3.out.wr hW4);have hq2:=Lib.hid (hq3.out.wr hW4);have hW2:=Lib.hid (hW3.out.trans hW4)
   have hI2:=Lib.hid hI4;clear hI4 hW4 hH4 hv4 hI3 hW3 hH3 hv3 hb3 hp3 hq3;go_wp2_with fail
   go_still_tail 7,(by kernel_rfl)
   obtain⟨x4,hx40⟩:∃y,y=y3.drew:=⟨_,rfl⟩;change wpList _ _ _ _ _ y3.drew;rw[←hx40]
   have hd:Below y3.heap.size y3 x4:=by rw[hx40];exact(Below.refl _ y3).drew
   have hH3:=Lib.hid (hH2.out.below hd hH2.out.lt);have hv3:=Lib.hid (hv2.out.below hd hv2.out.lt);have hp3:=Lib.hid (hp2.out.below hd);have hq3:=Lib.hid (hq2.out.below hd);have hI3:=Lib.hid (hk.keep _ y3 x4 hI2.out hd);have hW3:=Lib.hid (hW2.out.trans (Writes.of_below hd M));clear hx40 hd r3 qv ql hH2 hv2 hI2 hW2 hp2 hq2;go_wp2_with fail
   refine(jo hk hk2 hf2 m p x4 _ vp hp3.out hqp.out hI3.out).mono ?_;rintro e y4 ⟨rfl,hI4,hW4⟩;have hH4:=hW4.holds hH3.out hS;have hv4:=hW4.holds hv3.out hgM;have r4:=hH4.cell 4;have qv:=hv4.cell 0;have ql:=hH4.lt;simp at r4 qv;have hv2:=Lib.hid hv4;have hH2:=Lib.hid hH4;have hq2:=Lib.hid (hq3.out.wr hW4);have hW2:=Lib.hid (hW3.out.trans hW4);have hI2:=Lib.hid hI4
   clear hI4 hW4 hH4 hv4 hI3 hW3 hH3 hv3 hp3 hq3;go_wp2_with fail
   go_still_tail 7,(by kernel_rfl)
   obtain⟨x5,hx50⟩:∃y,y=y4.drew:=⟨_,rfl⟩;change wpList _ _ _ _ _ y4.drew;rw[←hx50]
   have hd:Below y4.heap.size y4 x5:=by rw[hx50];exact(Below.refl _ y4).drew
   have hq3:=Lib.hid (hq2.out.below hd);have hI3:=Lib.hid (hk.keep _ y4 x5 hI2.out hd);have hW3:=Lib.hid (hW2.out.trans (Writes.of_below hd M));clear hx50 hd r4 qv ql hH2 hv2 hI2 hW2 hq2;go_wp2_with fail;refine(jo hk hk2 hf2 m q x5 _ vq hq3.out hqq.out hI3.out).mono ?_;rintro e y5 ⟨rfl,hI4,hW4⟩;have hI5:=Lib.hid hI4;have hW5:=Lib.hid (hW3.out.trans hW4);clear hI4 hW4 hI3 hW3 hq3
   go_wp2_with fail;go_end0;exact⟨rfl,by rw[hx2.out];exact hI5.out,hW5.out⟩
  ·have hkn:((kd:Int)==9)=false:=by simp;omega
   have hbu2:(exL a).length+((exL b).length+((cnL p).length+(cnL q).length))≤bud (s):=by have h1:=hbu;unfold cnL at h1;simp at h1;exact h1
   have hqa:Hid ((exL a).length≤bud (s)):=Lib.hid (by omega);have hqb:Hid ((exL b).length≤bud (exN f (s) a)):=Lib.hid (by have h1:=b_ hk.step (s) a;omega);have hqp:Hid ((cnL p).length≤bud (exN f (exN f (s) a) b)):=Lib.hid (by have h1:=b_ hk.step (s) a;have h2:=b_ hk.step (exN f (s) a) b;omega)
   have hqq:Hid ((cnL q).length≤bud (cnN f f2 (exN f (exN f (s) a) b) p)):=Lib.hid (by have h1:=b_ hk.step (s) a;have h2:=b_ hk.step (exN f (s) a) b;have h3:=mQ hk.step hf2 (exN f (exN f (s) a) b) p;omega);clear hbu2 hbu;have hx2:Hid (cnN f f2 s (Cn.mk kd a b p q x)=cnN f f2 (cnN f f2 (exN f (exN f s a) b) p) q):=Lib.hid (by conv=>lhs;unfold cnN;rw[if_neg hk1])
   have hH2:=hH1';have hv2:=hv1';have ha2:=ha1;have hp2:=hp1;have hq2:=hq1;have hI2:=hI1;have hW2:=hW1;clear hH1' hv1' ha1 hp1 hq1 hI1 hW1 hk1 r5;go_wp2_with fail
   go_still_tail 6,(by kernel_rfl)
   obtain⟨x2,hx20⟩:∃y,y=w1.drew:=⟨_,rfl⟩;change wpList _ _ _ _ _ w1.drew;rw[←hx20]
   have hd:Below w1.heap.size w1 x2:=by rw[hx20];exact(Below.refl _ w1).drew
   have hH3:=Lib.hid (hH2.out.below hd hH2.out.lt);have hv3:=Lib.hid (hv2.out.below hd hv2.out.lt);have ha3:=Lib.hid (ha2.out.below hd);have hb3:=Lib.hid (hb2.out.below hd);have hp3:=Lib.hid (hp2.out.below hd);have hq3:=Lib.hid (hq2.out.below hd);have hI3:=Lib.hid (hk.keep _ w1 x2 hI2.out hd);have hW3:=Lib.hid (hW2.out.trans (Writes.of_below hd M))
   clear hx20 hd r1 qv ql hH2 hv2 hI2 hW2 ha2 hb2 hp2 hq2;go_wp2_with fail;refine(eH hk m a x2 _ va ha3.out hqa.out hI3.out).mono ?_;rintro e y2 ⟨rfl,hI4,hW4⟩;have hH4:=hW4.holds hH3.out hS;have hv4:=hW4.holds hv3.out hgM;have r2:=hH4.cell 2;have qv:=hv4.cell 0;have ql:=hH4.lt;simp at r2 qv;have hv2:=Lib.hid hv4;have hH2:=Lib.hid hH4;have hb2:=Lib.hid (hb3.out.wr hW4)
   have hp2:=Lib.hid (hp3.out.wr hW4);have hq2:=Lib.hid (hq3.out.wr hW4);have hW2:=Lib.hid (hW3.out.trans hW4);have hI2:=Lib.hid hI4;clear hI4 hW4 hH4 hv4 hI3 hW3 hH3 hv3 ha3 hb3 hp3 hq3;go_wp2_with fail
   go_still_tail 6,(by kernel_rfl)
   obtain⟨x3,hx30⟩:∃y,y=y2.drew:=⟨_,rfl⟩;change wpList _ _ _ _ _ y2.drew;rw[←hx30]
   have hd:Below y2.heap.size y2 x3:=by rw[hx30];exact(Below.refl _ y2).drew
   have hH3:=Lib.hid (hH2.out.below hd hH2.out.lt);have hv3:=Lib.hid (hv2.out.below hd hv2.out.lt);have hb3:=Lib.hid (hb2.out.below hd);have hp3:=Lib.hid (hp2.out.below hd);have hq3:=Lib.hid (hq2.out.below hd);have hI3:=Lib.hid (hk.keep _ y2 x3 hI2.out hd);have hW3:=Lib.hid (hW2.out.trans (Writes.of_below hd M));clear hx30 hd r2 qv ql hH2 hv2 hI2 hW2 hb2 hp2 hq2;go_wp2_with fail
   refine(eH hk m b x3 _ vb hb3.out hqb.out hI3.out).mono ?_;rintro e y3 ⟨rfl,hI4,hW4⟩;have hH4:=hW4.holds hH3.out hS;have hv4:=hW4.holds hv3.out hgM;have r3:=hH4.cell 3;have qv:=hv4.cell 0;have ql:=hH4.lt;simp at r3 qv;have hv2:=Lib.hid hv4;have hH2:=Lib.hid hH4;have hp2:=Lib.hid (hp3.out.wr hW4);have hq2:=Lib.hid (hq3.out.wr hW4);have hW2:=Lib.hid (hW3.out.trans hW4)
   have hI2:=Lib.hid hI4;clear hI4 hW4 hH4 hv4 hI3 hW3 hH3 hv3 hb3 hp3 hq3;go_wp2_with fail
   go_still_tail 7,(by kernel_rfl)
   obtain⟨x4,hx40⟩:∃y,y=y3.drew:=⟨_,rfl⟩;change wpList _ _ _ _ _ y3.drew;rw[←hx40]
   have hd:Below y3.heap.size y3 x4:=by rw[hx40];exact(Below.refl _ y3).drew
   have hH3:=Lib.hid (hH2.out.below hd hH2.out.lt);have hv3:=Lib.hid (hv2.out.below hd hv2.out.lt);have hp3:=Lib.hid (hp2.out.below hd);have hq3:=Lib.hid (hq2.out.below hd);have hI3:=Lib.hid (hk.keep _ y3 x4 hI2.out hd);have hW3:=Lib.hid (hW2.out.trans (Writes.of_below hd M));clear hx40 hd r3 qv ql hH2 hv2 hI2 hW2 hp2 hq2;go_wp2_with fail
   refine(jo hk hk2 hf2 m p x4 _ vp hp3.out hqp.out hI3.out).mono ?_;rintro e y4 ⟨rfl,hI4,hW4⟩;have hH4:=hW4.holds hH3.out hS;have hv4:=hW4.holds hv3.out hgM;have r4:=hH4.cell 4;have qv:=hv4.cell 0;have ql:=hH4.lt;simp at r4 qv;have hv2:=Lib.hid hv4;have hH2:=Lib.hid hH4;have hq2:=Lib.hid (hq3.out.wr hW4);have hW2:=Lib.hid (hW3.out.trans hW4);have hI2:=Lib.hid hI4
   clear hI4 hW4 hH4 hv4 hI3 hW3 hH3 hv3 hp3 hq3;go_wp2_with fail
   go_still_tail 7,(by kernel_rfl)
   obtain⟨x5,hx50⟩:∃y,y=y4.drew:=⟨_,rfl⟩;change wpList _ _ _ _ _ y4.drew;rw[←hx50]
   have hd:Below y4.heap.size y4 x5:=by rw[hx50];exact(Below.refl _ y4).drew
   have hq3:=Lib.hid (hq2.out.below hd);have hI3:=Lib.hid (hk.keep _ y4 x5 hI2.out hd);have hW3:=Lib.hid (hW2.out.trans (Writes.of_below hd M));clear hx50 hd r4 qv ql hH2 hv2 hI2 hW2 hq2;go_wp2_with fail;refine(jo hk hk2 hf2 m q x5 _ vq hq3.out hqq.out hI3.out).mono ?_;rintro e y5 ⟨rfl,hI4,hW4⟩;have hI5:=Lib.hid hI4;have hW5:=Lib.hid (hW3.out.trans hW4);clear hI4 hW4 hI3 hW3 hq3
   go_wp2_with fail;go_end0;exact⟨rfl,by rw[hx2.out];exact hI5.out,hW5.out⟩
def jI (cst:Hd→Nat):Sl→Nat
 | .nil=>0
 | .cons h t e r=>cst h+(jI cst t+(jI cst e+jI cst r))
structure wC (k:Nat) (first cap:Array Value) (M:List (Option Nat)) {σ:Type} (I:σ→World→Prop) (d:σ→Hd→σ×Bool) (bud:σ→Nat) (cst:Hd→Nat):Prop where
 ent:∀args w,(callFunc k args).run Tryz.prog w= .ok (.enter k args) w
 call:∀s h w pe pf pc Aa At Al na ca nt ct nl cl,dn w (bF M) h (.pointer pe) (.pointer pf) (.pointer pc) (.slice Aa na ca)→cst h≤bud s→I s w→
  Calls Tryz.prog k (first++ #[.agg (stC h pe pf pc Aa At Al na ca nt ct nl cl)]++cap) w fun e w'=>e= .returned (.bool (d s h).2)∧I (d s h).1 w'∧Writes M w w'
 keep:∀s w w',I s w→Below w.heap.size w w'→I s w'
 low:∀s w g,I s w→some g∈M→g<w.heap.size
 step:∀s h,bud s≤bud (d s h).1+cst h
theorem nO {σ:Type} {d:σ→Hd→σ×Bool} {bud:σ→Nat} {cst:Hd→Nat} (hs:∀s h,bud s≤bud (d s h).1+cst h):∀(s:σ) (l:Sl),bud s≤bud (vis d s l).1+jI cst l
 |s,.nil=>Nat.le_refl _
 |s,.cons h t e r=>by
  have h1:=hs s h;have h2:=nO hs (d s h).1 t;have h3:=nO hs (vis d (d s h).1 t).1 e;have h4:=nO hs (vis d (vis d (d s h).1 t).1 e).1 r;unfold vis jI;split
  ·split
   ·split
    ·omega
    ·simp only;omega
   ·simp only;omega
  ·simp only;omega
theorem lq {kf:Nat} {first cap:Array Value} {M:List (Option Nat)} {σ:Type} {I:σ→World→Prop} {d:σ→Hd→σ×Bool} {bud:σ→Nat} {cst:Hd→Nat} (hk:wC kf first cap M I d bud cst) (m:Option Nat):∀(N:Nat) (l:Sl),l.dep≤N→∀(w:World) (s:σ) (v:Value),aQ w (bF M) l v→jI cst l≤bud s→I s w→
  Calls Tryz.prog 40 #[.agg #[.map m],v,.func (.func kf) first cap] w fun e' w'=>e'= .returned (.bool (vis d s l).2)∧I (vis d s l).1 w'∧Writes M w w':=by
 intro N
 induction N using Nat.strongRecOn with
 |_ N ih=>
 intro l hN w s v hv hbu hI;have hbu0:=Lib.hid hbu;clear hbu;obtain⟨A,c,us,e,hlen,hlc,hR⟩:=hv.rest;subst e;obtain⟨w1,hw1⟩:∃y,y=w.alloc (.cells #[.map m] 83):=⟨_,rfl⟩;obtain⟨gv,hgv⟩:∃y,y=w.heap.size:=⟨_,rfl⟩
 have hb1:Below w.heap.size w w1:=by rw[hw1];exact aA w _
 have hv1:Holds w1 gv 83 #[.map m]:=by rw[hw1,hgv];exact Holds.new w _ _
 have hgM:bF M gv:=fun hm=>by have:=hk.low s w gv hI hm;omega
 have hV1:Hid (Vis m M gv w w1):=Lib.hid ⟨hv1,hgM,Writes.of_below hb1 M⟩;have hI1:=Lib.hid (hk.keep s w _ hI hb1);have hR1:=Lib.hid (hR.wr (Writes.of_below hb1 M));obtain⟨R,hRe⟩:∃R,R=vis d s l:=⟨_,rfl⟩;obtain⟨n,hn⟩:∃y,y=l.len:=⟨_,rfl⟩;rw[←hRe];rw[←hn]at hlen hlc⊢;have hfold:=Lib.hid hw1.symm;have tq:=Lib.hid hgv.symm;have hih:=Lib.hid ih
 have hR0:Hid (vis d s l=R):=Lib.hid hRe.symm;have hn0:Hid (0+l.len=n):=Lib.hid (by rw[hn];simp);have hN':Hid (l.dep≤N):=Lib.hid hN;have hent:=hk.ent;clear hw1 hgv hb1 hv1 hI hv hR hRe hn ih hgM hN;go_enter Tryz.func40,Tryz.ntmps40;go_upto_region 1 with(fail);rw[tq.out,hfold.out];clear hfold tq;go_wp2_with fail
 go_loopw [11] (fun i wl=>∃(k:Nat) (ls:Sl) (ss:σ) (vs:List Value),k≤n∧i= .int .i64 k∧Hid (dQ wl (bF M) A k ls vs)∧Hid (vis d ss ls=R)∧Hid (I ss wl)∧Hid (Vis m M gv w wl)∧Hid (k+ls.len=n)∧Hid (ls.dep≤N)∧Hid (jI cst ls≤bud ss)) (fun i _=>n-(intOf i).toNat)
 case atStart=>exact⟨0,l,s,us,by omega,rfl,hR1,hR0,hI1,hV1,hn0,hN',hbu0⟩
 clear hR1 hR0 hI1 hV1 hn0 hN' hbu0;obtain⟨k,ls,ss,vs,hkn,rfl,hR,hRe,hI,hV,hln,hdp,hbu⟩:=hrel;rename World=>wl
 cases ls with
 |nil=>
  have hkn2:k=n:=by have:=hln.out;simp[Sl.len]at this;exact this
  have hF:Hid (R=(ss,true)):=Lib.hid (by rw[←hRe.out];rfl);subst hkn2;clear hR hRe;go_wp2_with fail;go_ret;exact⟨by rw[hF.out];rfl,by rw[hF.out];exact hI.out,hV.out.wr⟩
 |cons h t e r=>
  have hlt:k<n:=by have:=hln.out;simp only[Sl.len]at this;omega
  have F6:Hid (cst h≤bud ss∧jI cst t+(jI cst e+jI cst r)≤bud (d ss h).1):=Lib.hid (by have h1:=hbu.out;unfold jI at h1;have h2:=hk.step ss h;omega);clear hbu;obtain⟨b,off,pe,pf,pc,Aa,ca,At,ct,Al,cl,us',hA,hh,ht,he,hc,hrest⟩:=hR.out.next;subst hA;have q0:wl.cell? ⟨b,off+k*10,none⟩=some (.int .i64 h.k):=hc 0 (by decide)
  have q1:wl.cell? ⟨b,off+k*10+1,none⟩=some (.string (ay h.x)):=hc 1 (by decide);have q2:wl.cell? ⟨b,off+k*10+2,none⟩=some (.string (ay h.y)):=hc 2 (by decide);have q3:wl.cell? ⟨b,off+k*10+3,none⟩=some (.pointer pe):=hc 3 (by decide);have q4:wl.cell? ⟨b,off+k*10+4,none⟩=some (.pointer pf):=hc 4 (by decide)
  have q5:wl.cell? ⟨b,off+k*10+5,none⟩=some (.pointer pc):=hc 5 (by decide);have q6:wl.cell? ⟨b,off+k*10+6,none⟩=some (.slice Aa h.args.length ca):=hc 6 (by decide);have q7:wl.cell? ⟨b,off+k*10+7,none⟩=some (.slice At t.len ct):=hc 7 (by decide);have q8:wl.cell? ⟨b,off+k*10+8,none⟩=some (.slice Al e.len cl):=hc 8 (by decide)
  have q9:wl.cell? ⟨b,off+k*10+9,none⟩=some (.int .i64 h.at_):=hc 9 (by decide);obtain⟨qv,qvl⟩:=hV.out.facts;have hdt:Hid (t.dep<N∧e.dep<N∧r.dep≤N):=Lib.hid (by have:=hdp.out;unfold Sl.dep at this;omega);have hrl:Hid (k+1+r.len=n):=Lib.hid (by have:=hln.out;simp only[Sl.len]at this;omega)
  obtain⟨wn,hwn⟩:∃y,y=wl.alloc (.cells #[.int .i64 h.k,.string (ay h.x),.string (ay h.y),.pointer pe,.pointer pf,.pointer pc,.slice Aa h.args.length ca,.slice At t.len ct,.slice Al e.len cl,.int .i64 h.at_] 63):=⟨_,rfl⟩;obtain⟨gs,hgs⟩:∃y,y=wl.heap.size:=⟨_,rfl⟩
  have hbn:Below wl.heap.size wl wn:=by rw[hwn];exact aA wl _
  have hHs:Holds wn gs 63 (stC h pe pf pc Aa At Al h.args.length ca t.len ct e.len cl):=by rw[hwn,hgs];exact Holds.new wl _ _
  have DZ:bF M gs:=fun hm=>by have:=hk.low ss wl gs hI.out hm;omega
  have hWn:=Writes.of_below hbn M;have hVn:=Lib.hid (hV.out.wr_ hWn);have hIn:=Lib.hid (hk.keep ss wl _ hI.out hbn);have hhn:=Lib.hid (hh.below hbn);have htn:=Lib.hid (ht.below hbn);have hen:=Lib.hid (he.below hbn);have hrn:=Lib.hid (hrest.wr hWn);have hHn:=Lib.hid hHs;have hfo:=Lib.hid hwn.symm;have hgs':=Lib.hid hgs.symm;have xG:=Lib.hid DZ
  have hF:Hid (vis d ss (.cons h t e r)=R):=hRe;clear hR hRe hI hV hln hdp hc hrest hwn hgs hbn hHs DZ hWn hh ht he;go_upto_region 4 with(fail);rw[hgs'.out,hfo.out];clear hfo hgs' q0 q1 q2 q3 q4 q5 q6 q7 q8 q9 qv qvl;have q0:wn.cell? ⟨gs,0,none⟩=some (.int .i64 h.k):=hHn.out.cell 0;have q1:wn.cell? ⟨gs,1,none⟩=some (.string (ay h.x)):=hHn.out.cell 1
  have q2:wn.cell? ⟨gs,2,none⟩=some (.string (ay h.y)):=hHn.out.cell 2;have q3:wn.cell? ⟨gs,3,none⟩=some (.pointer pe):=hHn.out.cell 3;have q4:wn.cell? ⟨gs,4,none⟩=some (.pointer pf):=hHn.out.cell 4;have q5:wn.cell? ⟨gs,5,none⟩=some (.pointer pc):=hHn.out.cell 5;have q6:wn.cell? ⟨gs,6,none⟩=some (.slice Aa h.args.length ca):=hHn.out.cell 6
  have q7:wn.cell? ⟨gs,7,none⟩=some (.slice At t.len ct):=hHn.out.cell 7;have q8:wn.cell? ⟨gs,8,none⟩=some (.slice Al e.len cl):=hHn.out.cell 8;have q9:wn.cell? ⟨gs,9,none⟩=some (.int .i64 h.at_):=hHn.out.cell 9;have qs:=hHn.out.lt;obtain⟨qv,qvl⟩:=hVn.out.facts;go_wp2_with fail
  refine(hk.call ss h wn pe pf pc Aa At Al h.args.length ca t.len ct e.len cl hhn.out F6.out.1 hIn.out).mono ?_;rintro e0 w3 ⟨rfl,hI3,hW3⟩;have hH3:=hW3.holds hHn.out xG.out;have hV3:=hVn.out.wr_ hW3;clear q0 q1 q2 q3 q4 q5 q6 q7 q8 q9 qs qv qvl;have q7:w3.cell? ⟨gs,7,none⟩=some (.slice At t.len ct):=hH3.cell 7;have qs:=hH3.lt;obtain⟨qv,qvl⟩:=hV3.facts;have hI3:=Lib.hid hI3
  have ht3:=Lib.hid (htn.out.wr hW3);have he3:=Lib.hid (hen.out.wr hW3);have hr3:=Lib.hid (hrn.out.wr hW3);have hH3':=Lib.hid hH3;have hV3':=Lib.hid hV3;clear hH3 hV3 hW3 hHn hVn hIn hhn htn hen hrn;obtain⟨s1,hs1⟩:∃y,y=(d ss h).1:=⟨_,rfl⟩;rw[←hs1]at hI3;have hbu1:Hid (jI cst t+(jI cst e+jI cst r)≤bud s1):=Lib.hid (by rw[hs1];exact F6.out.2);clear F6
  cases hb1:(d ss h).2 with
  |false=>
   have hR1:Hid (R=(s1,false)):=Lib.hid (by rw[←hF.out];unfold vis;rw[if_neg (by rw[hb1];simp),hs1]);clear hF hs1 hb1 ht3 he3 hr3 hH3';go_wp2_with fail;go_ret;exact⟨by rw[hR1.out];rfl,by rw[hR1.out];exact hI3.out,hV3'.out.wr⟩
  |true=>
   have hF1:Hid ((if (vis d s1 t).2 then(if (vis d (vis d s1 t).1 e).2 then vis d (vis d (vis d s1 t).1 e).1 r else((vis d (vis d s1 t).1 e).1,false))else((vis d s1 t).1,false))=R):=Lib.hid (by
    rw[←hF.out]
    conv=>rhs;unfold vis
    rw[if_pos hb1,hs1])
   replace hs1:=Lib.hid hs1;clear hF hb1;go_wp2_with fail;refine(hih.out t.dep hdt.out.1 t (Nat.le_refl _) w3 s1 _ ht3.out (by have:=hbu1.out;omega) hI3.out).mono ?_;rintro e1 w4 ⟨rfl,hI4,hW4⟩;have hH4:=hW4.holds hH3'.out xG.out;have hV4:=hV3'.out.wr_ hW4;clear q7 qs qv qvl;have q8:w4.cell? ⟨gs,8,none⟩=some (.slice Al e.len cl):=hH4.cell 8;have qs:=hH4.lt;obtain⟨qv,qvl⟩:=hV4.facts
   have hI4:=Lib.hid hI4;have he4:=Lib.hid (he3.out.wr hW4);have hr4:=Lib.hid (hr3.out.wr hW4);have hH4':=Lib.hid hH4;have hV4':=Lib.hid hV4;clear hH4 hV4 hW4 hH3' hV3' hI3 ht3 he3 hr3;obtain⟨s2,hs2⟩:∃y,y=(vis d s1 t).1:=⟨_,rfl⟩;rw[←hs2]at hI4;have hbu2:Hid (jI cst e+jI cst r≤bud s2):=Lib.hid (by rw[hs2];have h1:=hbu1.out;have h2:=nO hk.step s1 t;omega)
   clear hbu1
   cases hb2:(vis d s1 t).2 with
   |false=>
    have hR1:Hid (R=(s2,false)):=Lib.hid (by rw[←hF1.out,if_neg (by rw[hb2];simp),hs2]);clear hF1 hs2 hb2 he4 hr4 hH4';go_wp2_with fail;go_ret;exact⟨by rw[hR1.out];rfl,by rw[hR1.out];exact hI4.out,hV4'.out.wr⟩
   |true=>
    have hF2:Hid ((if (vis d s2 e).2 then vis d (vis d s2 e).1 r else((vis d s2 e).1,false))=R):=Lib.hid (by rw[←hF1.out,if_pos hb2,hs2])
    replace hs2:=Lib.hid hs2;clear hF1 hb2;go_wp2_with fail;refine(hih.out e.dep hdt.out.2.1 e (Nat.le_refl _) w4 s2 _ he4.out (by have:=hbu2.out;omega) hI4.out).mono ?_;rintro e2 w5 ⟨rfl,hI5,hW5⟩;have hV5:=Lib.hid (hV4'.out.wr_ hW5);have hI5:=Lib.hid hI5;have hr5:=Lib.hid (hr4.out.wr hW5);clear q8 qs qv qvl hW5 hH4' hV4' hI4 he4 hr4;obtain⟨s3,hs3⟩:∃y,y=(vis d s2 e).1:=⟨_,rfl⟩
    rw[←hs3]at hI5;have hbu3:Hid (jI cst r≤bud s3):=Lib.hid (by rw[hs3];have h1:=hbu2.out;have h2:=nO hk.step s2 e;omega);clear hbu2
    cases hb3:(vis d s2 e).2 with
    |false=>
     have hR1:Hid (R=(s3,false)):=Lib.hid (by rw[←hF2.out,if_neg (by rw[hb3];simp),hs3]);clear hF2 hs3 hb3 hr5;go_wp2_with fail;go_ret;exact⟨by rw[hR1.out];rfl,by rw[hR1.out];exact hI5.out,hV5.out.wr⟩
    |true=>
     have hF3:Hid (vis d s3 r=R):=Lib.hid (by rw[←hF2.out,if_pos hb3,hs3]);clear hF2 hb3 hs3;go_wp2_with fail;exact⟨⟨k+1,r,s3,us',by omega,by simp,hr5,hF3,hI5,hV5,hrl,Lib.hid hdt.out.2.2,hbu3⟩,by simp[intOf];omega⟩
structure ClI (m fm:Nat) (K:List UInt8→Nat) (s:List S) (w:World):Prop where
 km:eX w m K
 fs:SMap w fm s.length (sU s)
 len:s.length≤500000
 ne:m≠fm
theorem ClI.below {m fm:Nat} {K:List UInt8→Nat} {s:List S} {w w':World} (h:ClI m fm K s w) (hb:Below w.heap.size w w'):ClI m fm K s w':=
 ⟨h.km.below hb,h.fs.loc (hb.block fm h.fs.lt),h.len,h.ne⟩
def dP (K:List UInt8→Nat) (s:List S) (x:List UInt8):List S:=if K x=0 then s++ [x]else s
def lW (s:List S):Nat:=500000-s.length
theorem En (w:World) (m fm:Nat) (K:List UInt8→Nat) (s:List S) (h:ClI m fm K s w) (x:List UInt8) (hx:x.length≤4096) (hs:s.length<500000):
  Calls Tryz.prog 107 #[.agg #[.map (some m),.map (some fm)],.string (ay x)] w fun e w'=>e= .returned (.tuple #[])∧ClI m fm K (s++ [x]) w'∧Writes [some fm] w w':=by
 obtain⟨w1,hw1⟩:∃y,y=w.alloc (.cells #[.map (some m),.map (some fm)] 110):=⟨_,rfl⟩
 have hb1:Below w.heap.size w w1:=by rw[hw1];exact aA w _
 have h1:=h.below hb1;obtain⟨w2,hrun,hm,hg,hsz⟩:=h1.fs.store Tryz.underlying108 (k:=ay x) (by simp[ay,ByteArray.size,maxLen];omega) (by have:=h.len;omega) (.agg #[]);have hW:Writes [some fm] w1 w2:=Writes.bG hg (by simp)
 have h2:Hid (ClI m fm K (s++ [x]) w2):=Lib.hid ⟨h1.km.writes hW (by simp;exact h.ne),by rw[AL]at hm;simpa using hm,by simp;omega,h.ne⟩;have hWW:=Lib.hid ((Writes.of_below hb1 [some fm]).trans hW);rw[hw1]at hrun;clear h1 hm hg hsz hW hb1 hw1 h;go_enter Tryz.func107,Tryz.ntmps107;go_wp2_with fail;go_end0;exact⟨rfl,h2.out,hWW.out⟩
theorem iC (w:World) (m fm:Nat) (K:List UInt8→Nat) (s:List S) (h:ClI m fm K s w) (x:List UInt8) (hx:x.length≤4096) (hs:s.length<500000):
  Calls Tryz.prog 55 #[.agg #[.map (some m),.map (some fm)],.string (ay x)] w fun e w'=>e= .returned (.tuple #[])∧ClI m fm K (dP K s x) w'∧Writes [some fm] w w':=by
 obtain⟨w1,hw1⟩:∃y,y=w.alloc (.cells #[.map (some m),.map (some fm)] 110):=⟨_,rfl⟩;obtain⟨g,hg⟩:∃y,y=w.heap.size:=⟨_,rfl⟩
 have hb1:Below w.heap.size w w1:=by rw[hw1];exact aA w _
 have hH:Holds w1 g 110 #[.map (some m),.map (some fm)]:=by rw[hw1,hg];exact Holds.new w _ _
 have h1:=Lib.hid (h.below hb1);have q0:w1.cell? ⟨g,0,none⟩=some (.map (some m)):=hH.cell 0;have ql:=hH.lt;have hfo:=Lib.hid hw1.symm;have hg':=Lib.hid hg.symm;have hW1:=Lib.hid (Writes.of_below hb1 [some fm]);have hH':=Lib.hid hH;clear hw1 hg hb1 hH h;go_enter Tryz.func55,Tryz.ntmps55;go_upto_region 1 with(fail);rw[hfo.out,hg'.out];clear hfo hg';go_wp2_with fail
 refine(iO w1 m K h1.out.km x hx).mono ?_;rintro e w2 ⟨rfl,hb2⟩;have h2:=Lib.hid (h1.out.below hb2);have hH2:=hH'.out.below hb2 hH'.out.lt;clear q0 ql;have q0:w2.cell? ⟨g,0,none⟩=some (.map (some m)):=hH2.cell 0;have q1:w2.cell? ⟨g,1,none⟩=some (.map (some fm)):=hH2.cell 1;have ql:=hH2.lt;have hW2:=Lib.hid (hW1.out.trans (Writes.of_below hb2 [some fm]))
 clear hb2 hH2 hH' h1 hW1;by_cases hk:K x=0
 ·have e1:(K x==0)=true:=by simp[hk]
  have e2:Hid (dP K s x=s++ [x]):=Lib.hid (by unfold dP;rw[if_pos hk]);rw[e1];clear hk;go_wp2_with fail;refine(En w2 m fm K s h2.out x hx hs).mono ?_;rintro e w3 ⟨rfl,h3,hW3⟩;have h3':=Lib.hid h3;have hW3':=Lib.hid (hW2.out.trans hW3);clear h3 hW3 q0 q1 ql;go_wp2_with fail;go_end0;exact⟨rfl,by rw[e2.out];exact h3'.out,hW3'.out⟩
 ·have e1:(K x==0)=false:=by simp[hk]
  have e2:Hid (dP K s x=s):=Lib.hid (by unfold dP;rw[if_neg hk]);rw[e1];clear hk;go_wp2_with fail;go_end0;exact⟨rfl,by rw[e2.out];exact h2.out,hW2.out⟩
theorem jF (m fm:Nat) (K:List UInt8→Nat):EC 55 #[.agg #[.map (some m),.map (some fm)]] #[] [some fm] (ClI m fm K) (dP K) lW:=
 ⟨enters_of Tryz.func55 (by kernel_rfl) rfl,fun s x w hx hb h=>iC w m fm K s h x hx (by unfold lW at hb;omega),fun _ _ _ h hb=>h.below hb,fun _ _ g h hg=>by simp at hg;subst hg;exact h.fs.lt,fun s x=>by unfold lW dP;split<;>simp<;>omega⟩
theorem Du (w:World) (x:List UInt8):Calls Tryz.prog 106 #[.string (ay x)] w fun e w'=>e= .returned (.tuple #[])∧w'=w:=by
 go_enter Tryz.func106,Tryz.ntmps106;go_wp2_with fail;go_end0;exact⟨rfl,rfl⟩
theorem Dt {k:Nat} {first cap:Array Value} {M:List (Option Nat)} {σ:Type} {I:σ→World→Prop} {f:σ→List UInt8→σ} {bud:σ→Nat} (hk:EC k first cap M I f bud):Snk 106 #[] #[] M I (fun s _=>s):=
 ⟨enters_of Tryz.func106 (by kernel_rfl) rfl,fun s x w _ h=>(Du w x).mono fun _ _ ⟨h1,h2⟩=>⟨h1,by rw[h2];exact h,by rw[h2];exact Writes.refl _ _⟩,hk.keep,hk.low⟩
theorem lV (w:World) (m fm:Nat) (K:List UInt8→Nat) (s:List S) (h:ClI m fm K s w):
  Calls Tryz.prog 56 #[.agg #[.map (some m),.map (some fm)]] w fun e w'=>(∃v,e= .returned v∧w'.ownsRow w.heap.size 9 1 v (canon s).length ((canon s).map encStr))∧Below w.heap.size w w':=by
 obtain⟨w1,hw1⟩:∃y,y=w.alloc (.cells #[.map (some m),.map (some fm)] 110):=⟨_,rfl⟩
 have hb1:Below w.heap.size w w1:=by rw[hw1];exact aA w _
 have h1:=Lib.hid (h.below hb1);have hb1':=Lib.hid hb1;have hfo:=Lib.hid hw1.symm;clear hw1 hb1 h;go_enter Tryz.func56,Tryz.ntmps56;go_wp2_with fail;rw[hfo.out];refine(Bj w1 fm).mono ?_;rintro e w2 ⟨rfl,rfl⟩;have hso:=Lib.hid (wQ w1 fm s.length (sU s) h1.out.fs (by have:=h1.out.len;omega));clear hfo;go_wp2_with fail;refine hso.out.mono ?_
 rintro e w3 ⟨⟨v,ks,rfl,hK,-,ho⟩,hb⟩;rw[yZ hK]at ho;have hv1:=Lib.hid (own_base ho hb1'.out.size);have hB1:=Lib.hid (hb1'.out.trans (hb.mono hb1'.out.size));clear ho hb hso hK;go_wp2_with fail;go_ret;exact⟨⟨_,rfl,hv1.out⟩,hB1.out⟩
def agN {σ:Type} (f:σ→List UInt8→σ) (s:σ) (l:List Ag):σ:=l.foldl (fun s a=>if a.ptr then s else exN f s a.e) s
def hsN {σ:Type} (f:σ→List UInt8→σ) (s:σ) (h:Hd):σ:=agN f (cnN f (fun s _=>s) (exN f (exN f s h.e) h.f) h.c) h.args
def hsC (h:Hd):Nat:=(exL h.e).length+((exL h.f).length+((cnL h.c).length+(agR h.args).length))
theorem Ac {σ:Type} {f:σ→List UInt8→σ} {bud:σ→Nat} (h:∀s x,bud s≤bud (f s x)+1):∀(l:List Ag) (s:σ),bud s≤bud (agN f s l)+(agR l).length
 | [],_=>Nat.le_refl _
 |a::l,s=>by
  have h2:=Ac h l (if a.ptr then s else exN f s a.e);have h1:=b_ h s a.e;have e1:agN f s (a::l)=agN f (if a.ptr then s else exN f s a.e) l:=rfl
  have e2:(agR (a::l)).length=(exL a.e).length+(agR l).length:=by unfold agR;rw[List.flatMap_cons,List.length_append]
  have h3:bud s≤bud (if a.ptr then s else exN f s a.e)+(exL a.e).length:=by
   split
   ·omega
   ·exact h1
  rw[e1,e2];omega
theorem zS {σ:Type} {f:σ→List UInt8→σ} {bud:σ→Nat} (h:∀s x,bud s≤bud (f s x)+1) (s:σ) (hd:Hd):bud s≤bud (hsN f s hd)+hsC hd:=by
 have h1:=b_ h s hd.e;have h2:=b_ h (exN f s hd.e) hd.f;have h3:=mQ h (f2:=fun s _=>s) (fun _ _=>Nat.le_refl _) (exN f (exN f s hd.e) hd.f) hd.c;have h4:=Ac h hd.args (cnN f (fun s _=>s) (exN f (exN f s hd.e) hd.f) hd.c);unfold hsN hsC;omega
theorem aZ.atS {w:World} {S:Nat→Prop} {l:List Ag} {A:Option Addr} {c:Nat} (h:aZ w S l (.slice A l.length c)) {k:Nat} (hk:k<l.length):
  ∃b off ve,A=some ⟨b,off,none⟩∧w.cell? ⟨b,off+k*3,none⟩=some (.bool l[k].ptr)∧w.cell? ⟨b,off+k*3+1,none⟩=some (.string (ay l[k].nm))∧w.cell? ⟨b,off+k*3+2,none⟩=some ve∧aJ w S l[k].e ve∧l[k].nm.length≤4096:=by
 obtain⟨A',c',vs,e,-,-,hr,hc⟩:=h;injection e with e1 e2 e3;subst e1;obtain⟨ve,a1,a2,a3,a4,a5⟩:=hc.at_ hk
 have hne:vs≠[]:=fun e=>by rw[e]at a1;cases a1
 obtain⟨b,off,e,-,hcell⟩:=hr hne;exact⟨b,off,ve,e,by have:=hcell _ _ a1;simpa using this,by have:=hcell _ _ a2;rw[Nat.add_assoc];exact this,by have:=hcell _ _ a3;rw[Nat.add_assoc];exact this,a4,a5⟩
structure Exs (m:Option Nat) (M:List (Option Nat)) (gv gs:Nat) (cs:Array Value) (w0 w:World):Prop where
 hv:Holds w gv 83 #[.map m]
 hs:Holds w gs 63 cs
 gm:bF M gv
 sm:bF M gs
 wr:Writes M w0 w
theorem Exs.wr_ {m:Option Nat} {M:List (Option Nat)} {gv gs:Nat} {cs:Array Value} {w0 w w':World} (h:Exs m M gv gs cs w0 w) (hW:Writes M w w'):Exs m M gv gs cs w0 w':=⟨hW.holds h.hv h.gm,hW.holds h.hs h.sm,h.gm,h.sm,h.wr.trans hW⟩
theorem Exs.facts {m:Option Nat} {M:List (Option Nat)} {gv gs:Nat} {w0 w:World} {h:Hd} {pe pf pc Aa At Al:Option Addr} {na ca nt ct nl cl:Nat} (H:Exs m M gv gs (stC h pe pf pc Aa At Al na ca nt ct nl cl) w0 w):
  w.cell? ⟨gv,0,none⟩=some (.map m)∧gv<w.heap.size∧gs<w.heap.size∧w.cell? ⟨gs,3,none⟩=some (.pointer pe)∧w.cell? ⟨gs,4,none⟩=some (.pointer pf)∧w.cell? ⟨gs,5,none⟩=some (.pointer pc)∧w.cell? ⟨gs,6,none⟩=some (.slice Aa na ca):=
 ⟨H.hv.cell 0,H.hv.lt,H.hs.lt,H.hs.cell 3,H.hs.cell 4,H.hs.cell 5,H.hs.cell 6⟩
theorem aZ.wr {w w':World} {M:List (Option Nat)} {l:List Ag} {v:Value} (h:aZ w (bF M) l v) (hW:Writes M w w'):aZ w' (bF M) l v:=h.keep fun x hx hS=>hW.block x hx hS
theorem BA {k:Nat} {first cap:Array Value} {M:List (Option Nat)} {σ:Type} {I:σ→World→Prop} {f:σ→List UInt8→σ} {bud:σ→Nat} (hk:EC k first cap M I f bud) (m:Option Nat) (w:World) (s:σ) (h:Hd) (pe pf pc Aa At Al:Option Addr) (na ca nt ct nl cl:Nat)
  (H:dn w (bF M) h (.pointer pe) (.pointer pf) (.pointer pc) (.slice Aa na ca)) (hB:hsC h≤bud s) (hI:I s w):
  Calls Tryz.prog 54 #[.agg #[.map m],.agg (stC h pe pf pc Aa At Al na ca nt ct nl cl),.func (.func k) first cap] w fun e' w'=>e'= .returned (.tuple #[])∧I (hsN f s h) w'∧Writes M w w':=by
 obtain⟨w2,hw2⟩:∃y,y=(w.alloc (.cells #[.map m] 83)).alloc (.cells (stC h pe pf pc Aa At Al na ca nt ct nl cl) 63):=⟨_,rfl⟩;obtain⟨gv,hgv⟩:∃y,y=w.heap.size:=⟨_,rfl⟩;obtain⟨gs,hgs⟩:∃y,y=w.heap.size+1:=⟨_,rfl⟩
 have hb2:Below w.heap.size w w2:=by rw[hw2];exact((Below.refl _ _).alloc (Nat.le_refl _) _).alloc (by simp) _
 have hlow:=fun g hg=>hk.low s w g hI hg
 have hX:Exs m M gv gs (stC h pe pf pc Aa At Al na ca nt ct nl cl) w w2:=by
  refine⟨?_,?_,fun hm=>by have:=hlow gv hm;omega,fun hm=>by have:=hlow gs hm;omega,Writes.of_below hb2 M⟩
  ·rw[hw2,hgv];exact(Holds.new w _ _).alloc _
  ·rw[hw2,hgs];have h1:=Holds.new (w.alloc (.cells #[.map m] 83)) 63 (stC h pe pf pc Aa At Al na ca nt ct nl cl);rw[show(w.alloc (.cells #[.map m] 83)).heap.size=w.heap.size+1 by simp]at h1;exact h1
 have hna:na=h.args.length∧na≤100000:=by obtain⟨A,c,vs,e,l1,l2,-,-⟩:=H.a;injection e with e1 e2 e3;exact⟨e2,by rw[e2];exact l1⟩
 obtain⟨hna1,hna2⟩:=hna;have hn:=Lib.hid hna1;have hE:=Lib.hid (H.e.below hb2);have hF:=Lib.hid (H.f.below hb2);have hC:=Lib.hid (H.c.keep fun x hx _=>hb2.block x hx);have hA:=Lib.hid (H.a.keep fun x hx _=>hb2.block x hx);have hI2:=Lib.hid (hk.keep s w w2 hI hb2);obtain⟨sR,hsR⟩:∃y,y=hsN f s h:=⟨_,rfl⟩
 have hbe:Hid ((exL h.e).length≤bud s):=Lib.hid (by unfold hsC at hB;omega);have hbf:Hid ((exL h.f).length≤bud (exN f s h.e)):=Lib.hid (by unfold hsC at hB;have h1:=b_ hk.step s h.e;omega);have hbc:Hid ((cnL h.c).length≤bud (exN f (exN f s h.e) h.f)):=Lib.hid (by unfold hsC at hB;have h1:=b_ hk.step s h.e;have h2:=b_ hk.step (exN f s h.e) h.f;omega)
 have hba:Hid ((agR h.args).length≤bud (cnN f (fun s _=>s) (exN f (exN f s h.e) h.f) h.c)):=Lib.hid (by
  unfold hsC at hB;have h1:=b_ hk.step s h.e;have h2:=b_ hk.step (exN f s h.e) h.f;have h3:=mQ hk.step (f2:=fun s _=>s) (fun _ _=>Nat.le_refl _) (exN f (exN f s h.e) h.f) h.c
  omega)
 have hR:Hid (agN f (cnN f (fun s _=>s) (exN f (exN f s h.e) h.f) h.c) h.args=sR):=Lib.hid (by rw[hsR];rfl);rw[←hsR];have hX':=Lib.hid hX;have hfo:=Lib.hid hw2.symm;have tq:=Lib.hid hgv.symm;have hgs':=Lib.hid hgs.symm;have hno:=Dt hk;unfold stC at hfo;clear hw2 hgv hgs hb2 hlow hX hna1 H hB hI hsR;unfold stC;go_enter Tryz.func54,Tryz.ntmps54;go_upto_region 1 with(fail)
 rw[hfo.out,hgs'.out,tq.out];clear hfo tq hgs';obtain⟨qv,qvl,qsl,q3,q4,q5,q6⟩:=hX'.out.facts;go_wp2_with fail;refine(eH hk m h.e w2 s _ hE.out hbe.out hI2.out).mono ?_;rintro e w3 ⟨rfl,hI3,hW3⟩;have hX3:=Lib.hid (hX'.out.wr_ hW3);have hF3:=Lib.hid (hF.out.wr hW3);have hC3:=Lib.hid (hC.out.wr hW3);have hA3:=Lib.hid (hA.out.wr hW3);replace hI3:=Lib.hid hI3
 clear hW3 hE hF hC hA hX' hI2 hbe qv qvl qsl q3 q4 q5 q6;obtain⟨qv,qvl,qsl,q3,q4,q5,q6⟩:=hX3.out.facts;go_wp2_with fail;refine(eH hk m h.f w3 _ _ hF3.out hbf.out hI3.out).mono ?_;rintro e w4 ⟨rfl,hI4,hW4⟩;have hX4:=Lib.hid (hX3.out.wr_ hW4);have hC4:=Lib.hid (hC3.out.wr hW4);have hA4:=Lib.hid (hA3.out.wr hW4);replace hI4:=Lib.hid hI4
 clear hW4 hF3 hC3 hA3 hX3 hI3 hbf qv qvl qsl q3 q4 q5 q6;obtain⟨qv,qvl,qsl,q3,q4,q5,q6⟩:=hX4.out.facts;go_wp2_with fail;refine(jo hk hno (fun _ _=>Nat.le_refl _) m h.c w4 _ _ hC4.out hbc.out hI4.out).mono ?_;rintro e w5 ⟨rfl,hI5,hW5⟩;have hX5:=Lib.hid (hX4.out.wr_ hW5);have hA5:=Lib.hid (hA4.out.wr hW5)
 obtain⟨s5,hs5⟩:∃y,y=cnN f (fun s _=>s) (exN f (exN f s h.e) h.f) h.c:=⟨_,rfl⟩;rw[←hs5]at hI5 hba hR;replace hI5:=Lib.hid hI5;obtain⟨l,hl⟩:∃y,y=h.args:=⟨_,rfl⟩;rw[←hl]at hba hR hA5 hn;clear hs5 hl hW5 hC4 hA4 hX4 hI4 hbc qv qvl qsl q3 q4 q5 q6;obtain⟨qv,qvl,qsl,q3,q4,q5,q6⟩:=hX5.out.facts
 have hstart:Hid (agN f s5 (l.drop 0)=sR∧(agR (l.drop 0)).length≤bud s5):=Lib.hid ⟨by rw[List.drop_zero];exact hR.out,by rw[List.drop_zero];exact hba.out⟩;clear hR hba;go_wp2_with fail;clear qv qvl qsl q3 q4 q5 q6
 go_loopw [26] (fun i wl=>∃(j:Nat) (sj:σ),j≤na∧i= .int .i64 j∧Hid (agN f sj (l.drop j)=sR∧(agR (l.drop j)).length≤bud sj)∧Hid (I sj wl)∧Hid (Exs m M gv gs (stC h pe pf pc Aa At Al na ca nt ct nl cl) w wl)∧Hid (aZ wl (bF M) l (.slice Aa na ca))) (fun i _=>na-(intOf i).toNat)
 case atStart=>exact⟨0,s5,by omega,rfl,hstart,hI5,hX5,hA5⟩
 clear hstart hI5 hX5 hA5;obtain⟨j,sj,hj,rfl,hR,hIj,hX,hA⟩:=hrel;rename World=>wl;by_cases hlt:j<na
 ·have hjl:j<l.length:=by rw[←hn.out];exact hlt
  have hA2:=hA.out;rw[hn.out]at hA2;obtain⟨b,off,ve,e,c0,c1,c2,hx,hnm⟩:=aZ.atS hA2 hjl;subst e;obtain⟨p,rfl⟩:=hx.vp;have hd:l.drop j=l[j]::l.drop (j+1):=List.drop_eq_getElem_cons hjl;rw[hd]at hR;have hx2:=Lib.hid hx;obtain⟨a,ha⟩:∃a,a=l[j]:=⟨_,rfl⟩;rw[←ha]at c0 c1 hR hx2 hnm;clear ha hd hx hA2;obtain⟨ap,an,ae⟩:=a;simp only at c0 c1 hx2 hnm
  obtain⟨wn,hwn⟩:∃y,y=wl.alloc (.cells #[.bool ap,.string (ay an),.pointer p] 168):=⟨_,rfl⟩;obtain⟨ga,hga⟩:∃y,y=wl.heap.size:=⟨_,rfl⟩
  have hbn:Below wl.heap.size wl wn:=by rw[hwn];exact aA wl _
  have hHa:Holds wn ga 168 #[.bool ap,.string (ay an),.pointer p]:=by rw[hwn,hga];exact Holds.new wl _ _
  have hWn:=Writes.of_below hbn M;have hXn:=Lib.hid (hX.out.wr_ hWn);have hAn:=Lib.hid (hA.out.wr hWn);have hxn:=Lib.hid (hx2.out.below hbn);have hIn:=Lib.hid (hk.keep sj wl wn hIj.out hbn);have hfo:=Lib.hid hwn.symm;have xJ:=Lib.hid hga.symm;clear hwn hbn hga hX hx2 hA hIj hWn;go_upto_region 7 with(fail);rw[xJ.out,hfo.out];clear hfo xJ c0 c1 c2
  have q0:wn.cell? ⟨ga,0,none⟩=some (.bool ap):=hHa.cell 0;have q2:wn.cell? ⟨ga,2,none⟩=some (.pointer p):=hHa.cell 2;have ql:=hHa.lt;obtain⟨qv,qvl,qsl,q3,q4,q5,q6⟩:=hXn.out.facts;have tH:=Lib.hid hHa;clear hHa qsl q3 q4 q5 q6
  cases ap with
  |true=>
   have hR2:Hid (agN f sj (l.drop (j+1))=sR∧(agR (l.drop (j+1))).length≤bud sj):=Lib.hid (by
    obtain⟨h1,h2⟩:=hR.out;refine⟨h1,?_⟩;unfold agR at h2⊢;rw[List.flatMap_cons,List.length_append]at h2
    omega)
   clear hR;go_wp2_with fail;exact⟨⟨j+1,sj,by omega,by simp,hR2,hIn,hXn,hAn⟩,by simp[intOf];omega⟩
  |false=>
   have hR2:Hid (agN f (exN f sj ae) (l.drop (j+1))=sR∧(agR (l.drop (j+1))).length≤bud (exN f sj ae)):=Lib.hid (by
    obtain⟨h1,h2⟩:=hR.out;refine⟨h1,?_⟩;have h3:=b_ hk.step sj ae;unfold agR at h2⊢;rw[List.flatMap_cons,List.length_append]at h2;simp only at h2
    omega)
   have hbx:Hid ((exL ae).length≤bud sj):=Lib.hid (by
    have h2:=hR.out.2;unfold agR at h2;rw[List.flatMap_cons,List.length_append]at h2;simp only at h2
    omega)
   clear hR;go_wp2_with fail;refine(eH hk m ae wn sj _ hxn.out hbx.out hIn.out).mono ?_;rintro e wm ⟨rfl,hI6,hW6⟩;have hX6:=Lib.hid (hXn.out.wr_ hW6);have hA6:=Lib.hid (hAn.out.wr hW6);replace hI6:=Lib.hid hI6;clear hW6 hXn hAn hxn hIn hbx q0 q2 ql qv qvl tH;go_wp2_with fail;exact⟨⟨j+1,_,by omega,by simp,hR2,hI6,hX6,hA6⟩,by simp[intOf];omega⟩
 ·obtain rfl:j=na:=by omega
  have hF:Hid (sj=sR):=Lib.hid (by have h1:=hR.out.1;rw[List.drop_of_length_le (by rw[←hn.out];exact Nat.le_refl _)]at h1;exact h1);clear hR hA;go_wp2_with fail;go_end0;exact⟨rfl,by rw[←hF.out];exact hIj.out,hX.out.wr⟩
theorem jC (K:List UInt8→Nat):∀(s:List S) (e:Ex),exN (dP K) s e=s++(exL e).filter fun x=>K x==0
 |s,.nil=>by simp[exN,exL]
 |s,.mk k n x a b=>by
  unfold exN exL;rw[jC K _ b,jC K _ a];by_cases hk:k=1
  ·rw[if_pos hk,if_pos hk];unfold dP;by_cases hx:K x=0
   ·rw[if_pos hx];simp[hx]
   ·rw[if_neg hx];simp[hx]
  ·rw[if_neg hk,if_neg hk];simp
theorem rZ (K:List UInt8→Nat):∀(s:List S) (e:Cn),cnN (dP K) (fun s _=>s) s e=s++(cnL e).filter fun x=>K x==0
 |s,.nil=>by simp[cnN,cnL]
 |s,.mk k a b p q x=>by unfold cnN cnL;rw[rZ K _ q,rZ K _ p,jC K _ b,jC K _ a];simp
theorem yu (K:List UInt8→Nat):∀(l:List Ag) (s:List S),agN (dP K) s l=s++(agP l).filter fun x=>K x==0
 | [],s=>by simp[agN,agP]
 |a::l,s=>by
  have e1:agN (dP K) s (a::l)=agN (dP K) (if a.ptr then s else exN (dP K) s a.e) l:=rfl
  have e2:agP (a::l)=(if a.ptr then []else exL a.e)++agP l:=by unfold agP;rw[List.flatMap_cons]
  rw[e1,e2,yu K l,jC,List.filter_append,←List.append_assoc];congr 1;split<;>simp
def cellsS (K:List UInt8→Nat) (s:List S) (h:Hd):List S:=
 if h.k=0∨h.k=4∨h.k=6 then dP K (hsN (dP K) s h) h.x
 else if h.k=8 then(if h.x= []then hsN (dP K) s h else dP K (hsN (dP K) s h) h.x)
 else if h.k=1 then dP K (hsN (dP K) s h) h.y
 else hsN (dP K) s h
def uZ (K:List UInt8→Nat) (s:List S) (h:Hd):List S:=if h.k=6∨h.k=7 then dP K s h.y else s
def uX (K:List UInt8→Nat) (s:List S) (h:Hd):List S:=if h.k=8 then dP K s h.y else s
def cellsD (K:List UInt8→Nat) (s:List S) (h:Hd):List S×Bool:=(cellsS K s h,true)
def Eu (K:List UInt8→Nat) (s:List S) (h:Hd):List S×Bool:=(uZ K s h,true)
def Ej (K:List UInt8→Nat) (s:List S) (h:Hd):List S×Bool:=(uX K s h,true)
theorem lY (K:List UInt8→Nat) (s:List S) (x:S):dP K s x=s++ [x].filter fun x=>K x==0:=by
 unfold dP;by_cases hx:K x=0
 ·rw[if_pos hx];simp[hx]
 ·rw[if_neg hx];simp[hx]
theorem zu (K:List UInt8→Nat) (s:List S) (h:Hd):cellsS K s h=s++hdP K h:=by
 have e0:hsN (dP K) s h=s++(exL h.e++(exL h.f++(cnL h.c++agP h.args))).filter fun x=>K x==0:=by unfold hsN;rw[yu,rZ,jC,jC];simp
 unfold cellsS hdP vU;rw[e0];by_cases h0:h.k=0∨h.k=4∨h.k=6
 ·rw[if_pos h0,if_pos h0,lY];simp
 ·rw[if_neg h0,if_neg h0];by_cases h8:h.k=8
  ·rw[if_pos h8,if_pos h8];by_cases hx:h.x= []
   ·rw[if_pos hx,if_pos hx];simp
   ·rw[if_neg hx,if_neg hx,lY];simp
  ·rw[if_neg h8,if_neg h8];by_cases h1:h.k=1
   ·rw[if_pos h1,if_pos h1,lY];simp
   ·rw[if_neg h1,if_neg h1];simp
theorem BM (K:List UInt8→Nat) (s:List S) (h:Hd):uZ K s h=s++globs K jd h:=by
 unfold uZ globs jd;split
 ·rw[lY]
 ·simp
theorem BJ (K:List UInt8→Nat) (s:List S) (h:Hd):uX K s h=s++globs K iw h:=by
 unfold uX globs iw;split
 ·rw[lY]
 ·simp
theorem jW {d:List S→Hd→List S×Bool} {g:Hd→List S} (h:∀s y,d s y=(s++g y,true)):∀(l:Sl) (s:List S),vis d s l=(s++each g l,true)
 | .nil,s=>by simp[vis,each]
 | .cons y t e r,s=>by unfold vis each;rw[h];simp only[if_true];rw[jW h t,if_pos rfl,jW h e,if_pos rfl,jW h r];simp
structure CcI (gc m fm:Nat) (K:List UInt8→Nat) (s:List S) (w:World):Prop where
 ci:ClI m fm K s w
 hc:Holds w gc 110 #[.map (some m),.map (some fm)]
theorem CcI.below {gc m fm:Nat} {K:List UInt8→Nat} {s:List S} {w w':World} (h:CcI gc m fm K s w) (hb:Below w.heap.size w w'):CcI gc m fm K s w':=⟨h.ci.below hb,h.hc.below hb h.hc.lt⟩
theorem CcI.apart {gc m fm:Nat} {K:List UInt8→Nat} {s:List S} {w:World} (h:CcI gc m fm K s w):gc≠fm:=h.ci.fs.Fz (h.hc.cell 0)
theorem CcI.next {gc m fm:Nat} {K:List UInt8→Nat} {s s':List S} {w w':World} (h:CcI gc m fm K s w) (h2:ClI m fm K s' w') (hW:Writes [some fm] w w'):CcI gc m fm K s' w':=⟨h2,hW.holds h.hc (by simp;exact h.apart)⟩
theorem CcI.facts {gc m fm:Nat} {K:List UInt8→Nat} {s:List S} {w:World} (h:CcI gc m fm K s w):w.cell? ⟨gc,0,none⟩=some (.map (some m))∧w.cell? ⟨gc,1,none⟩=some (.map (some fm))∧gc<w.heap.size:=⟨h.hc.cell 0,h.hc.cell 1,h.hc.lt⟩
theorem dA {w:World} {g:Nat} {h:Hd} {pe pf pc Aa At Al:Option Addr} {na ca nt ct nl cl:Nat} (H:Holds w g 63 (stC h pe pf pc Aa At Al na ca nt ct nl cl)):w.cell? ⟨g,0,none⟩=some (.int .i64 h.k)∧w.cell? ⟨g,1,none⟩=some (.string (ay h.x))∧w.cell? ⟨g,2,none⟩=some (.string (ay h.y))∧w.cell? ⟨g,3,none⟩=some (.pointer pe)∧w.cell? ⟨g,4,none⟩=some (.pointer pf)∧w.cell? ⟨g,5,none⟩=some (.pointer pc)∧w.cell? ⟨g,6,none⟩=some (.slice Aa na ca)∧w.cell? ⟨g,7,none⟩=some (.slice At nt ct)∧w.cell? ⟨g,8,none⟩=some (.slice Al nl cl)∧w.cell? ⟨g,9,none⟩=some (.int .i64 h.at_)∧g<w.heap.size:=
 ⟨H.cell 0,H.cell 1,H.cell 2,H.cell 3,H.cell 4,H.cell 5,H.cell 6,H.cell 7,H.cell 8,H.cell 9,H.lt⟩
theorem zx (gc m fm:Nat) (K:List UInt8→Nat) (s:List S) (h:Hd) (w:World) (pe pf pc Aa At Al:Option Addr) (na ca nt ct nl cl:Nat) (H:dn w (bF [some fm]) h (.pointer pe) (.pointer pf) (.pointer pc) (.slice Aa na ca)) (hB:hsC h+1≤lW s) (hI:CcI gc m fm K s w):
  Calls Tryz.prog 53 #[.agg (stC h pe pf pc Aa At Al na ca nt ct nl cl),.pointer (some ⟨gc,0,none⟩)] w fun e w'=>e= .returned (.bool true)∧CcI gc m fm K (cellsS K s h) w'∧Writes [some fm] w w':=by
 obtain⟨sR,hsR⟩:∃y,y=cellsS K s h:=⟨_,rfl⟩;rw[←hsR];have hS0:=Lib.hid hsR;clear hsR;obtain⟨w1,hw1⟩:∃y,y=w.alloc (.cells (stC h pe pf pc Aa At Al na ca nt ct nl cl) 63):=⟨_,rfl⟩;obtain⟨g,hg⟩:∃y,y=w.heap.size:=⟨_,rfl⟩
 have hb1:Below w.heap.size w w1:=by rw[hw1];exact aA w _
 have hH1:Holds w1 g 63 (stC h pe pf pc Aa At Al na ca nt ct nl cl):=by rw[hw1,hg];exact Holds.new w _ _
 have hgf:Hid (g≠fm):=Lib.hid (by have:=hI.ci.fs.lt;omega);have hI1:=Lib.hid (hI.below hb1);have hHd:=Lib.hid (H.below hb1);have hW1:=Lib.hid (Writes.of_below hb1 [some fm]);have hxl:=H.x;have hyl:=H.y;have hkl:=H.k;have hH1':=Lib.hid hH1;have hfo:=Lib.hid hw1.symm;have hg':=Lib.hid hg.symm;have hB':=Lib.hid hB;unfold stC at hfo;clear hw1 hg hb1 hI H hH1 hB;unfold stC
 go_enter Tryz.func53,Tryz.ntmps53;go_upto_region 1 with(fail);rw[hfo.out,hg'.out];clear hfo hg';obtain⟨q0,q1,q2,q3,q4,q5,q6,q7,q8,q9,ql⟩:=dA hH1'.out;obtain⟨p0,p1,pl⟩:=hI1.out.facts;go_wp2_with fail;have hbs:=zS (f:=dP K) (bud:=lW) (jF m fm K).step s h
 have hbs1:Hid ((hsN (dP K) s h).length<500000):=Lib.hid (by have h1:=hB'.out;unfold lW at hbs h1;omega);clear hbs;refine(BA (jF m fm K) (some m) w1 s h pe pf pc Aa At Al na ca nt ct nl cl hHd.out (by have:=hB'.out;omega) hI1.out.ci).mono ?_;rintro e w2 ⟨rfl,hI2,hW2⟩;have hI3:=Lib.hid (hI1.out.next hI2 hW2)
 have hH3:=Lib.hid (hW2.holds hH1'.out (by simp;exact hgf.out));have hW3:=Lib.hid (hW1.out.trans hW2);clear hI2 hW2 hH1' hI1 hHd hW1 hB' q0 q1 q2 q3 q4 q5 q6 q7 q8 q9 ql p0 p1 pl;obtain⟨s1,hs1⟩:∃y,y=hsN (dP K) s h:=⟨_,rfl⟩;rw[←hs1]at hI3 hbs1
 have hSS:Hid (sR=if h.k=0∨h.k=4∨h.k=6 then dP K s1 h.x else if h.k=8 then(if h.x= []then s1 else dP K s1 h.x)else if h.k=1 then dP K s1 h.y else s1):=Lib.hid (by rw[hS0.out,hs1];rfl);clear hs1 hS0;obtain⟨q0,q1,q2,q3,q4,q5,q6,q7,q8,q9,ql⟩:=dA hH3.out;obtain⟨p0,p1,pl⟩:=hI3.out.facts;clear q3 q4 q5 q6 q7 q8 q9
 obtain⟨k,x,y,he_,hf_,hc_,hg_,ht_⟩:=h;simp only at q0 q1 q2 hxl hyl hkl hSS;rcases(show k=0∨k=4∨k=6∨k=8∨k=1∨(k≠0∧k≠4∧k≠6∧k≠8∧k≠1)by omega)with rfl|rfl|rfl|rfl|rfl|hk
 ·have hRR:Hid (sR=dP K s1 x):=Lib.hid (by rw[hSS.out];simp);clear hSS;go_wp2_with fail;refine(iC w2 m fm K s1 hI3.out.ci x (by omega) hbs1.out).mono ?_;rintro e w4 ⟨rfl,hI4,hW4⟩;have hI5:=Lib.hid (hI3.out.next hI4 hW4);have hW5:=Lib.hid (hW3.out.trans hW4);clear hI4 hW4 hI3 hH3 hW3;go_wp2_with fail;go_ret;exact⟨rfl,by rw[hRR.out];exact hI5.out,hW5.out⟩
 ·have hRR:Hid (sR=dP K s1 x):=Lib.hid (by rw[hSS.out];simp);clear hSS;go_wp2_with fail;refine(iC w2 m fm K s1 hI3.out.ci x (by omega) hbs1.out).mono ?_;rintro e w4 ⟨rfl,hI4,hW4⟩;have hI5:=Lib.hid (hI3.out.next hI4 hW4);have hW5:=Lib.hid (hW3.out.trans hW4);clear hI4 hW4 hI3 hH3 hW3;go_wp2_with fail;go_ret;exact⟨rfl,by rw[hRR.out];exact hI5.out,hW5.out⟩
 ·have hRR:Hid (sR=dP K s1 x):=Lib.hid (by rw[hSS.out];simp);clear hSS;go_wp2_with fail;refine(iC w2 m fm K s1 hI3.out.ci x (by omega) hbs1.out).mono ?_;rintro e w4 ⟨rfl,hI4,hW4⟩;have hI5:=Lib.hid (hI3.out.next hI4 hW4);have hW5:=Lib.hid (hW3.out.trans hW4);clear hI4 hW4 hI3 hH3 hW3;go_wp2_with fail;go_ret;exact⟨rfl,by rw[hRR.out];exact hI5.out,hW5.out⟩
 ·by_cases hx:x= []
  ·have hxe:(ay x).toList.isEmpty=true:=by rw[aH,hx];rfl
   have hRR:Hid (sR=s1):=Lib.hid (by rw[hSS.out];simp[hx]);clear hSS hx;go_wp2_with fail;go_ret;exact⟨rfl,by rw[hRR.out];exact hI3.out,hW3.out⟩
  ·have hxs:¬(ay x).toList= []:=by rw[aH];exact hx
   have hxe:(ay x).toList.isEmpty=false:=by rw[aH];simpa using hx
   have hRR:Hid (sR=dP K s1 x):=Lib.hid (by rw[hSS.out];simp[hx]);clear hSS hx;go_wp2_with fail;refine(iC w2 m fm K s1 hI3.out.ci x (by omega) hbs1.out).mono ?_;rintro e w4 ⟨rfl,hI4,hW4⟩;have hI5:=Lib.hid (hI3.out.next hI4 hW4);have hW5:=Lib.hid (hW3.out.trans hW4);clear hI4 hW4 hI3 hH3 hW3;go_wp2_with fail;go_ret;exact⟨rfl,by rw[hRR.out];exact hI5.out,hW5.out⟩
 ·have hRR:Hid (sR=dP K s1 y):=Lib.hid (by rw[hSS.out];simp);clear hSS;go_wp2_with fail;refine(iC w2 m fm K s1 hI3.out.ci y (by omega) hbs1.out).mono ?_;rintro e w4 ⟨rfl,hI4,hW4⟩;have hI5:=Lib.hid (hI3.out.next hI4 hW4);have hW5:=Lib.hid (hW3.out.trans hW4);clear hI4 hW4 hI3 hH3 hW3;go_wp2_with fail;go_ret;exact⟨rfl,by rw[hRR.out];exact hI5.out,hW5.out⟩
 ·obtain⟨h0,h4,h6,h8,h1⟩:=hk
  have e0:((k:Int)==0)=false:=by simp;omega
  have e4:((k:Int)==4)=false:=by simp;omega
  have e6:((k:Int)==6)=false:=by simp;omega
  have e8:((k:Int)==8)=false:=by simp;omega
  have e1:((k:Int)==1)=false:=by simp;omega
  have hRR:Hid (sR=s1):=Lib.hid (by rw[hSS.out,if_neg (by omega),if_neg h8,if_neg h1]);clear hSS h0 h4 h6 h8 h1;go_wp2_with fail;go_ret;exact⟨rfl,by rw[hRR.out];exact hI3.out,hW3.out⟩
theorem BG (gc m fm:Nat) (K:List UInt8→Nat):wC 53 #[] #[.pointer (some ⟨gc,0,none⟩)] [some fm] (CcI gc m fm K) (cellsD K) lW (fun h=>hsC h+1):=
 ⟨enters_of Tryz.func53 (by kernel_rfl) rfl,fun s h w pe pf pc Aa At Al na ca nt ct nl cl H hB hI=>zx gc m fm K s h w pe pf pc Aa At Al na ca nt ct nl cl H hB hI,fun _ _ _ h hb=>h.below hb,fun _ _ g h hg=>by simp at hg;subst hg;exact h.ci.fs.lt,fun s h=>by have h1:=zS (f:=dP K) (bud:=lW) (jF m fm K).step s h;have h2:=(jF m fm K).step (hsN (dP K) s h) h.x;have h3:=(jF m fm K).step (hsN (dP K) s h) h.y;unfold cellsD cellsS;simp only;repeat (first|omega|split)⟩
theorem BO (gc m fm:Nat) (K:List UInt8→Nat) (s:List S) (h:Hd) (w:World) (pe pf pc Aa At Al:Option Addr) (na ca nt ct nl cl:Nat) (H:dn w (bF [some fm]) h (.pointer pe) (.pointer pf) (.pointer pc) (.slice Aa na ca)) (hB:1≤lW s) (hI:CcI gc m fm K s w):
  Calls Tryz.prog 57 #[.agg (stC h pe pf pc Aa At Al na ca nt ct nl cl),.pointer (some ⟨gc,0,none⟩)] w fun e w'=>e= .returned (.bool true)∧CcI gc m fm K (uZ K s h) w'∧Writes [some fm] w w':=by
 obtain⟨sR,hsR⟩:∃y,y=uZ K s h:=⟨_,rfl⟩;rw[←hsR];have hS0:=Lib.hid hsR;clear hsR;obtain⟨w1,hw1⟩:∃y,y=w.alloc (.cells (stC h pe pf pc Aa At Al na ca nt ct nl cl) 63):=⟨_,rfl⟩;obtain⟨g,hg⟩:∃y,y=w.heap.size:=⟨_,rfl⟩
 have hb1:Below w.heap.size w w1:=by rw[hw1];exact aA w _
 have hH1:Holds w1 g 63 (stC h pe pf pc Aa At Al na ca nt ct nl cl):=by rw[hw1,hg];exact Holds.new w _ _
 have hgf:Hid (g≠fm):=Lib.hid (by have:=hI.ci.fs.lt;omega);have hI1:=Lib.hid (hI.below hb1);have hHd:=Lib.hid (H.below hb1);have hW1:=Lib.hid (Writes.of_below hb1 [some fm]);have hxl:=H.x;have hyl:=H.y;have hkl:=H.k;have hH1':=Lib.hid hH1;have hfo:=Lib.hid hw1.symm;have hg':=Lib.hid hg.symm;have hB':=Lib.hid hB;unfold stC at hfo;clear hw1 hg hb1 hI H hH1 hB;unfold stC
 go_enter Tryz.func57,Tryz.ntmps57;go_upto_region 1 with(fail);rw[hfo.out,hg'.out];clear hfo hg';obtain⟨q0,q1,q2,q3,q4,q5,q6,q7,q8,q9,ql⟩:=dA hH1'.out;obtain⟨p0,p1,pl⟩:=hI1.out.facts;have hI3:=hI1;have hH3:=hH1';have hW3:=hW1;have hbs1:Hid (s.length<500000):=Lib.hid (by have h1:=hB'.out;unfold lW at h1;omega)
 have hSS:Hid (sR=if h.k=6∨h.k=7 then dP K s h.y else s):=Lib.hid (by rw[hS0.out];rfl);clear hS0 q3 q4 q5 q6 q7 q8 q9 hHd hI1 hH1' hW1 hB';obtain⟨k,x,y,he_,hf_,hc_,hg_,ht_⟩:=h;simp only at q0 q1 q2 hxl hyl hkl hSS;rcases(show k=6∨k=7∨(k≠6∧k≠7)by omega)with rfl|rfl|hk
 ·have hRR:Hid (sR=dP K s y):=Lib.hid (by rw[hSS.out];simp);clear hSS;go_wp2_with fail;refine(iC w1 m fm K s hI3.out.ci y (by omega) hbs1.out).mono ?_;rintro e w4 ⟨rfl,hI4,hW4⟩;have hI5:=Lib.hid (hI3.out.next hI4 hW4);have hW5:=Lib.hid (hW3.out.trans hW4);clear hI4 hW4 hI3 hH3 hW3;go_wp2_with fail;go_ret;exact⟨rfl,by rw[hRR.out];exact hI5.out,hW5.out⟩
 ·have hRR:Hid (sR=dP K s y):=Lib.hid (by rw[hSS.out];simp);clear hSS;go_wp2_with fail;refine(iC w1 m fm K s hI3.out.ci y (by omega) hbs1.out).mono ?_;rintro e w4 ⟨rfl,hI4,hW4⟩;have hI5:=Lib.hid (hI3.out.next hI4 hW4);have hW5:=Lib.hid (hW3.out.trans hW4);clear hI4 hW4 hI3 hH3 hW3;go_wp2_with fail;go_ret;exact⟨rfl,by rw[hRR.out];exact hI5.out,hW5.out⟩
 ·obtain⟨h6,h7⟩:=hk
  have e6:((k:Int)==6)=false:=by simp;omega
  have e7:((k:Int)==7)=false:=by simp;omega
  have hRR:Hid (sR=s):=Lib.hid (by rw[hSS.out,if_neg (by omega)]);clear hSS h6 h7;go_wp2_with fail;go_ret;exact⟨rfl,by rw[hRR.out];exact hI3.out,hW3.out⟩
theorem Et (gc m fm:Nat) (K:List UInt8→Nat):wC 57 #[] #[.pointer (some ⟨gc,0,none⟩)] [some fm] (CcI gc m fm K) (Eu K) lW (fun _=>1):=
 ⟨enters_of Tryz.func57 (by kernel_rfl) rfl,fun s h w pe pf pc Aa At Al na ca nt ct nl cl H hB hI=>BO gc m fm K s h w pe pf pc Aa At Al na ca nt ct nl cl H hB hI,fun _ _ _ h hb=>h.below hb,fun _ _ g h hg=>by simp at hg;subst hg;exact h.ci.fs.lt,fun s h=>by have h3:=(jF m fm K).step s h.y;unfold Eu uZ;simp only;split<;>omega⟩
theorem BK (gc m fm:Nat) (K:List UInt8→Nat) (s:List S) (h:Hd) (w:World) (pe pf pc Aa At Al:Option Addr) (na ca nt ct nl cl:Nat) (H:dn w (bF [some fm]) h (.pointer pe) (.pointer pf) (.pointer pc) (.slice Aa na ca)) (hB:1≤lW s) (hI:CcI gc m fm K s w):
  Calls Tryz.prog 58 #[.agg (stC h pe pf pc Aa At Al na ca nt ct nl cl),.pointer (some ⟨gc,0,none⟩)] w fun e w'=>e= .returned (.bool true)∧CcI gc m fm K (uX K s h) w'∧Writes [some fm] w w':=by
 obtain⟨sR,hsR⟩:∃y,y=uX K s h:=⟨_,rfl⟩;rw[←hsR];have hS0:=Lib.hid hsR;clear hsR;obtain⟨w1,hw1⟩:∃y,y=w.alloc (.cells (stC h pe pf pc Aa At Al na ca nt ct nl cl) 63):=⟨_,rfl⟩;obtain⟨g,hg⟩:∃y,y=w.heap.size:=⟨_,rfl⟩
 have hb1:Below w.heap.size w w1:=by rw[hw1];exact aA w _
 have hH1:Holds w1 g 63 (stC h pe pf pc Aa At Al na ca nt ct nl cl):=by rw[hw1,hg];exact Holds.new w _ _
 have hgf:Hid (g≠fm):=Lib.hid (by have:=hI.ci.fs.lt;omega);have hI1:=Lib.hid (hI.below hb1);have hHd:=Lib.hid (H.below hb1);have hW1:=Lib.hid (Writes.of_below hb1 [some fm]);have hxl:=H.x;have hyl:=H.y;have hkl:=H.k;have hH1':=Lib.hid hH1;have hfo:=Lib.hid hw1.symm;have hg':=Lib.hid hg.symm;have hB':=Lib.hid hB;unfold stC at hfo;clear hw1 hg hb1 hI H hH1 hB;unfold stC
 go_enter Tryz.func58,Tryz.ntmps58;go_upto_region 1 with(fail);rw[hfo.out,hg'.out];clear hfo hg';obtain⟨q0,q1,q2,q3,q4,q5,q6,q7,q8,q9,ql⟩:=dA hH1'.out;obtain⟨p0,p1,pl⟩:=hI1.out.facts;have hI3:=hI1;have hH3:=hH1';have hW3:=hW1;have hbs1:Hid (s.length<500000):=Lib.hid (by have h1:=hB'.out;unfold lW at h1;omega)
 have hSS:Hid (sR=if h.k=8 then dP K s h.y else s):=Lib.hid (by rw[hS0.out];rfl);clear hS0 q3 q4 q5 q6 q7 q8 q9 hHd hI1 hH1' hW1 hB';obtain⟨k,x,y,he_,hf_,hc_,hg_,ht_⟩:=h;simp only at q0 q1 q2 hxl hyl hkl hSS;by_cases h8:k=8
 ·subst h8;have hRR:Hid (sR=dP K s y):=Lib.hid (by rw[hSS.out];simp);clear hSS;go_wp2_with fail;refine(iC w1 m fm K s hI3.out.ci y (by omega) hbs1.out).mono ?_;rintro e w4 ⟨rfl,hI4,hW4⟩;have hI5:=Lib.hid (hI3.out.next hI4 hW4);have hW5:=Lib.hid (hW3.out.trans hW4);clear hI4 hW4 hI3 hH3 hW3;go_wp2_with fail;go_ret;exact⟨rfl,by rw[hRR.out];exact hI5.out,hW5.out⟩
 ·have e8:((k:Int)==8)=false:=by simp;omega
  have hRR:Hid (sR=s):=Lib.hid (by rw[hSS.out,if_neg h8]);clear hSS h8;go_wp2_with fail;go_ret;exact⟨rfl,by rw[hRR.out];exact hI3.out,hW3.out⟩
theorem Eh (gc m fm:Nat) (K:List UInt8→Nat):wC 58 #[] #[.pointer (some ⟨gc,0,none⟩)] [some fm] (CcI gc m fm K) (Ej K) lW (fun _=>1):=
 ⟨enters_of Tryz.func58 (by kernel_rfl) rfl,fun s h w pe pf pc Aa At Al na ca nt ct nl cl H hB hI=>BK gc m fm K s h w pe pf pc Aa At Al na ca nt ct nl cl H hB hI,fun _ _ _ h hb=>h.below hb,fun _ _ g h hg=>by simp at hg;subst hg;exact h.ci.fs.lt,fun s h=>by have h3:=(jF m fm K).step s h.y;unfold Ej uX;simp only;split<;>omega⟩
theorem nK (w:World) (nm:List UInt8) (ps ls:List Vr) (A1 A2 A3:Option Addr) (c1 c2 n3 c3:Nat) (h1:bY w Evr ps (.slice A1 ps.length c1)) (h2:bY w Evr ls (.slice A2 ls.length c2)):
  Calls Tryz.prog 52 #[.agg (fnC nm A1 A2 A3 ps.length c1 ls.length c2 n3 c3)] w fun e w'=>∃m fm,e= .returned (.agg #[.map (some m),.map (some fm)])∧ClI m fm (cZ (ps++ls)) [] w'∧w.heap.size≤fm∧Below w.heap.size w w':=by
 have vX:=Lib.hid (fun(w:World) (h1:bY w Evr ps (.slice A1 ps.length c1)) (h2:bY w Evr ls (.slice A2 ls.length c2))=>mZ w nm ps ls A1 A2 A3 c1 c2 n3 c3 h1 h2);unfold fnC at vX⊢;obtain⟨n1,hn1⟩:∃y,y=ps.length:=⟨_,rfl⟩;obtain⟨n2,hn2⟩:∃y,y=ls.length:=⟨_,rfl⟩;rw[←hn1,←hn2]at vX⊢;rw[←hn1]at h1;rw[←hn2]at h2
 obtain⟨w2,hw2⟩:∃x,x=(w.alloc (.cells #[.string (ay nm),.slice A1 n1 c1,.slice A2 n2 c2,.slice A3 n3 c3] 26)).alloc (.cells #[.map none,.map none] 110):=⟨_,rfl⟩;obtain⟨gr,hgr⟩:∃x,x=w.heap.size+1:=⟨_,rfl⟩
 have hb2:Below w.heap.size w w2:=by rw[hw2];exact((Below.refl _ _).alloc (Nat.le_refl _) _).alloc (by simp) _
 have hHr:Holds w2 gr 110 #[.map none,.map none]:=by have h:=Holds.new (w.alloc (.cells #[.string (ay nm),.slice A1 n1 c1,.slice A2 n2 c2,.slice A3 n3 c3] 26)) 110 #[.map none,.map none];rw[show(w.alloc (.cells #[.string (ay nm),.slice A1 n1 c1,.slice A2 n2 c2,.slice A3 n3 c3] 26)).heap.size=w.heap.size+1 by simp]at h;rw[hw2,hgr];exact h
 have hc:=Lib.hid (vX.out w2 (h1.keep fun x hx _=>hb2.block x hx) (h2.keep fun x hx _=>hb2.block x hx))
 have hr0:w.heap.size≤gr:=by omega
 have hfo:=Lib.hid hw2.symm;have zk:=Lib.hid hgr.symm;have GL:=Lib.hid hHr;have hb2':=Lib.hid hb2;have hmm:= @run_makeMap Tryz.prog;clear vX h1 h2 hn1 hn2 hw2 hgr hb2 hHr;go_enter Tryz.func52,Tryz.ntmps52;go_wp2_with fail;rw[hfo.out,zk.out];clear hfo zk;refine hc.out.mono ?_;clear hc;rintro e w3 ⟨m,rfl,hm0,hK,hb⟩;have hH3:=GL.out.below hb GL.out.lt
 have hB3:=hb2'.out.trans (hb.mono hb2'.out.size);have hsz3:=hB3.size;have q0:w3.cell? ⟨gr,0,none⟩=some (.map none):=hH3.cell 0;have q1:w3.cell? ⟨gr,1,none⟩=some (.map none):=hH3.cell 1;have f0:=hH3.frozen 0;have f1:=hH3.frozen 1;have ql:=hH3.lt;obtain⟨wa,hwa⟩:∃x,x=(w3.setCell ⟨gr,0,none⟩ (.map (some m))).setCell ⟨gr,1,none⟩ (.map (some w3.heap.size)):=⟨_,rfl⟩
 have hsa:wa.heap.size=w3.heap.size:=by rw[hwa];simp
 have hW:Writes [some gr] w3 wa:=by rw[hwa];exact(Writes.store w3 (by simp) _).trans (Writes.store _ (by simp) _)
 have hrm:gr≠m:=fun e=>hK.Fz q0 e;have hKa:=hK.writes hW (by simp;exact fun e=>hrm e.symm)
 have hHa:Holds wa gr 110 #[.map (some m),.map (some w3.heap.size)]:=by have:=(hH3.store 0 (.map (some m))).store 1 (.map (some w3.heap.size));rw[hwa];simpa using this
 have hBa:=hB3.trans (hW.below hB3.size fun j hj=>by simp at hj;omega);have hbz:=aA wa (.map #[] 0)
 have hS4:SMap (wa.alloc (.map #[] 0)) w3.heap.size 0 (sU []):=by
  have h:=SMap.made wa
  have e:sU []=fun _=>none:=by funext k;simp[sU]
  rw[e,←hsa];exact h
 have hmf:m≠w3.heap.size:=by have:=hK.lt;omega
 have hHz:=Lib.hid (hHa.below hbz hHa.lt);have hend:Hid (ClI m w3.heap.size (cZ (ps++ls)) [] (wa.alloc (.map #[] 0))∧w.heap.size≤w3.heap.size∧Below w.heap.size w (wa.alloc (.map #[] 0))):=Lib.hid
  ⟨⟨hKa.below hbz,hS4,by simp,hmf⟩,hsz3,hBa.trans (hbz.mono hBa.size)⟩
 have hfa:=Lib.hid hwa.symm;clear hwa hsa hW hrm hKa hHa hBa hbz hS4 hmf hK hb hH3 hB3 hsz3 hm0;go_wp2_with fail;rw[hfa.out];exact uq rfl rfl rfl hHz.out Tryz.underlying110 (by kernel_rfl) ⟨m,_,rfl,hend.out⟩
theorem BH (w:World) (f:Fnc) (A1 A2 A3:Option Addr) (c1 c2 c3:Nat) (hF:eP w Evr f (.slice A1 f.ps.length c1) (.slice A2 f.ls.length c2) (.slice A3 f.body.len c3)) (hc:jI (fun h=>hsC h+1) f.body≤500000):
  Calls Tryz.prog 17 #[.agg (fnC f.nm A1 A2 A3 f.ps.length c1 f.ls.length c2 f.body.len c3)] w fun e w'=>(∃v,e= .returned v∧w'.ownsRow w.heap.size 9 1 v (canon (each (hdP (cZ (f.ps++f.ls))) f.body)).length ((canon (each (hdP (cZ (f.ps++f.ls))) f.body)).map encStr))∧Below w.heap.size w w':=by
 obtain⟨nm,ps,ls,body⟩:=f;simp only at hF hc⊢;obtain⟨-,h1,h2,hB⟩:=hF;simp only at h1 h2 hB;have hco:=Lib.hid (fun(w:World) (h1:bY w Evr ps (.slice A1 ps.length c1)) (h2:bY w Evr ls (.slice A2 ls.length c2))=>nK w nm ps ls A1 A2 A3 c1 c2 body.len c3 h1 h2);unfold fnC at hco⊢;obtain⟨n1,hn1⟩:∃y,y=ps.length:=⟨_,rfl⟩
 obtain⟨n2,hn2⟩:∃y,y=ls.length:=⟨_,rfl⟩;obtain⟨n3,hn3⟩:∃y,y=body.len:=⟨_,rfl⟩;rw[←hn1,←hn2,←hn3]at hco⊢;rw[←hn1]at h1;rw[←hn2]at h2;rw[←hn3]at hB;obtain⟨L,hL⟩:∃y,y=each (hdP (cZ (ps++ls))) body:=⟨_,rfl⟩;rw[←hL];obtain⟨w1,hw1⟩:∃x,x=w.alloc (.cells #[.string (ay nm),.slice A1 n1 c1,.slice A2 n2 c2,.slice A3 n3 c3] 26):=⟨_,rfl⟩
 obtain⟨gp,hgp⟩:∃x,x=w.heap.size:=⟨_,rfl⟩
 have hb1:Below w.heap.size w w1:=by rw[hw1];exact aA w _
 have hHp:Holds w1 gp 26 #[.string (ay nm),.slice A1 n1 c1,.slice A2 n2 c2,.slice A3 n3 c3]:=by rw[hw1,hgp];exact Holds.new w _ _
 have q0:w1.cell? ⟨gp,0,none⟩=some (.string (ay nm)):=hHp.cell 0;have q1:w1.cell? ⟨gp,1,none⟩=some (.slice A1 n1 c1):=hHp.cell 1;have q2:w1.cell? ⟨gp,2,none⟩=some (.slice A2 n2 c2):=hHp.cell 2;have q3:w1.cell? ⟨gp,3,none⟩=some (.slice A3 n3 c3):=hHp.cell 3;have ql:=hHp.lt
 have hc1:=Lib.hid (hco.out w1 (h1.keep fun x hx _=>hb1.block x hx) (h2.keep fun x hx _=>hb1.block x hx));have hBd:=Lib.hid hB;have hc':=Lib.hid hc;have hL':=Lib.hid hL;have g_:=Lib.hid hHp;have hb1':=Lib.hid hb1;have hfo:=Lib.hid hw1.symm;have jR:=Lib.hid hgp.symm;clear hco h1 h2 hB hn1 hn2 hn3 hL hw1 hgp hb1 hHp hc;go_enter Tryz.func17,Tryz.ntmps17;go_upto_region 1 with(fail)
 rw[hfo.out,jR.out];clear hfo jR;go_wp2_with fail;refine hc1.out.mono ?_;clear hc1 q0 q1 q2 q3 ql;rintro e w2 ⟨m,fm,rfl,hC,hfm0,hb2⟩;obtain⟨K,hKK⟩:∃K,K=cZ (ps++ls):=⟨_,rfl⟩;rw[←hKK]at hC;have hL2:Hid (L=each (hdP K) body):=Lib.hid (by rw[hL'.out,hKK]);obtain⟨w3,hw3⟩:∃x,x=w2.alloc (.cells #[.map (some m),.map (some fm)] 110):=⟨_,rfl⟩
 obtain⟨gc,hgc⟩:∃x,x=w2.heap.size:=⟨_,rfl⟩
 have hb3:Below w2.heap.size w2 w3:=by rw[hw3];exact aA w2 _
 have hI3:CcI gc m fm K [] w3:=⟨hC.below hb3,by rw[hw3,hgc];exact Holds.new w2 _ _⟩;have hB2:=hb1'.out.trans (hb2.mono hb1'.out.size);have hB3:=hB2.trans (hb3.mono hB2.size);have hHp3:=(g_.out.below hb2 g_.out.lt).below hb3 (g_.out.below hb2 g_.out.lt).lt;have xM:w.heap.size≤fm:=Nat.le_trans hb1'.out.size hfm0
 have hS3:aQ w3 (bF [some fm]) body (.slice A3 n3 c3):=by
  have h1:=hBd.out.mono (S':=bF [some fm]) fun x hx _=>by unfold bF;simp;omega
  exact h1.keep fun x hx _=>hB3.block x hx
 have hwk:=Lib.hid (lq (BG gc m fm K) (some m) body.dep body (Nat.le_refl _) w3 [] _ hS3 (by unfold lW;simp;exact hc'.out) hI3);have hI3':=Lib.hid hI3;have q0:=(g_.out.below hb2 g_.out.lt).cell 3;have ql:=(g_.out.below hb2 g_.out.lt).lt;simp at q0;have hB3':=Lib.hid hB3;have hfo:=Lib.hid hw3.symm;have xI:=Lib.hid hgc.symm;have xK:=Lib.hid xM
 clear hKK hL' hw3 hgc hb3 hI3 hB2 hB3 hHp3 xM hS3 hC hfm0 hb2 hb1' g_;go_wp2_with fail;rw[hfo.out,xI.out];refine hwk.out.mono ?_;clear hwk hfo xI q0 ql;rintro e w4 ⟨rfl,hI4,hW4⟩;rw[jW (fun s y=>by unfold cellsD;rw[zu]) body,List.nil_append]at hI4;rw[←hL2.out]at hI4
 have hB4:=Lib.hid (hB3'.out.trans (hW4.below hB3'.out.size fun j hj=>by simp at hj;subst hj;exact xK.out));have hso:=Lib.hid (lV w4 m fm K L hI4.ci);obtain⟨p0,p1,pl⟩:=hI4.facts;clear hI4 hW4 hI3' hB3' hL2;go_wp2_with fail;refine hso.out.mono ?_;rintro e w5 ⟨⟨v,rfl,ho⟩,hb5⟩;have hv:=Lib.hid (own_base ho hB4.out.size);have hB5:=Lib.hid (hB4.out.trans (hb5.mono hB4.out.size))
 clear ho hb5 hso p0 p1 pl;go_wp2_with fail;go_ret;exact⟨⟨_,rfl,hv.out⟩,hB5.out⟩
theorem GZ (w:World) (f:Fnc) (A1 A2 A3:Option Addr) (c1 c2 c3:Nat) (hF:eP w Evr f (.slice A1 f.ps.length c1) (.slice A2 f.ls.length c2) (.slice A3 f.body.len c3)) (hc:jI (fun _=>1) f.body≤500000):
  Calls Tryz.prog 18 #[.agg (fnC f.nm A1 A2 A3 f.ps.length c1 f.ls.length c2 f.body.len c3)] w fun e w'=>(∃v,e= .returned v∧w'.ownsRow w.heap.size 9 1 v (canon (each (globs (cZ (f.ps++f.ls)) jd) f.body)).length ((canon (each (globs (cZ (f.ps++f.ls)) jd) f.body)).map encStr))∧Below w.heap.size w w':=by
 obtain⟨nm,ps,ls,body⟩:=f;simp only at hF hc⊢;obtain⟨-,h1,h2,hB⟩:=hF;simp only at h1 h2 hB;have hco:=Lib.hid (fun(w:World) (h1:bY w Evr ps (.slice A1 ps.length c1)) (h2:bY w Evr ls (.slice A2 ls.length c2))=>nK w nm ps ls A1 A2 A3 c1 c2 body.len c3 h1 h2);unfold fnC at hco⊢;obtain⟨n1,hn1⟩:∃y,y=ps.length:=⟨_,rfl⟩
 obtain⟨n2,hn2⟩:∃y,y=ls.length:=⟨_,rfl⟩;obtain⟨n3,hn3⟩:∃y,y=body.len:=⟨_,rfl⟩;rw[←hn1,←hn2,←hn3]at hco⊢;rw[←hn1]at h1;rw[←hn2]at h2;rw[←hn3]at hB;obtain⟨L,hL⟩:∃y,y=each (globs (cZ (ps++ls)) jd) body:=⟨_,rfl⟩;rw[←hL];obtain⟨w1,hw1⟩:∃x,x=w.alloc (.cells #[.string (ay nm),.slice A1 n1 c1,.slice A2 n2 c2,.slice A3 n3 c3] 26):=⟨_,rfl⟩
 obtain⟨gp,hgp⟩:∃x,x=w.heap.size:=⟨_,rfl⟩
 have hb1:Below w.heap.size w w1:=by rw[hw1];exact aA w _
 have hHp:Holds w1 gp 26 #[.string (ay nm),.slice A1 n1 c1,.slice A2 n2 c2,.slice A3 n3 c3]:=by rw[hw1,hgp];exact Holds.new w _ _
 have q0:w1.cell? ⟨gp,0,none⟩=some (.string (ay nm)):=hHp.cell 0;have q1:w1.cell? ⟨gp,1,none⟩=some (.slice A1 n1 c1):=hHp.cell 1;have q2:w1.cell? ⟨gp,2,none⟩=some (.slice A2 n2 c2):=hHp.cell 2;have q3:w1.cell? ⟨gp,3,none⟩=some (.slice A3 n3 c3):=hHp.cell 3;have ql:=hHp.lt
 have hc1:=Lib.hid (hco.out w1 (h1.keep fun x hx _=>hb1.block x hx) (h2.keep fun x hx _=>hb1.block x hx));have hBd:=Lib.hid hB;have hc':=Lib.hid hc;have hL':=Lib.hid hL;have g_:=Lib.hid hHp;have hb1':=Lib.hid hb1;have hfo:=Lib.hid hw1.symm;have jR:=Lib.hid hgp.symm;clear hco h1 h2 hB hn1 hn2 hn3 hL hw1 hgp hb1 hHp hc;go_enter Tryz.func18,Tryz.ntmps18;go_upto_region 1 with(fail)
 rw[hfo.out,jR.out];clear hfo jR;go_wp2_with fail;refine hc1.out.mono ?_;clear hc1 q0 q1 q2 q3 ql;rintro e w2 ⟨m,fm,rfl,hC,hfm0,hb2⟩;obtain⟨K,hKK⟩:∃K,K=cZ (ps++ls):=⟨_,rfl⟩;rw[←hKK]at hC;have hL2:Hid (L=each (globs K jd) body):=Lib.hid (by rw[hL'.out,hKK]);obtain⟨w3,hw3⟩:∃x,x=w2.alloc (.cells #[.map (some m),.map (some fm)] 110):=⟨_,rfl⟩
 obtain⟨gc,hgc⟩:∃x,x=w2.heap.size:=⟨_,rfl⟩
 have hb3:Below w2.heap.size w2 w3:=by rw[hw3];exact aA w2 _
 have hI3:CcI gc m fm K [] w3:=⟨hC.below hb3,by rw[hw3,hgc];exact Holds.new w2 _ _⟩;have hB2:=hb1'.out.trans (hb2.mono hb1'.out.size);have hB3:=hB2.trans (hb3.mono hB2.size);have hHp3:=(g_.out.below hb2 g_.out.lt).below hb3 (g_.out.below hb2 g_.out.lt).lt;have xM:w.heap.size≤fm:=Nat.le_trans hb1'.out.size hfm0
 have hS3:aQ w3 (bF [some fm]) body (.slice A3 n3 c3):=by
  have h1:=hBd.out.mono (S':=bF [some fm]) fun x hx _=>by unfold bF;simp;omega
  exact h1.keep fun x hx _=>hB3.block x hx
 have hwk:=Lib.hid (lq (Et gc m fm K) (some m) body.dep body (Nat.le_refl _) w3 [] _ hS3 (by unfold lW;simp;exact hc'.out) hI3);have hI3':=Lib.hid hI3;have q0:=(g_.out.below hb2 g_.out.lt).cell 3;have ql:=(g_.out.below hb2 g_.out.lt).lt;simp at q0;have hB3':=Lib.hid hB3;have hfo:=Lib.hid hw3.symm;have xI:=Lib.hid hgc.symm;have xK:=Lib.hid xM
 clear hKK hL' hw3 hgc hb3 hI3 hB2 hB3 hHp3 xM hS3 hC hfm0 hb2 hb1' g_;go_wp2_with fail;rw[hfo.out,xI.out];refine hwk.out.mono ?_;clear hwk hfo xI q0 ql;rintro e w4 ⟨rfl,hI4,hW4⟩;rw[jW (fun s y=>by unfold Eu;rw[BM]) body,List.nil_append]at hI4;rw[←hL2.out]at hI4
 have hB4:=Lib.hid (hB3'.out.trans (hW4.below hB3'.out.size fun j hj=>by simp at hj;subst hj;exact xK.out));have hso:=Lib.hid (lV w4 m fm K L hI4.ci);obtain⟨p0,p1,pl⟩:=hI4.facts;clear hI4 hW4 hI3' hB3' hL2;go_wp2_with fail;refine hso.out.mono ?_;rintro e w5 ⟨⟨v,rfl,ho⟩,hb5⟩;have hv:=Lib.hid (own_base ho hB4.out.size);have hB5:=Lib.hid (hB4.out.trans (hb5.mono hB4.out.size))
 clear ho hb5 hso p0 p1 pl;go_wp2_with fail;go_ret;exact⟨⟨_,rfl,hv.out⟩,hB5.out⟩
theorem Ei (w:World) (f:Fnc) (A1 A2 A3:Option Addr) (c1 c2 c3:Nat) (hF:eP w Evr f (.slice A1 f.ps.length c1) (.slice A2 f.ls.length c2) (.slice A3 f.body.len c3)) (hc:jI (fun _=>1) f.body≤500000):
  Calls Tryz.prog 19 #[.agg (fnC f.nm A1 A2 A3 f.ps.length c1 f.ls.length c2 f.body.len c3)] w fun e w'=>(∃v,e= .returned v∧w'.ownsRow w.heap.size 9 1 v (canon (each (globs (cZ (f.ps++f.ls)) iw) f.body)).length ((canon (each (globs (cZ (f.ps++f.ls)) iw) f.body)).map encStr))∧Below w.heap.size w w':=by
 obtain⟨nm,ps,ls,body⟩:=f;simp only at hF hc⊢;obtain⟨-,h1,h2,hB⟩:=hF;simp only at h1 h2 hB;have hco:=Lib.hid (fun(w:World) (h1:bY w Evr ps (.slice A1 ps.length c1)) (h2:bY w Evr ls (.slice A2 ls.length c2))=>nK w nm ps ls A1 A2 A3 c1 c2 body.len c3 h1 h2);unfold fnC at hco⊢;obtain⟨n1,hn1⟩:∃y,y=ps.length:=⟨_,rfl⟩
 obtain⟨n2,hn2⟩:∃y,y=ls.length:=⟨_,rfl⟩;obtain⟨n3,hn3⟩:∃y,y=body.len:=⟨_,rfl⟩;rw[←hn1,←hn2,←hn3]at hco⊢;rw[←hn1]at h1;rw[←hn2]at h2;rw[←hn3]at hB;obtain⟨L,hL⟩:∃y,y=each (globs (cZ (ps++ls)) iw) body:=⟨_,rfl⟩;rw[←hL];obtain⟨w1,hw1⟩:∃x,x=w.alloc (.cells #[.string (ay nm),.slice A1 n1 c1,.slice A2 n2 c2,.slice A3 n3 c3] 26):=⟨_,rfl⟩
 obtain⟨gp,hgp⟩:∃x,x=w.heap.size:=⟨_,rfl⟩
 have hb1:Below w.heap.size w w1:=by rw[hw1];exact aA w _
 have hHp:Holds w1 gp 26 #[.string (ay nm),.slice A1 n1 c1,.slice A2 n2 c2,.slice A3 n3 c3]:=by rw[hw1,hgp];exact Holds.new w _ _
 have q0:w1.cell? ⟨gp,0,none⟩=some (.string (ay nm)):=hHp.cell 0;have q1:w1.cell? ⟨gp,1,none⟩=some (.slice A1 n1 c1):=hHp.cell 1;have q2:w1.cell? ⟨gp,2,none⟩=some (.slice A2 n2 c2):=hHp.cell 2;have q3:w1.cell? ⟨gp,3,none⟩=some (.slice A3 n3 c3):=hHp.cell 3;have ql:=hHp.lt
 have hc1:=Lib.hid (hco.out w1 (h1.keep fun x hx _=>hb1.block x hx) (h2.keep fun x hx _=>hb1.block x hx));have hBd:=Lib.hid hB;have hc':=Lib.hid hc;have hL':=Lib.hid hL;have g_:=Lib.hid hHp;have hb1':=Lib.hid hb1;have hfo:=Lib.hid hw1.symm;have jR:=Lib.hid hgp.symm;clear hco h1 h2 hB hn1 hn2 hn3 hL hw1 hgp hb1 hHp hc;go_enter Tryz.func19,Tryz.ntmps19;go_upto_region 1 with(fail)
 rw[hfo.out,jR.out];clear hfo jR;go_wp2_with fail;refine hc1.out.mono ?_;clear hc1 q0 q1 q2 q3 ql;rintro e w2 ⟨m,fm,rfl,hC,hfm0,hb2⟩;obtain⟨K,hKK⟩:∃K,K=cZ (ps++ls):=⟨_,rfl⟩;rw[←hKK]at hC;have hL2:Hid (L=each (globs K iw) body):=Lib.hid (by rw[hL'.out,hKK]);obtain⟨w3,hw3⟩:∃x,x=w2.alloc (.cells #[.map (some m),.map (some fm)] 110):=⟨_,rfl⟩
 obtain⟨gc,hgc⟩:∃x,x=w2.heap.size:=⟨_,rfl⟩
 have hb3:Below w2.heap.size w2 w3:=by rw[hw3];exact aA w2 _
 have hI3:CcI gc m fm K [] w3:=⟨hC.below hb3,by rw[hw3,hgc];exact Holds.new w2 _ _⟩;have hB2:=hb1'.out.trans (hb2.mono hb1'.out.size);have hB3:=hB2.trans (hb3.mono hB2.size);have hHp3:=(g_.out.below hb2 g_.out.lt).below hb3 (g_.out.below hb2 g_.out.lt).lt;have xM:w.heap.size≤fm:=Nat.le_trans hb1'.out.size hfm0
 have hS3:aQ w3 (bF [some fm]) body (.slice A3 n3 c3):=by
  have h1:=hBd.out.mono (S':=bF [some fm]) fun x hx _=>by unfold bF;simp;omega
  exact h1.keep fun x hx _=>hB3.block x hx
 have hwk:=Lib.hid (lq (Eh gc m fm K) (some m) body.dep body (Nat.le_refl _) w3 [] _ hS3 (by unfold lW;simp;exact hc'.out) hI3);have hI3':=Lib.hid hI3;have q0:=(g_.out.below hb2 g_.out.lt).cell 3;have ql:=(g_.out.below hb2 g_.out.lt).lt;simp at q0;have hB3':=Lib.hid hB3;have hfo:=Lib.hid hw3.symm;have xI:=Lib.hid hgc.symm;have xK:=Lib.hid xM
 clear hKK hL' hw3 hgc hb3 hI3 hB2 hB3 hHp3 xM hS3 hC hfm0 hb2 hb1' g_;go_wp2_with fail;rw[hfo.out,xI.out];refine hwk.out.mono ?_;clear hwk hfo xI q0 ql;rintro e w4 ⟨rfl,hI4,hW4⟩;rw[jW (fun s y=>by unfold Ej;rw[BJ]) body,List.nil_append]at hI4;rw[←hL2.out]at hI4
 have hB4:=Lib.hid (hB3'.out.trans (hW4.below hB3'.out.size fun j hj=>by simp at hj;subst hj;exact xK.out));have hso:=Lib.hid (lV w4 m fm K L hI4.ci);obtain⟨p0,p1,pl⟩:=hI4.facts;clear hI4 hW4 hI3' hB3' hL2;go_wp2_with fail;refine hso.out.mono ?_;rintro e w5 ⟨⟨v,rfl,ho⟩,hb5⟩;have hv:=Lib.hid (own_base ho hB4.out.size);have hB5:=Lib.hid (hB4.out.trans (hb5.mono hB4.out.size))
 clear ho hb5 hso p0 p1 pl;go_wp2_with fail;go_ret;exact⟨⟨_,rfl,hv.out⟩,hB5.out⟩
def HSl (l:Sl):Prop:=∀(w:World) (v v':Value),aQ w Evr l v→aQ w Evr l v'→Calls Tryz.prog 47 #[v,v'] w fun e w'=>e= .returned (.bool true)∧Below w.heap.size w w'
structure Ez (g g':Nat) (cs cs':Array Value) (w0 w:World):Prop where
 h1:Holds w g 63 cs
 h2:Holds w g' 63 cs'
 bl:Below w0.heap.size w0 w
theorem Ez.below {g g':Nat} {cs cs':Array Value} {w0 w w':World} (h:Ez g g' cs cs' w0 w) (hb:Below w.heap.size w w'):Ez g g' cs cs' w0 w':=⟨h.h1.below hb h.h1.lt,h.h2.below hb h.h2.lt,h.bl.trans (hb.mono h.bl.size)⟩
theorem jD (w:World) (n:Nat):Below w.heap.size w (w.drewN n):=by
 induction n with
 |zero=>exact Below.refl _ _
 |succ n ih=>exact ih.trans ((Below.refl _ _).drew)
theorem Bl (h:Hd) (t e:Sl) (iht:HSl t) (ihe:HSl e) (w:World) (pe pf pc Aa At Al pe' pf' pc' Aa' At' Al':Option Addr) (ca ct cl ca' ct' cl':Nat)
  (H:dn w Evr h (.pointer pe) (.pointer pf) (.pointer pc) (.slice Aa h.args.length ca)) (ht:aQ w Evr t (.slice At t.len ct)) (he:aQ w Evr e (.slice Al e.len cl))
  (H':dn w Evr h (.pointer pe') (.pointer pf') (.pointer pc') (.slice Aa' h.args.length ca')) (ht':aQ w Evr t (.slice At' t.len ct')) (he':aQ w Evr e (.slice Al' e.len cl')):
  Calls Tryz.prog 94 #[.agg (stC h pe pf pc Aa At Al h.args.length ca t.len ct e.len cl),.agg (stC h pe' pf' pc' Aa' At' Al' h.args.length ca' t.len ct' e.len cl')] w fun e' w'=>e'= .returned (.bool true)∧Below w.heap.size w w':=by
 obtain⟨n,hn⟩:∃y,y=h.args.length:=⟨_,rfl⟩;obtain⟨nt,hnt⟩:∃y,y=t.len:=⟨_,rfl⟩;obtain⟨nl,hnl⟩:∃y,y=e.len:=⟨_,rfl⟩;have hA:=H.a;have hA':=H'.a
 have hn5:n≤100000:=by obtain⟨A,c,vs,e1,l1,-⟩:=H.a;rw[hn];exact l1
 have hA1:=Lib.hid hA;have hA2:=Lib.hid hA';rw[←hn]at H H';rw[←hnt]at ht ht';rw[←hnl]at he he';rw[←hn,←hnt,←hnl];obtain⟨w2,hw2⟩:∃y,y=(w.alloc (.cells (stC h pe pf pc Aa At Al n ca nt ct nl cl) 63)).alloc (.cells (stC h pe' pf' pc' Aa' At' Al' n ca' nt ct' nl cl') 63):=⟨_,rfl⟩;obtain⟨g,hg⟩:∃y,y=w.heap.size:=⟨_,rfl⟩
 obtain⟨g',hg'⟩:∃y,y=w.heap.size+1:=⟨_,rfl⟩
 have hT:Ez g g' (stC h pe pf pc Aa At Al n ca nt ct nl cl) (stC h pe' pf' pc' Aa' At' Al' n ca' nt ct' nl cl') w w2:=by
  refine⟨?_,?_,?_⟩
  ·rw[hw2,hg];exact(Holds.new w _ _).alloc _
  ·rw[hw2,hg'];have h1:=Holds.new (w.alloc (.cells (stC h pe pf pc Aa At Al n ca nt ct nl cl) 63)) 63 (stC h pe' pf' pc' Aa' At' Al' n ca' nt ct' nl cl');rw[show(w.alloc (.cells (stC h pe pf pc Aa At Al n ca nt ct nl cl) 63)).heap.size=w.heap.size+1 by simp]at h1;exact h1
  ·rw[hw2];exact((Below.refl _ _).alloc (Nat.le_refl _) _).alloc (by simp) _
 have cE:=Lib.hid fun(x:World) (hb:Below w.heap.size w x)=>iM h.e x _ _ (H.e.keep fun j hj _=>hb.block j hj) (H'.e.keep fun j hj _=>hb.block j hj);have cF:=Lib.hid fun(x:World) (hb:Below w.heap.size w x)=>iM h.f x _ _ (H.f.keep fun j hj _=>hb.block j hj) (H'.f.keep fun j hj _=>hb.block j hj)
 have cC:=Lib.hid fun(x:World) (hb:Below w.heap.size w x)=>pJ h.c x _ _ (H.c.keep fun j hj _=>hb.block j hj) (H'.c.keep fun j hj _=>hb.block j hj);have cT:=Lib.hid fun(x:World) (hb:Below w.heap.size w x)=>iht x _ _ (ht.keep fun j hj _=>hb.block j hj) (ht'.keep fun j hj _=>hb.block j hj)
 have cL:=Lib.hid fun(x:World) (hb:Below w.heap.size w x)=>ihe x _ _ (he.keep fun j hj _=>hb.block j hj) (he'.keep fun j hj _=>hb.block j hj);have hfo:=Lib.hid hw2.symm;have hgH:=Lib.hid hg.symm;have D5:=Lib.hid hg'.symm;have hT':=Lib.hid hT;have hn':=Lib.hid hn;unfold stC at hfo;clear hw2 hg hg' hT H H' ht he ht' he' hn hnt hnl hA hA';unfold stC;go_enter Tryz.func94,Tryz.ntmps94
 go_upto_region 1 with(fail);rw[hfo.out,D5.out,hgH.out];clear hfo hgH D5;obtain⟨q0,q1,q2,q3,q4,q5,q6,q7,q8,q9,ql⟩:=dA hT'.out.h1;obtain⟨p0,p1,p2,p3,p4,p5,p6,p7,p8,p9,pl⟩:=dA hT'.out.h2;go_wp2_with fail;clear q0 q1 q2 q3 q4 q5 q6 q7 q8 q9 ql p0 p1 p2 p3 p4 p5 p6 p7 p8 p9 pl
 go_loopw [5] (fun i wl=>∃k:Nat,k≤n∧i= .int .i64 k∧Hid (Ez g g' (stC h pe pf pc Aa At Al n ca nt ct nl cl) (stC h pe' pf' pc' Aa' At' Al' n ca' nt ct' nl cl') w wl)) (fun i _=>n-(intOf i).toNat)
 case atStart=>exact⟨0,by omega,rfl,hT'⟩
 clear hT';obtain⟨k,hk,rfl,hT⟩:=hrel;rename World=>wl;obtain⟨q0,q1,q2,q3,q4,q5,q6,q7,q8,q9,ql⟩:=dA hT.out.h1;obtain⟨p0,p1,p2,p3,p4,p5,p6,p7,p8,p9,pl⟩:=dA hT.out.h2;by_cases hlt:k<n
 ·have hkl:k<h.args.length:=by rw[←hn'.out];exact hlt
  have hb:=hT.out.bl;obtain⟨b,off,ve,e1,c0,c1,c2,hx,hnm⟩:=aZ.atS (hA1.out.keep fun j hj _=>hb.block j hj:aZ wl Evr h.args (.slice Aa h.args.length ca)) hkl;obtain⟨b',off',ve',e1',d0,d1,d2,hx',-⟩:=aZ.atS (hA2.out.keep fun j hj _=>hb.block j hj:aZ wl Evr h.args (.slice Aa' h.args.length ca')) hkl;subst e1 e1';obtain⟨p,rfl⟩:=hx.vp;obtain⟨p',rfl⟩:=hx'.vp
  have ca:=Lib.hid fun n=>iM h.args[k].e (wl.drewN n) _ _ (hx.drawn n) (hx'.drawn n);generalize h.args[k]=a at c0 c1 d0 d1 ca;obtain⟨ap,an,ae⟩:=a;simp only at c0 c1 d0 d1 ca;clear hx hx' hb hnm q0 q1 q2 q3 q4 q5 q7 q8 q9 p0 p1 p2 p3 p4 p5 p7 p8 p9;cases ap
  all_goals
   go_wp2_with fail;go_quiet ((go_at_call 146;with_reducible exact Calls.quiet_of (ca.out _)));rename_i nq;have hT2:=Lib.hid (hT.out.below (jD wl nq));go_wp2_with fail;exact⟨⟨k+1,by omega,by simp,hT2⟩,by simp[intOf];omega⟩
 ·obtain rfl:k=n:=by omega
  go_wp2_with fail;refine(cE.out wl hT.out.bl).mono ?_;rintro e0 w1 ⟨rfl,nq0,hq0⟩;have hT1:=Lib.hid (hT.out.below (by rw[hq0];exact jD wl nq0:Below wl.heap.size wl w1));clear hq0;clear q0 q1 q2 q3 q4 q5 q6 q7 q8 q9 ql p0 p1 p2 p3 p4 p5 p6 p7 p8 p9 pl hT;obtain⟨q0,q1,q2,q3,q4,q5,q6,q7,q8,q9,ql⟩:=dA hT1.out.h1
  obtain⟨p0,p1,p2,p3,p4,p5,p6,p7,p8,p9,pl⟩:=dA hT1.out.h2;go_wp2_with fail;refine(cF.out w1 hT1.out.bl).mono ?_;rintro e1 wB ⟨rfl,nq1,hq1⟩;have hT2:=Lib.hid (hT1.out.below (by rw[hq1];exact jD w1 nq1:Below w1.heap.size w1 wB));clear hq1;clear q0 q1 q2 q3 q4 q5 q6 q7 q8 q9 ql p0 p1 p2 p3 p4 p5 p6 p7 p8 p9 pl hT1
  obtain⟨q0,q1,q2,q3,q4,q5,q6,q7,q8,q9,ql⟩:=dA hT2.out.h1;obtain⟨p0,p1,p2,p3,p4,p5,p6,p7,p8,p9,pl⟩:=dA hT2.out.h2;go_wp2_with fail;refine(cC.out wB hT2.out.bl).mono ?_;rintro e2 w3 ⟨rfl,nq2,hq2⟩;have hT3:=Lib.hid (hT2.out.below (by rw[hq2];exact jD wB nq2:Below wB.heap.size wB w3));clear hq2
  clear q0 q1 q2 q3 q4 q5 q6 q7 q8 q9 ql p0 p1 p2 p3 p4 p5 p6 p7 p8 p9 pl hT2;obtain⟨q0,q1,q2,q3,q4,q5,q6,q7,q8,q9,ql⟩:=dA hT3.out.h1;obtain⟨p0,p1,p2,p3,p4,p5,p6,p7,p8,p9,pl⟩:=dA hT3.out.h2;go_wp2_with fail;refine(cT.out w3 hT3.out.bl).mono ?_;rintro e3 w4 ⟨rfl,hb3⟩;have hT4:=Lib.hid (hT3.out.below hb3);clear hb3
  clear q0 q1 q2 q3 q4 q5 q6 q7 q8 q9 ql p0 p1 p2 p3 p4 p5 p6 p7 p8 p9 pl hT3;obtain⟨q0,q1,q2,q3,q4,q5,q6,q7,q8,q9,ql⟩:=dA hT4.out.h1;obtain⟨p0,p1,p2,p3,p4,p5,p6,p7,p8,p9,pl⟩:=dA hT4.out.h2;go_wp2_with fail;refine(cL.out w4 hT4.out.bl).mono ?_;rintro e4 w5 ⟨rfl,hb4⟩;have hT5:=Lib.hid (hT4.out.below hb4);clear hb4
  clear q0 q1 q2 q3 q4 q5 q6 q7 q8 q9 ql p0 p1 p2 p3 p4 p5 p6 p7 p8 p9 pl hT4;go_wp2_with fail;go_ret;exact⟨rfl,hT5.out.bl⟩
end Go.Proofs.YtpndglghpojjkaaGreat
