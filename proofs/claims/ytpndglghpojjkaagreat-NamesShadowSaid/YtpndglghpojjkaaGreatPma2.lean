/-
  4 texts of the proof, in one file: no condition.
-/
import Derived.WalkKit
import Derived.WalkSpells
import Derived.WalkLawsBesides
import Derived.Lib.Hide
import Derived.Deep.Draws
import Derived.Lib.SlBytesConst
import Derived.Test.YtpndglghpojjkaaGreatRows
import Derived.ProofKit
import Derived.OpenShut
import Derived.Deep.Matrix
import Derived.Maps.AppendAt
import Derived.Deep.QuietTactic
import Derived.BigQuiet
import Derived.StillTailTactics
import Derived.IntWalk
import Derived.Test.YtpndglghpojjkaaGreatPma1
set_option maxRecDepth 1000000
set_option maxHeartbeats 8000000
namespace Go.Proofs.YtpndglghpojjkaaGreat
open Go.RowKit Go.Deep
section
variable {C:PC} {L:PL} {s s2:PS} {w0 w w':World}
theorem aG (hM:Moved C L s w0 w) (t:List UInt8) {b:Bool} (hb:isF C t s=b):Calls Tryz.prog 33 #[.pointer (some ⟨L.g,0,none⟩),.string ⟨t.toArray⟩] w fun e w'=>e= .returned (.bool b)∧Moved C L s w0 w'∧Writes [some L.g] w w':=by
 refine(DW w s t hM.at_).mono ?_;rintro e w' ⟨rfl,n,rfl⟩;rw[hb];exact⟨rfl,hM.below (below_drewN (Below.refl _ _) _),Writes.of_below (below_drewN (Below.refl _ _) _) _⟩
theorem bg (hM:Moved C L s w0 w) (t:List UInt8) (hb:isF C t s=false):Calls Tryz.prog 31 #[.pointer (some ⟨L.g,0,none⟩),.string ⟨t.toArray⟩] w fun e w'=>e= .returned (.bool false)∧Moved C L s w0 w'∧Writes [some L.g] w w':=by
 refine(take_any w s t hM.at_).mono ?_;rintro e w' ⟨rfl,h⟩;rw[hb]at h⊢;exact⟨rfl,hM.trans h,h.wr⟩
theorem dH (hM:Moved C L s w0 w) (t:List UInt8) (hb:isF C t s=true) (hs:s.next=s2):Calls Tryz.prog 31 #[.pointer (some ⟨L.g,0,none⟩),.string ⟨t.toArray⟩] w fun e w'=>e= .returned (.bool true)∧Moved C L s2 w0 w'∧Writes [some L.g] w w':=by
 subst hs;refine(take_any w s t hM.at_).mono ?_;rintro e w' ⟨rfl,h⟩;rw[hb]at h⊢;exact⟨rfl,hM.trans h,h.wr⟩
theorem bf (hM:Moved C L s w0 w) (t:List UInt8) (hs:aY C t s=s2):Calls Tryz.prog 29 #[.pointer (some ⟨L.g,0,none⟩),.string ⟨t.toArray⟩] w fun e w'=>e= .returned (.tuple #[])∧Moved C L s2 w0 w'∧Writes [some L.g] w w':=by
 subst hs;refine(Ci w s t hM.at_).mono ?_;rintro e w' ⟨rfl,h⟩;exact⟨rfl,hM.trans h,h.wr⟩
theorem fF (hM:Moved C L s w0 w) (k:Nat) (hk:k≠0∧k≤100) (hs:bT C k s=s2):Calls Tryz.prog 35 #[.pointer (some ⟨L.g,0,none⟩),.int .i64 k] w fun e w'=>e= .returned (.tuple #[])∧Moved C L s2 w0 w'∧Writes [some L.g] w w':=by
 subst hs;refine(mJ w s k hM.at_ hk).mono ?_;rintro e w' ⟨rfl,h1,h2⟩;exact⟨rfl,hM.trans ⟨h1,h2⟩,h2⟩
theorem aX (hM:Moved C L s w0 w) {b:Bool} (hb:cu C s=b):Calls Tryz.prog 64 #[.pointer (some ⟨L.g,0,none⟩)] w fun e w'=>e= .returned (.bool b)∧Moved C L s w0 w'∧Writes [some L.g] w w':=by
 refine(uJ w s hM.at_).mono ?_;rintro e w' ⟨rfl,h⟩;rw[hb];exact⟨rfl,hM.below h,Writes.of_below h _⟩
theorem dR (hM:Moved C L s w0 w) {x:List UInt8} (hs:aK C s=(x,s2)):Calls Tryz.prog 30 #[.pointer (some ⟨L.g,0,none⟩)] w fun e w'=>e= .returned (.string (ay x))∧Moved C L s2 w0 w'∧x.length≤4096∧Writes [some L.g] w w':=by
 refine(name_any w s hM.at_).mono ?_;rintro e w' ⟨rfl,h,hl⟩;rw[hs]at h hl⊢;exact⟨rfl,hM.trans h,hl,h.wr⟩
theorem eu (hM:Moved C L s w0 w) {b:Bool} (hs:aV C s=(b,s2)):Calls Tryz.prog 34 #[.pointer (some ⟨L.g,0,none⟩)] w fun e w'=>e= .returned (.bool b)∧Moved C L s2 w0 w'∧Writes [some L.g] w w':=by
 refine(open_any w s hM.at_).mono ?_;rintro e w' ⟨rfl,h⟩;rw[hs]at h⊢;exact⟨rfl,hM.trans h,h.wr⟩
theorem Moved.shut (h:Moved C L s w0 w) (hd:1≤s.deep):Moved C L s.shut w0 (w.setCell ⟨L.g,5,none⟩ (.int .i64 ((s.deep:Int)-1))):=by
 refine h.store 5 _ ?_ ⟨h.at_.ok.i,h.at_.ok.n,h.at_.ok.at_,h.at_.ok.e,by have:=h.at_.ok.deep;simp only[PS.shut];omega⟩;simp[PS.cells,PS.shut];omega
theorem Moved.facts (h:Moved C L s w0 w):L.g<w.heap.size∧w.cell? ⟨L.g,0,none⟩=some (.slice L.A C.tk.length L.c)∧w.cell? ⟨L.g,1,none⟩=some (.int .i64 s.i)∧w.cell? ⟨L.g,2,none⟩=some (.int .i64 C.end_)∧w.cell? ⟨L.g,3,none⟩=some (.int .i64 s.e)∧
  w.cell? ⟨L.g,4,none⟩=some (.int .i64 s.at_)∧w.cell? ⟨L.g,5,none⟩=some (.int .i64 s.deep)∧w.cell? ⟨L.g,6,none⟩=some (.int .i64 s.n)∧(∀i,w.frozen? ⟨L.g,i,none⟩=false):=h.at_.facts
theorem Moved.bounds (h:Moved C L s w0 w):C.tk.length≤4096∧C.end_≤4096∧s.i≤C.tk.length∧s.e≤100∧s.at_≤4096∧s.deep≤40∧s.n≤1000:=h.at_.bounds
theorem dh {i:Nat} (h:i≤5000):IntKind.i64.wrap ((i:Int)+1)=(i:Int)+1:=IntWalk.i64_in _ (by omega)
theorem lK {i:Nat} (h:1≤i) (h2:i≤5000):IntKind.i64.wrap ((i:Int)-1)=(i:Int)-1:=IntWalk.i64_in _ (by omega)
end
def dG (f:Nat) (m:Nat) (F:PC→PS→Ex×PS):Prop:=∀(C:PC) (L:PL) (w:World) (s:PS),PAt C L s w→m≤s.deep→Calls Tryz.prog f #[.pointer (some ⟨L.g,0,none⟩)] w (fA C L (F C s) w)
theorem dG.from_ {f m:Nat} {F:PC→PS→Ex×PS} (h:dG f m F) {C:PC} {L:PL} {s:PS} {w0 w:World} {r:Ex×PS} (hM:Moved C L s w0 w) (hm:m≤s.deep) (hr:F C s=r):
  Calls Tryz.prog f #[.pointer (some ⟨L.g,0,none⟩)] w fun e w'=>∃p,e= .returned (.pointer p)∧Moved C L r.2 w0 w'∧aJ w' (Ge w0.heap.size) r.1 (.pointer p)∧Writes [some L.g] w w':=by
 subst hr;refine(h C L w s hM.at_ hm).mono ?_;rintro e w' ⟨p,rfl,h1,h2⟩;exact⟨p,rfl,hM.trans h1,h2.ge hM.wr.size,h1.wr⟩
theorem Moved.tok {C:PC} {L:PL} {s:PS} {w0 w:World} (h:Moved C L s w0 w) {k b off:Nat} {x:Tok} (hx:C.tk[k]? =some x) (hA:L.A=some ⟨b,off,none⟩):
  w.cell? ⟨b,off+k*3,none⟩=some (.int .i64 x.k)∧w.cell? ⟨b,off+k*3+1,none⟩=some (.string (ay x.t))∧w.cell? ⟨b,off+k*3+2,none⟩=some (.int .i64 x.at_):=by
 obtain⟨hk,rfl⟩:=List.getElem?_eq_some_iff.1 hx;obtain⟨b',off',hA',_,h1,h2,h3⟩:=h.at_.tok hk;rw[hA]at hA';injection hA' with hA';injection hA' with e1 e2;subst e1 e2;exact⟨h1,h2,h3⟩
theorem iV {α β:Type} {x:α×β} {a:α} (h:x.1=a):x=(a,x.2):=by rw[←h]
theorem zF (m:Nat) (sum un:PC→PS→Ex×PS) (hsum:dG 130 (m+1) sum) (hun:dG 191 (m+1) un)
  (hs1:∀C s,Stp C s (sum C s).2) (hs2:∀C s,Stp C s (un C s).2):dG 191 m (fun C=>unF C (sum C) (un C)):=by
 intro C L w s hP hm;obtain⟨a0,d0,d1,d2,d3,d4,d5,d6,dfz⟩:=hP.facts;obtain⟨b1,b2,b3,b4,b5,b6,b7⟩:=hP.bounds;have hM:=Lib.hid (Moved.refl hP);have hlt0:=hP.lt;show Calls _ _ _ _ (fA C L (unF C (sum C) (un C) s) w);obtain⟨R,hR⟩:∃x,x=unF C (sum C) (un C) s:=⟨_,rfl⟩;rw[←hR];by_cases he:s.e=0
 case neg=>
  have he':((s.e:Int) !=0)=true:=by simp;omega
  have hF:Hid (R=(.nil,bT C 51 s)):=Lib.hid (by rw[hR];unfold unF;rw[if_pos he]);clear hP he hR;go_enter Tryz.func191,Tryz.ntmps191;go_wp2_with fail;go_quiet (fail);go_wp2_with fail;refine(fF (hM.out.below (below_drewN (Below.refl _ _) _)) 51 (by decide) rfl).mono ?_;rintro e w1 ⟨rfl,h1,-⟩;have h1:=Lib.hid h1;clear a0 d0 d1 d2 d3 d4 d5 d6 dfz;go_wp2_with fail;go_ret;rw[hF.out]
  exact fA.of h1.out (aJ.nil_ _ _)
 have he':((s.e:Int) !=0)=false:=by simp;omega
 by_cases hi:s.i<C.tk.length
 case neg=>
  have hi2:decide (C.tk.length≤s.i)=true:=by simpa using hi
  have hF:Hid (R=(.nil,bT C 51 s)):=Lib.hid (by rw[hR];unfold unF;rw[if_neg (by omega),List.getElem?_eq_none (by omega)]);clear hP he hR;go_enter Tryz.func191,Tryz.ntmps191;go_wp2_with fail;go_quiet (fail);go_wp2_with fail;refine(fF (hM.out.below (below_drewN (Below.refl _ _) _)) 51 (by decide) rfl).mono ?_;rintro e w1 ⟨rfl,h1,-⟩;have h1:=Lib.hid h1
  clear a0 d0 d1 d2 d3 d4 d5 d6 dfz;go_wp2_with fail;go_ret;rw[hF.out];exact fA.of h1.out (aJ.nil_ _ _)
 have hi2:decide (C.tk.length≤s.i)=false:=by simpa using hi
 have hx:=List.getElem?_eq_getElem hi
 cases h45:isF C [45] s with
 |true=>
  cases ho:(aV C s).1 with
  |false=>
   have hF:Hid (R=(.nil,(aV C s).2)):=Lib.hid (by rw[hR];unfold unF;rw[if_neg (by omega),hx];simp only[h45,ho];rfl);have ho':=Lib.hid (iV ho);replace h45:=Lib.hid h45;clear hP he hx hR ho;go_enter Tryz.func191,Tryz.ntmps191;go_wp2_with fail;go_quiet (fail);go_wp2_with fail;refine(aG (hM.out.below (below_drewN (Below.refl _ _) _)) [45] h45.out).mono ?_
   rintro e w1 ⟨rfl,h1,-⟩;clear a0 d0 d1 d2 d3 d4 d5 d6 dfz;have h1:=Lib.hid h1;go_wp2_with fail;refine(eu h1.out ho'.out).mono ?_;rintro e w2 ⟨rfl,h2,-⟩;have h2:=Lib.hid h2;go_wp2_with fail;go_ret;rw[hF.out];exact fA.of h2.out (aJ.nil_ _ _)
  |true=>
   obtain⟨e1,_,hlt⟩:=iK ho;obtain⟨s2,hs2'⟩:∃x,x=(aV C s).2:=⟨_,rfl⟩;obtain⟨r,hr⟩:∃x,x=un C s2.next:=⟨_,rfl⟩;have hF:Hid (R=(.mk 7 0 [] r.1 .nil,r.2.shut)):=Lib.hid (by rw[hR,hr,hs2'];unfold unF;rw[if_neg (by omega),hx];simp only[h45,ho];rfl);have ho':Hid (aV C s=(true,s2)):=Lib.hid (by rw[hs2'];exact iV ho)
   have hi3:s2.i<C.tk.length:=by rw[hs2',e1];exact hi
   have hdp:m+1≤s2.next.deep:=by rw[hs2',e1];simp only[PS.next];omega
   have hd1:1≤r.2.deep:=by rw[hr,(hs2 C s2.next).dp];omega
   replace hr:=Lib.hid hr;replace h45:=Lib.hid h45;clear hP he hx hR ho e1 hs2';go_enter Tryz.func191,Tryz.ntmps191;go_wp2_with fail;go_quiet (fail);go_wp2_with fail;refine(aG (hM.out.below (below_drewN (Below.refl _ _) _)) [45] h45.out).mono ?_;rintro e w1 ⟨rfl,h1,-⟩;clear a0 d0 d1 d2 d3 d4 d5 d6 dfz;have h1:=Lib.hid h1;go_wp2_with fail;refine(eu h1.out ho'.out).mono ?_
   rintro e w2 ⟨rfl,h2,-⟩;obtain⟨a0,d0,d1,d2,d3,d4,d5,d6,dfz⟩:=h2.facts;have h2:=Lib.hid h2;have hw1:=dh (i:=s2.i) (by omega);go_wp2_with fail;refine(hun.from_ (h2.out.next hi3) hdp hr.out.symm).mono ?_;rintro e w3 ⟨p,rfl,h3,hE,-⟩;clear a0 d0 d1 d2 d3 d4 d5 d6 dfz hw1 h2 h1;obtain⟨c1,c2,c3,c4,c5,c6,c7⟩:=h3.bounds;obtain⟨a0,d0,d1,d2,d3,d4,d5,d6,dfz⟩:=h3.facts
   have h3:=Lib.hid h3;have hE:=Lib.hid hE;have hw1:=lK hd1 (by omega);go_wp2_with fail;go_ret;rw[hF.out];have h4:=h3.out.shut hd1;have hst:Writes [some L.g] w3 (w3.setCell ⟨L.g,5,none⟩ (.int .i64 ((r.2.deep:Int)-1))):=Writes.store w3 (by simp) _;have hE2:=hE.out.pw hst hlt0
   exact fA.of (h4.below (aA _ _)) (aJ.new 7 0 [] (by decide) (by simp) (Nat.le_trans h3.out.wr.size hst.size) (gV _ _ _).symm hE2 (aJ.nil_ _ _))
 |false=>
  cases h40:isF C [40] s with
  |true=>
   cases ho:(aV C s).1 with
   |false=>
    have hF:Hid (R=(.nil,(aV C s).2)):=Lib.hid (by rw[hR];unfold unF;rw[if_neg (by omega),hx];simp only[h45,h40,ho];rfl);have ho':=Lib.hid (iV ho);replace h45:=Lib.hid h45;replace h40:=Lib.hid h40;clear hP he hx hR ho;go_enter Tryz.func191,Tryz.ntmps191;go_wp2_with fail;go_quiet (fail);go_wp2_with fail
    refine(aG (hM.out.below (below_drewN (Below.refl _ _) _)) [45] h45.out).mono ?_;rintro e w1 ⟨rfl,h1,-⟩;clear a0 d0 d1 d2 d3 d4 d5 d6 dfz;have h1:=Lib.hid h1;go_wp2_with fail;refine(aG h1.out [40] h40.out).mono ?_;rintro e w2 ⟨rfl,h2,-⟩;have h2:=Lib.hid h2;go_wp2_with fail;refine(eu h2.out ho'.out).mono ?_;rintro e w3 ⟨rfl,h3,-⟩;have h3:=Lib.hid h3;go_wp2_with fail;go_ret
    rw[hF.out];exact fA.of h3.out (aJ.nil_ _ _)
   |true=>
    obtain⟨e1,_,hlt⟩:=iK ho;obtain⟨s2,hs2'⟩:∃x,x=(aV C s).2:=⟨_,rfl⟩;obtain⟨r,hr⟩:∃x,x=sum C s2.next:=⟨_,rfl⟩;obtain⟨s3,hs3⟩:∃x,x=aY C [41] r.2:=⟨_,rfl⟩;have hF:Hid (R=(r.1,s3.shut)):=Lib.hid (by rw[hR,hs3,hr,hs2'];unfold unF;rw[if_neg (by omega),hx];simp only[h45,h40,ho];rfl)
    have ho':Hid (aV C s=(true,s2)):=Lib.hid (by rw[hs2'];exact iV ho)
    have hi3:s2.i<C.tk.length:=by rw[hs2',e1];exact hi
    have hdp:m+1≤s2.next.deep:=by rw[hs2',e1];simp only[PS.next];omega
    have hd1:1≤s3.deep:=by rw[hs3,(Stp.want [41] r.2).dp,hr,(hs1 C s2.next).dp];omega
    replace hr:=Lib.hid hr;replace hs3:=Lib.hid hs3;replace h45:=Lib.hid h45;replace h40:=Lib.hid h40;clear hP he hx hR ho e1 hs2';go_enter Tryz.func191,Tryz.ntmps191;go_wp2_with fail;go_quiet (fail);go_wp2_with fail;refine(aG (hM.out.below (below_drewN (Below.refl _ _) _)) [45] h45.out).mono ?_;rintro e w1 ⟨rfl,h1,-⟩;clear a0 d0 d1 d2 d3 d4 d5 d6 dfz;have h1:=Lib.hid h1;go_wp2_with fail
    refine(aG h1.out [40] h40.out).mono ?_;rintro e w2 ⟨rfl,h2,-⟩;have h2:=Lib.hid h2;go_wp2_with fail;refine(eu h2.out ho'.out).mono ?_;rintro e w3 ⟨rfl,h3,-⟩;obtain⟨a0,d0,d1,d2,d3,d4,d5,d6,dfz⟩:=h3.facts;have h3:=Lib.hid h3;have hw1:=dh (i:=s2.i) (by omega);go_wp2_with fail;refine(hsum.from_ (h3.out.next hi3) hdp hr.out.symm).mono ?_;rintro e w4 ⟨p,rfl,h4,hE,-⟩
    clear a0 d0 d1 d2 d3 d4 d5 d6 dfz hw1 h2 h1 h3;have h4:=Lib.hid h4;have hE:=Lib.hid hE;go_wp2_with fail;refine(bf h4.out [41] hs3.out.symm).mono ?_;rintro e w5 ⟨rfl,h5,hW5⟩;have hE5:=Lib.hid (hE.out.pw hW5 hlt0);clear hW5 hE h4;obtain⟨c1,c2,c3,c4,c5,c6,c7⟩:=h5.bounds;obtain⟨a0,d0,d1,d2,d3,d4,d5,d6,dfz⟩:=h5.facts;have h5:=Lib.hid h5;have hw1:=lK hd1 (by omega)
    go_wp2_with fail;go_ret;rw[hF.out];have h6:=h5.out.shut hd1;have hst:Writes [some L.g] w5 (w5.setCell ⟨L.g,5,none⟩ (.int .i64 ((s3.deep:Int)-1))):=Writes.store w5 (by simp) _;exact fA.of h6 (hE5.out.pw hst hlt0)
  |false=>
   obtain⟨x,hxx⟩:∃x,x=C.tk[s.i]:=⟨_,rfl⟩;have hxt:=(hP.fit.txt _ (List.getElem_mem hi));obtain⟨b,off,hA,hbg,t0,t1,t2⟩:=hP.tok hi;rw[←hxx]at hx hxt t0 t1 t2;by_cases hx1:x.k=1
   ·have hF:Hid (R=(.mk 0 (rD x.t 0) [] .nil .nil,s.next)):=Lib.hid (by rw[hR];unfold unF;rw[if_neg (by omega),hx];simp only[h45,h40,hx1];rfl);replace h45:=Lib.hid h45;replace h40:=Lib.hid h40
    have hx1':((x.k:Int)==1)=true:=by simp;omega
    replace hx:=Lib.hid hx;clear hP he hR hxx hx1;go_enter Tryz.func191,Tryz.ntmps191;go_wp2_with fail;go_quiet (fail);go_wp2_with fail;refine(aG (hM.out.below (below_drewN (Below.refl _ _) _)) [45] h45.out).mono ?_;rintro e w1 ⟨rfl,h1,-⟩;clear a0 d0 d1 d2 d3 d4 d5 d6 dfz t0 t1 t2;have h1:=Lib.hid h1;go_wp2_with fail;refine(aG h1.out [40] h40.out).mono ?_;rintro e w2 ⟨rfl,h2,-⟩
    obtain⟨a0,d0,d1,d2,d3,d4,d5,d6,dfz⟩:=h2.facts;obtain⟨t0,t1,t2⟩:=h2.tok hx.out hA;have h2:=Lib.hid h2;clear h1;go_wp2_with fail;go_quiet (fail);have h3:=h2.out.below (below_drewN (Below.refl _ w2) nq);obtain⟨w3,hw3⟩:∃x,x=w2.drewN nq:=⟨_,rfl⟩;rw[←hw3]at h3⊢;clear hw3 a0 d0 d1 d2 d3 d4 d5 d6 dfz t0 t1 t2 h2;obtain⟨a0,d0,d1,d2,d3,d4,d5,d6,dfz⟩:=h3.facts
    have h4:=h3.next hi;obtain⟨w4,hw4⟩:∃x,x=w3.setCell ⟨L.g,1,none⟩ (.int .i64 ((s.i:Int)+1)):=⟨_,rfl⟩;rw[←hw4]at h4;have hw1:=dh (i:=s.i) (by omega);go_wp2_with fail;rw[←hw4];clear hw4 a0 d0 d1 d2 d3 d4 d5 d6 dfz h3 hw1;obtain⟨a0,d0,d1,d2,d3,d4,d5,d6,dfz⟩:=h4.facts;obtain⟨t0,t1,t2⟩:=h4.tok hx.out hA
    have e1:((s.next.i:Nat):Int)=(s.i:Int)+1:=by simp[PS.next]
    rw[e1]at d1;clear e1;have h4:=Lib.hid h4
    have hsub:IntKind.i64.wrap ((s.i:Int)+1-1)=(s.i:Int):=by rw[IntWalk.i64_in _ (by omega)];omega
    have hsub2:IntKind.i64.wrap (s.i:Int)=(s.i:Int):=IntWalk.i64_in _ (by omega);have hnum:=yR w4.drew (ay x.t) (by rw[oK];exact hxt.1)
    go_still_tail 12,(by kernel_rfl)
    have h5:=Lib.hid (h4.out.below (Below.refl _ w4).drew);change wpList _ _ _ _ _ w4.drew;obtain⟨w5,hw5⟩:∃x,x=w4.drew:=⟨_,rfl⟩;rw[←hw5]at h5 hnum⊢;clear hw5 a0 d0 d1 d2 d3 d4 d5 d6 dfz t0 t1 t2 h4 hsub hsub2;go_wp2_with fail;refine hnum.mono ?_;clear hnum;rintro e w6 ⟨rfl,hw6⟩;subst hw6;go_wp2_with fail;go_ret;rw[hF.out]
    exact fA.of (h5.out.below (aA _ _)) (aJ.new 0 (rD x.t 0) [] (by decide) (by simp) h5.out.wr.size rfl (aJ.nil_ _ _) (aJ.nil_ _ _))
   ·cases hn:cu C s with
    |true=>
     obtain⟨nm,hnm⟩:∃y,y=(aK C s).1:=⟨_,rfl⟩;obtain⟨s2,hs2'⟩:∃y,y=(aK C s).2:=⟨_,rfl⟩;have hnf:Hid (aK C s=(nm,s2)):=Lib.hid (by rw[hnm,hs2']);have hF:Hid (R=(.mk 1 0 nm .nil .nil,s2)):=Lib.hid (by rw[hR,hnm,hs2'];unfold unF;rw[if_neg (by omega),hx];simp only[h45,h40,hx1,hn];rfl);replace h45:=Lib.hid h45;replace h40:=Lib.hid h40
     replace hn:=Lib.hid hn;replace hx:=Lib.hid hx
     have hx1':((x.k:Int)==1)=false:=by simp;omega
     clear hP he hR hxx hx1 hnm hs2';go_enter Tryz.func191,Tryz.ntmps191;go_wp2_with fail;go_quiet (fail);go_wp2_with fail;refine(aG (hM.out.below (below_drewN (Below.refl _ _) _)) [45] h45.out).mono ?_;rintro e w1 ⟨rfl,h1,-⟩;clear a0 d0 d1 d2 d3 d4 d5 d6 dfz t0 t1 t2;have h1:=Lib.hid h1;go_wp2_with fail;refine(aG h1.out [40] h40.out).mono ?_;rintro e w2 ⟨rfl,h2,-⟩
     obtain⟨a0,d0,d1,d2,d3,d4,d5,d6,dfz⟩:=h2.facts;obtain⟨t0,t1,t2⟩:=h2.tok hx.out hA;have h2:=Lib.hid h2;clear h1;go_wp2_with fail;go_quiet (fail);go_wp2_with fail;refine(aX (h2.out.below (below_drewN (Below.refl _ _) _)) hn.out).mono ?_;rintro e w3 ⟨rfl,h3,-⟩;clear a0 d0 d1 d2 d3 d4 d5 d6 dfz t0 t1 t2 h2;have h3:=Lib.hid h3;go_wp2_with fail
     refine(dR h3.out hnf.out).mono ?_;rintro e w4 ⟨rfl,h4,hl,-⟩;have h4:=Lib.hid h4;clear h3;go_wp2_with fail;go_ret;rw[hF.out];exact fA.of (h4.out.below (aA _ _)) (aJ.new 1 0 nm (by decide) hl h4.out.wr.size rfl (aJ.nil_ _ _) (aJ.nil_ _ _))
    |false=>
     have hF:Hid (R=(.nil,bT C 51 s)):=Lib.hid (by rw[hR];unfold unF;rw[if_neg (by omega),hx];simp only[h45,h40,hx1,hn];rfl);replace h45:=Lib.hid h45;replace h40:=Lib.hid h40;replace hn:=Lib.hid hn;replace hx:=Lib.hid hx
     have hx1':((x.k:Int)==1)=false:=by simp;omega
     clear hP he hR hxx hx1;go_enter Tryz.func191,Tryz.ntmps191;go_wp2_with fail;go_quiet (fail);go_wp2_with fail;refine(aG (hM.out.below (below_drewN (Below.refl _ _) _)) [45] h45.out).mono ?_;rintro e w1 ⟨rfl,h1,-⟩;clear a0 d0 d1 d2 d3 d4 d5 d6 dfz t0 t1 t2;have h1:=Lib.hid h1;go_wp2_with fail;refine(aG h1.out [40] h40.out).mono ?_;rintro e w2 ⟨rfl,h2,-⟩
     obtain⟨a0,d0,d1,d2,d3,d4,d5,d6,dfz⟩:=h2.facts;obtain⟨t0,t1,t2⟩:=h2.tok hx.out hA;have h2:=Lib.hid h2;clear h1;go_wp2_with fail;go_quiet (fail);go_wp2_with fail;refine(aX (h2.out.below (below_drewN (Below.refl _ _) _)) hn.out).mono ?_;rintro e w3 ⟨rfl,h3,-⟩;clear a0 d0 d1 d2 d3 d4 d5 d6 dfz t0 t1 t2 h2;have h3:=Lib.hid h3;go_wp2_with fail
     refine(fF h3.out 51 (by decide) rfl).mono ?_;rintro e w4 ⟨rfl,h4,-⟩;have h4:=Lib.hid h4;clear h3;go_wp2_with fail;go_ret;rw[hF.out];exact fA.of h4.out (aJ.nil_ _ _)
def rG (L:PL) (w:World):Nat:=5000-(intOf ((w.cell? ⟨L.g,1,none⟩).getD undef)).toNat
theorem Moved.left {C:PC} {L:PL} {s:PS} {w0 w:World} (h:Moved C L s w0 w):rG L w=5000-s.i:=by
 obtain⟨a0,d0,d1,d2,d3,d4,d5,d6,dfz⟩:=h.facts;unfold rG;rw[d1];simp[intOf]
structure kL (C:PC) (L:PL) (kf:PS→Nat) (part:PS→Ex×PS) (m:Nat) (R:Ex×PS) (f:Nat) (a:Ex) (s:PS) (p:Option Addr) (w0 w:World):Prop where
 eq:moreL kf part f a s=R
 fuel:C.tk.length<s.i+f
 dp:m≤s.deep
 mv:Moved C L s w0 w
 tree:aJ w (Ge w0.heap.size) a (.pointer p)
theorem kL.stop {C:PC} {L:PL} {kf:PS→Nat} {part:PS→Ex×PS} {m:Nat} {R:Ex×PS} {f:Nat} {a:Ex} {s:PS} {p:Option Addr} {w0 w:World} (h:kL C L kf part m R f a s p w0 w) (hs:s.e≠0∨kf s=0):R=(a,s):=by
 rw[←h.eq]
 cases f with
 |zero=>rfl
 |succ f=>
  unfold moreL;rcases hs with hs|hs
  ·rw[if_pos hs]
  ·by_cases he:s.e≠0
   ·rw[if_pos he]
   ·rw[if_neg he,if_pos hs]
theorem kL.go_ {C:PC} {L:PL} {kf:PS→Nat} {part:PS→Ex×PS} {m:Nat} {R:Ex×PS} {f:Nat} {a:Ex} {s:PS} {p:Option Addr} {w0 w:World} (h:kL C L kf part m R f a s p w0 w) (he:s.e=0) {k:Nat} (hk:kf s=k) (hk0:k≠0) (hi:s.i<C.tk.length) (hp:∀s,Stp C s (part s).2):
  ∃f',moreL kf part f' (.mk k 0 [] a (part s.next).1) (part s.next).2=R∧C.tk.length<(part s.next).2.i+f'∧m≤(part s.next).2.deep∧s.i+1≤(part s.next).2.i:=by
 subst hk;have hi2:=(hp s.next).i1;have hd:=(hp s.next).dp;have hf:=h.fuel;have hdp:=h.dp;simp only[PS.next]at hi2 hd
 cases f with
 |zero=>omega
 |succ f=>
  refine⟨f,?_,by simp only[PS.next];omega,by simp only[PS.next];omega,hi2⟩;rw[←h.eq]
  conv=>rhs;unfold moreL
  rw[if_neg (by omega),if_neg hk0]
theorem uD (m:Nat) (un:PC→PS→Ex×PS) (hun:dG 191 m un) (hs:∀C s,Stp C s (un C s).2):dG 166 m (fun C=>nX C (un C)):=by
 intro C L w s hP hm;have hM:=Lib.hid (Moved.refl hP);have hlt0:=hP.lt;have hlen:=hP.fit.len;show Calls _ _ _ _ (fA C L (nX C (un C) s) w);obtain⟨R,hR⟩:∃x,x=nX C (un C) s:=⟨_,rfl⟩;rw[←hR];obtain⟨r,hr⟩:∃x,x=un C s:=⟨_,rfl⟩;have hd:=(hs C s).dp;rw[←hr]at hd;have hR2:Hid (moreL (gW C) (un C) (C.tk.length+1) r.1 r.2=R):=Lib.hid (by subst hr;exact hR.symm)
 have hdm:m≤r.2.deep:=by omega
 replace hr:=Lib.hid hr;clear hP hR hd;go_enter Tryz.func166,Tryz.ntmps166;go_wp2_with fail;refine(hun.from_ hM.out hm hr.out.symm).mono ?_;rintro e w1 ⟨p,rfl,h1,hE,-⟩;have hL1:Hid (kL C L (gW C) (un C) m R (C.tk.length+1) r.1 r.2 p w w1):=Lib.hid ⟨hR2.out,by omega,hdm,h1,hE⟩;clear h1 hE hR2 hr hdm;go_wp2_with fail
 go_loopw [3] (fun av wr=>∃(f:Nat) (a:Ex) (t:PS) (p:Option Addr),av= .pointer p∧Hid (kL C L (gW C) (un C) m R f a t p w wr)) (fun _ wr=>rG L wr)
 case atStart=>exact⟨_,_,_,p,rfl,hL1⟩
 clear hL1;obtain⟨f,a,t,q,rfl,hL⟩:=hrel;obtain⟨a0,d0,d1,d2,d3,d4,d5,d6,dfz⟩:=hL.out.mv.facts;obtain⟨b1,b2,b3,b4,b5,b6,b7⟩:=hL.out.mv.bounds;by_cases he:t.e=0
 case neg=>
  have he':((t.e:Int)==0)=false:=by simp;omega
  have hF:=Lib.hid (hL.out.stop (.inl he));go_wp2_with fail;go_ret;rw[hF.out];exact fA.of hL.out.mv hL.out.tree
 have he':((t.e:Int)==0)=true:=by simp;omega
 have he0:=Lib.hid he;clear he
 cases h42:isF C [42] t with
 |true=>
  have hk:gW C t=4:=by unfold gW;simp[h42]
  replace h42:=Lib.hid h42;have hi:=dD h42.out;obtain⟨f',hE1,hE2,hE3,hE4⟩:=hL.out.go_ he0.out hk (by decide) hi (hs C);obtain⟨r,hr⟩:∃x,x=un C t.next:=⟨_,rfl⟩;rw[←hr]at hE1 hE2 hE3 hE4;replace hr:=Lib.hid hr;replace hE1:=Lib.hid hE1;clear hk;go_wp2_with fail;refine(aG hL.out.mv [42] h42.out).mono ?_;rintro e v0 ⟨rfl,hV0,hW0⟩
  have hT0:=Lib.hid (aJ.pw (hL.out.tree) hW0 hlt0);clear hW0;clear a0 d0 d1 d2 d3 d4 d5 d6 dfz;obtain⟨a0,d0,d1,d2,d3,d4,d5,d6,dfz⟩:=hV0.facts;replace hV0:=Lib.hid hV0;have hw1:=dh (i:=t.i) (by omega);go_wp2_with fail;have hst:Writes [some L.g] v0 (v0.setCell ⟨L.g,1,none⟩ (.int .i64 ((t.i:Int)+1))):=Writes.store v0 (by simp) _;have hTs:=Lib.hid (hT0.out.pw hst hlt0)
  refine(hun.from_ (hV0.out.next hi) (by have:=hL.out.dp;simpa[PS.next]using this) hr.out.symm).mono ?_;rintro e w2 ⟨p2,rfl,h2,hE,hW2⟩;clear a0 d0 d1 d2 d3 d4 d5 d6 dfz hst;have hTa:=hTs.out.pw hW2 hlt0
  have hL2:Hid (kL C L (gW C) (un C) m R f' (.mk 4 0 [] a r.1) r.2 (some ⟨w2.heap.size,0,none⟩) w (w2.alloc (.cells #[.int .i64 4,.int .i64 0,.string ⟨#[]⟩,.pointer q,.pointer p2] 205))):=
   Lib.hid ⟨hE1.out,hE2,hE3,h2.below (aA _ _),aJ.new 4 0 [] (by decide) (by simp) h2.wr.size rfl hTa hE⟩
  have hm1:=hL.out.mv.left;have hm2:=hL2.out.mv.left;have hb2:=hL2.out.mv.bounds.2.2.1;clear hTa h2 hE hW2 hE1 hTs;go_wp2_with fail;exact⟨⟨_,_,_,_,rfl,hL2⟩,by rw[hm1,hm2];omega⟩
 |false=>
  cases h47:isF C [47] t with
  |true=>
   have hk:gW C t=5:=by unfold gW;simp[h42,h47]
   replace h42:=Lib.hid h42;replace h47:=Lib.hid h47;have hi:=dD h47.out;obtain⟨f',hE1,hE2,hE3,hE4⟩:=hL.out.go_ he0.out hk (by decide) hi (hs C);obtain⟨r,hr⟩:∃x,x=un C t.next:=⟨_,rfl⟩;rw[←hr]at hE1 hE2 hE3 hE4;replace hr:=Lib.hid hr;replace hE1:=Lib.hid hE1;clear hk;go_wp2_with fail;refine(aG hL.out.mv [42] h42.out).mono ?_;rintro e v0 ⟨rfl,hV0,hW0⟩
   have hT0:=Lib.hid (aJ.pw (hL.out.tree) hW0 hlt0);clear hW0;clear a0 d0 d1 d2 d3 d4 d5 d6 dfz;replace hV0:=Lib.hid hV0;go_wp2_with fail;refine(aG hV0.out [47] h47.out).mono ?_;rintro e v1 ⟨rfl,hV1,hW1⟩;have hT1:=Lib.hid (aJ.pw (hT0.out) hW1 hlt0);clear hW1;obtain⟨a0,d0,d1,d2,d3,d4,d5,d6,dfz⟩:=hV1.facts;replace hV1:=Lib.hid hV1;have hw1:=dh (i:=t.i) (by omega)
   go_wp2_with fail;have hst:Writes [some L.g] v1 (v1.setCell ⟨L.g,1,none⟩ (.int .i64 ((t.i:Int)+1))):=Writes.store v1 (by simp) _;have hTs:=Lib.hid (hT1.out.pw hst hlt0);refine(hun.from_ (hV1.out.next hi) (by have:=hL.out.dp;simpa[PS.next]using this) hr.out.symm).mono ?_;rintro e w2 ⟨p2,rfl,h2,hE,hW2⟩;clear a0 d0 d1 d2 d3 d4 d5 d6 dfz hst;have hTa:=hTs.out.pw hW2 hlt0
   have hL2:Hid (kL C L (gW C) (un C) m R f' (.mk 5 0 [] a r.1) r.2 (some ⟨w2.heap.size,0,none⟩) w (w2.alloc (.cells #[.int .i64 5,.int .i64 0,.string ⟨#[]⟩,.pointer q,.pointer p2] 205))):=
    Lib.hid ⟨hE1.out,hE2,hE3,h2.below (aA _ _),aJ.new 5 0 [] (by decide) (by simp) h2.wr.size rfl hTa hE⟩
   have hm1:=hL.out.mv.left;have hm2:=hL2.out.mv.left;have hb2:=hL2.out.mv.bounds.2.2.1;clear hTa h2 hE hW2 hE1 hTs;go_wp2_with fail;exact⟨⟨_,_,_,_,rfl,hL2⟩,by rw[hm1,hm2];omega⟩
  |false=>
   cases h37:isF C [37] t with
   |true=>
    have hk:gW C t=6:=by unfold gW;simp[h42,h47,h37]
    replace h42:=Lib.hid h42;replace h47:=Lib.hid h47;replace h37:=Lib.hid h37;have hi:=dD h37.out;obtain⟨f',hE1,hE2,hE3,hE4⟩:=hL.out.go_ he0.out hk (by decide) hi (hs C);obtain⟨r,hr⟩:∃x,x=un C t.next:=⟨_,rfl⟩;rw[←hr]at hE1 hE2 hE3 hE4;replace hr:=Lib.hid hr;replace hE1:=Lib.hid hE1;clear hk;go_wp2_with fail;refine(aG hL.out.mv [42] h42.out).mono ?_
    rintro e v0 ⟨rfl,hV0,hW0⟩;have hT0:=Lib.hid (aJ.pw (hL.out.tree) hW0 hlt0);clear hW0;clear a0 d0 d1 d2 d3 d4 d5 d6 dfz;replace hV0:=Lib.hid hV0;go_wp2_with fail;refine(aG hV0.out [47] h47.out).mono ?_;rintro e v1 ⟨rfl,hV1,hW1⟩;have hT1:=Lib.hid (aJ.pw (hT0.out) hW1 hlt0);clear hW1;replace hV1:=Lib.hid hV1;go_wp2_with fail;refine(aG hV1.out [37] h37.out).mono ?_
    rintro e v2 ⟨rfl,hV2,hW2⟩;have hT2:=Lib.hid (aJ.pw (hT1.out) hW2 hlt0);clear hW2;obtain⟨a0,d0,d1,d2,d3,d4,d5,d6,dfz⟩:=hV2.facts;replace hV2:=Lib.hid hV2;have hw1:=dh (i:=t.i) (by omega);go_wp2_with fail;have hst:Writes [some L.g] v2 (v2.setCell ⟨L.g,1,none⟩ (.int .i64 ((t.i:Int)+1))):=Writes.store v2 (by simp) _;have hTs:=Lib.hid (hT2.out.pw hst hlt0)
    refine(hun.from_ (hV2.out.next hi) (by have:=hL.out.dp;simpa[PS.next]using this) hr.out.symm).mono ?_;rintro e w2 ⟨p2,rfl,h2,hE,hW2⟩;clear a0 d0 d1 d2 d3 d4 d5 d6 dfz hst;have hTa:=hTs.out.pw hW2 hlt0
    have hL2:Hid (kL C L (gW C) (un C) m R f' (.mk 6 0 [] a r.1) r.2 (some ⟨w2.heap.size,0,none⟩) w (w2.alloc (.cells #[.int .i64 6,.int .i64 0,.string ⟨#[]⟩,.pointer q,.pointer p2] 205))):=
     Lib.hid ⟨hE1.out,hE2,hE3,h2.below (aA _ _),aJ.new 6 0 [] (by decide) (by simp) h2.wr.size rfl hTa hE⟩
    have hm1:=hL.out.mv.left;have hm2:=hL2.out.mv.left;have hb2:=hL2.out.mv.bounds.2.2.1;clear hTa h2 hE hW2 hE1 hTs;go_wp2_with fail;exact⟨⟨_,_,_,_,rfl,hL2⟩,by rw[hm1,hm2];omega⟩
   |false=>
    have hk:gW C t=0:=by unfold gW;simp[h42,h47,h37]
    have hF:=Lib.hid (hL.out.stop (.inr hk));clear hk;replace h42:=Lib.hid h42;replace h47:=Lib.hid h47;replace h37:=Lib.hid h37;go_wp2_with fail;refine(aG hL.out.mv [42] h42.out).mono ?_;rintro e v0 ⟨rfl,hV0,hW0⟩;have hT0:=Lib.hid (aJ.pw (hL.out.tree) hW0 hlt0);clear hW0;replace hV0:=Lib.hid hV0;clear a0 d0 d1 d2 d3 d4 d5 d6 dfz;go_wp2_with fail;refine(aG hV0.out [47] h47.out).mono ?_
    rintro e v1 ⟨rfl,hV1,hW1⟩;have hT1:=Lib.hid (aJ.pw (hT0.out) hW1 hlt0);clear hW1;replace hV1:=Lib.hid hV1;go_wp2_with fail;refine(aG hV1.out [37] h37.out).mono ?_;rintro e v2 ⟨rfl,hV2,hW2⟩;have hT2:=Lib.hid (aJ.pw (hT1.out) hW2 hlt0);clear hW2;replace hV2:=Lib.hid hV2;go_wp2_with fail;go_ret;rw[hF.out];exact fA.of hV2.out hT2.out
theorem wG (m:Nat) (prod:PC→PS→Ex×PS) (hprod:dG 166 m prod) (hs:∀C s,Stp C s (prod C s).2):dG 130 m (fun C s=>moreL (kS C) (prod C) (C.tk.length+1) (prod C s).1 (prod C s).2):=by
 intro C L w s hP hm;have hM:=Lib.hid (Moved.refl hP);have hlt0:=hP.lt;have hlen:=hP.fit.len;show Calls _ _ _ _ (fA C L (moreL (kS C) (prod C) (C.tk.length+1) (prod C s).1 (prod C s).2) w);obtain⟨R,hR⟩:∃x,x=moreL (kS C) (prod C) (C.tk.length+1) (prod C s).1 (prod C s).2:=⟨_,rfl⟩;rw[←hR];obtain⟨r,hr⟩:∃x,x=prod C s:=⟨_,rfl⟩;have hd:=(hs C s).dp;rw[←hr]at hd
 have hR2:Hid (moreL (kS C) (prod C) (C.tk.length+1) r.1 r.2=R):=Lib.hid (by subst hr;exact hR.symm)
 have hdm:m≤r.2.deep:=by omega
 replace hr:=Lib.hid hr;clear hP hR hd;go_enter Tryz.func130,Tryz.ntmps130;go_wp2_with fail;refine(hprod.from_ hM.out hm hr.out.symm).mono ?_;rintro e w1 ⟨p,rfl,h1,hE,-⟩;have hL1:Hid (kL C L (kS C) (prod C) m R (C.tk.length+1) r.1 r.2 p w w1):=Lib.hid ⟨hR2.out,by omega,hdm,h1,hE⟩;clear h1 hE hR2 hr hdm;go_wp2_with fail
 go_loopw [3] (fun av wr=>∃(f:Nat) (a:Ex) (t:PS) (p:Option Addr),av= .pointer p∧Hid (kL C L (kS C) (prod C) m R f a t p w wr)) (fun _ wr=>rG L wr)
 case atStart=>exact⟨_,_,_,p,rfl,hL1⟩
 clear hL1;obtain⟨f,a,t,q,rfl,hL⟩:=hrel;obtain⟨a0,d0,d1,d2,d3,d4,d5,d6,dfz⟩:=hL.out.mv.facts;obtain⟨b1,b2,b3,b4,b5,b6,b7⟩:=hL.out.mv.bounds;by_cases he:t.e=0
 case neg=>
  have he':((t.e:Int)==0)=false:=by simp;omega
  have hF:=Lib.hid (hL.out.stop (.inl he));go_wp2_with fail;go_ret;rw[hF.out];exact fA.of hL.out.mv hL.out.tree
 have he':((t.e:Int)==0)=true:=by simp;omega
 have he0:=Lib.hid he;clear he
 cases h45:isF C [45] t with
 |true=>
  have hk:kS C t=3:=by unfold kS;simp[h45]
  replace h45:=Lib.hid h45;have hi:=dD h45.out;obtain⟨f',hE1,hE2,hE3,hE4⟩:=hL.out.go_ he0.out hk (by decide) hi (hs C);obtain⟨r,hr⟩:∃x,x=prod C t.next:=⟨_,rfl⟩;rw[←hr]at hE1 hE2 hE3 hE4;replace hr:=Lib.hid hr;replace hE1:=Lib.hid hE1;clear hk;go_wp2_with fail;refine(aG hL.out.mv [45] h45.out).mono ?_;rintro e v0 ⟨rfl,hV0,hW0⟩
  have hT0:=Lib.hid (aJ.pw (hL.out.tree) hW0 hlt0);clear hW0;clear a0 d0 d1 d2 d3 d4 d5 d6 dfz;obtain⟨a0,d0,d1,d2,d3,d4,d5,d6,dfz⟩:=hV0.facts;replace hV0:=Lib.hid hV0;have hw1:=dh (i:=t.i) (by omega);go_wp2_with fail;have hst:Writes [some L.g] v0 (v0.setCell ⟨L.g,1,none⟩ (.int .i64 ((t.i:Int)+1))):=Writes.store v0 (by simp) _;have hTs:=Lib.hid (hT0.out.pw hst hlt0)
  refine(hprod.from_ (hV0.out.next hi) (by have:=hL.out.dp;simpa[PS.next]using this) hr.out.symm).mono ?_;rintro e w2 ⟨p2,rfl,h2,hE,hW2⟩;clear a0 d0 d1 d2 d3 d4 d5 d6 dfz hst;have hTa:=hTs.out.pw hW2 hlt0
  have hL2:Hid (kL C L (kS C) (prod C) m R f' (.mk 3 0 [] a r.1) r.2 (some ⟨w2.heap.size,0,none⟩) w (w2.alloc (.cells #[.int .i64 3,.int .i64 0,.string ⟨#[]⟩,.pointer q,.pointer p2] 205))):=
   Lib.hid ⟨hE1.out,hE2,hE3,h2.below (aA _ _),aJ.new 3 0 [] (by decide) (by simp) h2.wr.size rfl hTa hE⟩
  have hm1:=hL.out.mv.left;have hm2:=hL2.out.mv.left;have hb2:=hL2.out.mv.bounds.2.2.1;clear hTa h2 hE hW2 hE1 hTs;go_wp2_with fail;exact⟨⟨_,_,_,_,rfl,hL2⟩,by rw[hm1,hm2];omega⟩
 |false=>
  cases h43:isF C [43] t with
  |true=>
   have hk:kS C t=2:=by unfold kS;simp[h45,h43]
   replace h45:=Lib.hid h45;replace h43:=Lib.hid h43;have hi:=dD h43.out;obtain⟨f',hE1,hE2,hE3,hE4⟩:=hL.out.go_ he0.out hk (by decide) hi (hs C);obtain⟨r,hr⟩:∃x,x=prod C t.next:=⟨_,rfl⟩;rw[←hr]at hE1 hE2 hE3 hE4;replace hr:=Lib.hid hr;replace hE1:=Lib.hid hE1;clear hk;go_wp2_with fail;refine(aG hL.out.mv [45] h45.out).mono ?_;rintro e v0 ⟨rfl,hV0,hW0⟩
   have hT0:=Lib.hid (aJ.pw (hL.out.tree) hW0 hlt0);clear hW0;clear a0 d0 d1 d2 d3 d4 d5 d6 dfz;replace hV0:=Lib.hid hV0;go_wp2_with fail;refine(aG hV0.out [43] h43.out).mono ?_;rintro e v1 ⟨rfl,hV1,hW1⟩;have hT1:=Lib.hid (aJ.pw (hT0.out) hW1 hlt0);clear hW1;obtain⟨a0,d0,d1,d2,d3,d4,d5,d6,dfz⟩:=hV1.facts;replace hV1:=Lib.hid hV1;have hw1:=dh (i:=t.i) (by omega)
   go_wp2_with fail;have hst:Writes [some L.g] v1 (v1.setCell ⟨L.g,1,none⟩ (.int .i64 ((t.i:Int)+1))):=Writes.store v1 (by simp) _;have hTs:=Lib.hid (hT1.out.pw hst hlt0);refine(hprod.from_ (hV1.out.next hi) (by have:=hL.out.dp;simpa[PS.next]using this) hr.out.symm).mono ?_;rintro e w2 ⟨p2,rfl,h2,hE,hW2⟩;clear a0 d0 d1 d2 d3 d4 d5 d6 dfz hst;have hTa:=hTs.out.pw hW2 hlt0
   have hL2:Hid (kL C L (kS C) (prod C) m R f' (.mk 2 0 [] a r.1) r.2 (some ⟨w2.heap.size,0,none⟩) w (w2.alloc (.cells #[.int .i64 2,.int .i64 0,.string ⟨#[]⟩,.pointer q,.pointer p2] 205))):=
    Lib.hid ⟨hE1.out,hE2,hE3,h2.below (aA _ _),aJ.new 2 0 [] (by decide) (by simp) h2.wr.size rfl hTa hE⟩
   have hm1:=hL.out.mv.left;have hm2:=hL2.out.mv.left;have hb2:=hL2.out.mv.bounds.2.2.1;clear hTa h2 hE hW2 hE1 hTs;go_wp2_with fail;exact⟨⟨_,_,_,_,rfl,hL2⟩,by rw[hm1,hm2];omega⟩
  |false=>
   have hk:kS C t=0:=by unfold kS;simp[h45,h43]
   have hF:=Lib.hid (hL.out.stop (.inr hk));clear hk;replace h45:=Lib.hid h45;replace h43:=Lib.hid h43;go_wp2_with fail;refine(aG hL.out.mv [45] h45.out).mono ?_;rintro e v0 ⟨rfl,hV0,hW0⟩;have hT0:=Lib.hid (aJ.pw (hL.out.tree) hW0 hlt0);clear hW0;replace hV0:=Lib.hid hV0;clear a0 d0 d1 d2 d3 d4 d5 d6 dfz;go_wp2_with fail;refine(aG hV0.out [43] h43.out).mono ?_
   rintro e v1 ⟨rfl,hV1,hW1⟩;have hT1:=Lib.hid (aJ.pw (hT0.out) hW1 hlt0);clear hW1;replace hV1:=Lib.hid hV1;go_wp2_with fail;go_ret;rw[hF.out];exact fA.of hV1.out hT1.out
theorem dG.vac (f:Nat) (F:PC→PS→Ex×PS):dG f 41 F:=fun C L w s hP hm=>absurd hP.ok.deep (by omega)
theorem j_:∀d,d≤40→dG 191 (40-d) (fun C=>unD C d)∧dG 166 (40-d) (fun C=>uG C d)∧dG 130 (40-d) (fun C=>sS C d)
 |0,_=>by
  have h1:dG 191 40 (fun C=>unD C 0):=zF 40 (fun _ s=>(.nil,s)) (fun _ s=>(.nil,s)) (dG.vac _ _) (dG.vac _ _) (fun _ s=>Stp.refl s) (fun _ s=>Stp.refl s);have h2:dG 166 40 (fun C=>uG C 0):=uD 40 (fun C=>unD C 0) h1 (fun C s=>kR 0 s);exact⟨h1,h2,wG 40 (fun C=>uG C 0) h2 (fun C s=>uF 0 s)⟩
 |d+1,hd=>by
  obtain⟨i1,i2,i3⟩:=j_ d (by omega)
  have e:40-d=40-(d+1)+1:=by omega
  rw[e]at i1 i2 i3;have h1:dG 191 (40-(d+1)) (fun C=>unD C (d+1)):=zF _ (fun C=>sS C d) (fun C=>unD C d) i3 i1 (fun C s=>fK d s) (fun C s=>kR d s);have h2:dG 166 (40-(d+1)) (fun C=>uG C (d+1)):=uD _ (fun C=>unD C (d+1)) h1 (fun C s=>kR (d+1) s)
  exact⟨h1,h2,wG _ (fun C=>uG C (d+1)) h2 (fun C s=>uF (d+1) s)⟩
def bC (w:World) (S:Nat→Prop):Cn→Value→Prop
 | .nil,v=>v= .pointer none
 | .mk k a b p q nm,v=>∃g va vb vp vq,v= .pointer (some ⟨g,0,none⟩)∧S g∧nm.length≤4096∧k≤9∧
   Holds w g 213 #[.int .i64 k,va,vb,vp,vq,.string (ay nm)]∧aJ w S a va∧aJ w S b vb∧bC w S p vp∧bC w S q vq
theorem bC.keep {w w':World} {S:Nat→Prop} (hk:∀x,x<w.heap.size→S x→w'.heap[x]? =w.heap[x]?):∀{e:Cn} {v:Value},bC w S e v→bC w' S e v
 | .nil,_,h=>h
 | .mk _ _ _ _ _ _,_,h=>by obtain⟨g,va,vb,vp,vq,e,hS,hn,hk9,hH,ha,hb,hp,hq⟩:=h;exact⟨g,va,vb,vp,vq,e,hS,hn,hk9,(hk g hH.lt hS).trans hH,ha.keep hk,hb.keep hk,hp.keep hk,hq.keep hk⟩
theorem bC.mono {w:World} {S S':Nat→Prop} (hk:∀x,x<w.heap.size→S x→S' x):∀{e:Cn} {v:Value},bC w S e v→bC w S' e v
 | .nil,_,h=>h
 | .mk _ _ _ _ _ _,_,h=>by obtain⟨g,va,vb,vp,vq,e,hS,hn,hk9,hH,ha,hb,hp,hq⟩:=h;exact⟨g,va,vb,vp,vq,e,hk g hH.lt hS,hn,hk9,hH,ha.mono hk,hb.mono hk,hp.mono hk,hq.mono hk⟩
theorem bC.below {w w':World} {S:Nat→Prop} {e:Cn} {v:Value} (h:bC w S e v) (hb:Below w.heap.size w w'):bC w' S e v:=h.keep fun x hx _=>hb.block x hx
theorem bC.writes {w w':World} {M:List (Option Nat)} {S:Nat→Prop} {e:Cn} {v:Value} (h:bC w S e v) (hW:Writes M w w') (hM:∀k,some k∈M→¬S k):bC w' S e v:=h.keep fun x hx hS=>hW.block x hx fun e=>hM x e hS
theorem bC.ge {w:World} {B B':Nat} {e:Cn} {v:Value} (h:bC w (Ge B') e v) (hB:B≤B'):bC w (Ge B) e v:=h.mono fun _ _ h=>Nat.le_trans hB h
theorem bC.pw {w w':World} {B g:Nat} {e:Cn} {v:Value} (h:bC w (Ge B) e v) (hW:Writes [some g] w w') (hg:g<B):bC w' (Ge B) e v:=
 h.writes hW fun k hk hge=>by simp at hk;subst hk;exact absurd hge (Nat.not_le_of_lt hg)
theorem bC.nil_ (w:World) (S:Nat→Prop):bC w S .nil (.pointer none):=rfl
theorem bC.new {w:World} {B g:Nat} {a b:Ex} {p q:Cn} {va vb vp vq:Value} (k:Nat) (nm:List UInt8) (hk:k≤9) (hn:nm.length≤4096) (hB:B≤w.heap.size) (hg:g=w.heap.size) (ha:aJ w (Ge B) a va) (hb:aJ w (Ge B) b vb) (hp:bC w (Ge B) p vp) (hq:bC w (Ge B) q vq):
  bC (w.alloc (.cells #[.int .i64 k,va,vb,vp,vq,.string (ay nm)] 213)) (Ge B) (.mk k a b p q nm) (.pointer (some ⟨g,0,none⟩)):=by
 subst hg;have hb':=aA w (.cells #[.int .i64 k,va,vb,vp,vq,.string (ay nm)] 213);exact⟨_,va,vb,vp,vq,rfl,hB,hn,hk,Holds.new _ _ _,ha.below hb',hb.below hb',hp.below hb',hq.below hb'⟩
def f_ (C:PC) (L:PL) (r:Cn×PS) (w:World) (e:Ending) (w':World):Prop:=∃p,e= .returned (.pointer p)∧Moved C L r.2 w w'∧bC w' (Ge w.heap.size) r.1 (.pointer p)
theorem f_.of {C:PC} {L:PL} {r:Cn×PS} {w w':World} {p:Option Addr} (h:Moved C L r.2 w w') (h2:bC w' (Ge w.heap.size) r.1 (.pointer p)):f_ C L r w (.returned (.pointer p)) w':=⟨p,rfl,h,h2⟩
def dL (f:Nat) (m:Nat) (F:PC→PS→Cn×PS):Prop:=∀(C:PC) (L:PL) (w:World) (s:PS),PAt C L s w→m≤s.deep→Calls Tryz.prog f #[.pointer (some ⟨L.g,0,none⟩)] w (f_ C L (F C s) w)
theorem dL.vac (f:Nat) (F:PC→PS→Cn×PS):dL f 41 F:=fun C L w s hP hm=>absurd hP.ok.deep (by omega)
theorem dL.from_ {f m:Nat} {F:PC→PS→Cn×PS} (h:dL f m F) {C:PC} {L:PL} {s:PS} {w0 w:World} {r:Cn×PS} (hM:Moved C L s w0 w) (hm:m≤s.deep) (hr:F C s=r):
  Calls Tryz.prog f #[.pointer (some ⟨L.g,0,none⟩)] w fun e w'=>∃p,e= .returned (.pointer p)∧Moved C L r.2 w0 w'∧bC w' (Ge w0.heap.size) r.1 (.pointer p)∧Writes [some L.g] w w':=by
 subst hr;refine(h C L w s hM.at_ hm).mono ?_;rintro e w' ⟨p,rfl,h1,h2⟩;exact⟨p,rfl,hM.trans h1,h2.ge hM.wr.size,h1.wr⟩
structure ny (C:PC) (L:PL) (t:List UInt8) (k:Nat) (part:PS→Cn×PS) (m:Nat) (R:Cn×PS) (f:Nat) (a:Cn) (s:PS) (p:Option Addr) (w0 w:World):Prop where
 eq:joinL C t k part f a s=R
 fuel:C.tk.length<s.i+f
 dp:m≤s.deep
 mv:Moved C L s w0 w
 tree:bC w (Ge w0.heap.size) a (.pointer p)
section
variable {C:PC} {L:PL} {t:List UInt8} {k:Nat} {part:PS→Cn×PS} {m:Nat} {R:Cn×PS} {f:Nat} {a:Cn} {s:PS} {p:Option Addr} {w0 w:World}
theorem ny.stop (h:ny C L t k part m R f a s p w0 w) (hs:isF C t s=false):R=(a,s):=by
 rw[←h.eq]
 cases f with
 |zero=>rfl
 |succ f=>unfold joinL;rw[hs];rfl
theorem ny.go_ (h:ny C L t k part m R f a s p w0 w) (hi:isF C t s=true) (hp:∀s,Stp C s (part s).2):
  ∃f',joinL C t k part f' (.mk k .nil .nil a (part s.next).1 []) (part s.next).2=R∧C.tk.length<(part s.next).2.i+f'∧m≤(part s.next).2.deep∧s.i+1≤(part s.next).2.i:=by
 have hi2:=(hp s.next).i1;have hd:=(hp s.next).dp;have hf:=h.fuel;have hdp:=h.dp;have hlt:=dD hi;simp only[PS.next]at hi2 hd
 cases f with
 |zero=>omega
 |succ f=>
  refine⟨f,?_,by simp only[PS.next];omega,by simp only[PS.next];omega,hi2⟩;rw[←h.eq]
  conv=>rhs;unfold joinL
  rw[hi];rfl
end
theorem yj (m:Nat) (part:PC→PS→Cn×PS) (hpart:dL 192 m part) (hs:∀C s,Stp C s (part C s).2):
  dL 167 m (fun C s=>joinL C [38,38] 6 (part C) (C.tk.length+1) (part C s).1 (part C s).2):=by
 intro C L w s hP hm;have hM:=Lib.hid (Moved.refl hP);have hlt0:=hP.lt;have hlen:=hP.fit.len;show Calls _ _ _ _ (f_ C L (joinL C [38,38] 6 (part C) (C.tk.length+1) (part C s).1 (part C s).2) w);obtain⟨R,hR⟩:∃x,x=joinL C [38,38] 6 (part C) (C.tk.length+1) (part C s).1 (part C s).2:=⟨_,rfl⟩;rw[←hR];obtain⟨r,hr⟩:∃x,x=part C s:=⟨_,rfl⟩;have hd:=(hs C s).dp
 rw[←hr]at hd;have hR2:Hid (joinL C [38,38] 6 (part C) (C.tk.length+1) r.1 r.2=R):=Lib.hid (by subst hr;exact hR.symm)
 have hdm:m≤r.2.deep:=by omega
 replace hr:=Lib.hid hr;clear hP hR hd;go_enter Tryz.func167,Tryz.ntmps167;go_wp2_with fail;refine(hpart.from_ hM.out hm hr.out.symm).mono ?_;rintro e w1 ⟨p,rfl,h1,hE,-⟩;have hL1:Hid (ny C L [38,38] 6 (part C) m R (C.tk.length+1) r.1 r.2 p w w1):=Lib.hid ⟨hR2.out,by omega,hdm,h1,hE⟩;clear h1 hE hR2 hr hdm;go_wp2_with fail
 go_loopw [3] (fun av wr=>∃(f:Nat) (a:Cn) (t:PS) (p:Option Addr),av= .pointer p∧Hid (ny C L [38,38] 6 (part C) m R f a t p w wr)) (fun _ wr=>rG L wr)
 case atStart=>exact⟨_,_,_,p,rfl,hL1⟩
 clear hL1;obtain⟨f,a,t,q,rfl,hL⟩:=hrel
 cases hi:isF C [38,38] t with
 |false=>
  have hF:=Lib.hid (hL.out.stop hi);replace hi:=Lib.hid hi;go_wp2_with fail;refine(bg hL.out.mv [38,38] hi.out).mono ?_;rintro e v0 ⟨rfl,hV0,hW0⟩;have hT0:=Lib.hid (hL.out.tree.pw hW0 hlt0);clear hW0;replace hV0:=Lib.hid hV0;go_wp2_with fail;go_ret;rw[hF.out];exact f_.of hV0.out hT0.out
 |true=>
  have hlt:=dD hi;obtain⟨f',hE1,hE2,hE3,hE4⟩:=hL.out.go_ hi (hs C);obtain⟨r,hr⟩:∃x,x=part C t.next:=⟨_,rfl⟩;rw[←hr]at hE1 hE2 hE3 hE4;replace hr:=Lib.hid hr;replace hE1:=Lib.hid hE1;replace hi:=Lib.hid hi;go_wp2_with fail;refine(dH hL.out.mv [38,38] hi.out rfl).mono ?_;rintro e v0 ⟨rfl,hV0,hW0⟩;have hT0:=Lib.hid (hL.out.tree.pw hW0 hlt0);clear hW0
  replace hV0:=Lib.hid hV0;go_wp2_with fail;refine(hpart.from_ hV0.out (by have:=hL.out.dp;simpa[PS.next]using this) hr.out.symm).mono ?_;rintro e w2 ⟨p2,rfl,h2,hE,hW2⟩;have hTa:=hT0.out.pw hW2 hlt0
  have hL2:Hid (ny C L [38,38] 6 (part C) m R f' (.mk 6 .nil .nil a r.1 []) r.2 (some ⟨w2.heap.size,0,none⟩) w (w2.alloc (.cells #[.int .i64 6,.pointer none,.pointer none,.pointer q,.pointer p2,.string ⟨#[]⟩] 213))):=
   Lib.hid ⟨hE1.out,hE2,hE3,h2.below (aA _ _),bC.new 6 [] (by decide) (by simp) h2.wr.size rfl (aJ.nil_ _ _) (aJ.nil_ _ _) hTa hE⟩
  have hm1:=hL.out.mv.left;have hm2:=hL2.out.mv.left;have hb2:=hL2.out.mv.bounds.2.2.1;clear hTa h2 hE hW2 hE1;go_wp2_with fail;exact⟨⟨_,_,_,_,rfl,hL2⟩,by rw[hm1,hm2];omega⟩
theorem uQ (m:Nat) (part:PC→PS→Cn×PS) (hpart:dL 167 m part) (hs:∀C s,Stp C s (part C s).2):
  dL 131 m (fun C s=>joinL C [124,124] 7 (part C) (C.tk.length+1) (part C s).1 (part C s).2):=by
 intro C L w s hP hm;have hM:=Lib.hid (Moved.refl hP);have hlt0:=hP.lt;have hlen:=hP.fit.len;show Calls _ _ _ _ (f_ C L (joinL C [124,124] 7 (part C) (C.tk.length+1) (part C s).1 (part C s).2) w);obtain⟨R,hR⟩:∃x,x=joinL C [124,124] 7 (part C) (C.tk.length+1) (part C s).1 (part C s).2:=⟨_,rfl⟩;rw[←hR];obtain⟨r,hr⟩:∃x,x=part C s:=⟨_,rfl⟩;have hd:=(hs C s).dp
 rw[←hr]at hd;have hR2:Hid (joinL C [124,124] 7 (part C) (C.tk.length+1) r.1 r.2=R):=Lib.hid (by subst hr;exact hR.symm)
 have hdm:m≤r.2.deep:=by omega
 replace hr:=Lib.hid hr;clear hP hR hd;go_enter Tryz.func131,Tryz.ntmps131;go_wp2_with fail;refine(hpart.from_ hM.out hm hr.out.symm).mono ?_;rintro e w1 ⟨p,rfl,h1,hE,-⟩;have hL1:Hid (ny C L [124,124] 7 (part C) m R (C.tk.length+1) r.1 r.2 p w w1):=Lib.hid ⟨hR2.out,by omega,hdm,h1,hE⟩;clear h1 hE hR2 hr hdm;go_wp2_with fail
 go_loopw [3] (fun av wr=>∃(f:Nat) (a:Cn) (t:PS) (p:Option Addr),av= .pointer p∧Hid (ny C L [124,124] 7 (part C) m R f a t p w wr)) (fun _ wr=>rG L wr)
 case atStart=>exact⟨_,_,_,p,rfl,hL1⟩
 clear hL1;obtain⟨f,a,t,q,rfl,hL⟩:=hrel
 cases hi:isF C [124,124] t with
 |false=>
  have hF:=Lib.hid (hL.out.stop hi);replace hi:=Lib.hid hi;go_wp2_with fail;refine(bg hL.out.mv [124,124] hi.out).mono ?_;rintro e v0 ⟨rfl,hV0,hW0⟩;have hT0:=Lib.hid (hL.out.tree.pw hW0 hlt0);clear hW0;replace hV0:=Lib.hid hV0;go_wp2_with fail;go_ret;rw[hF.out];exact f_.of hV0.out hT0.out
 |true=>
  have hlt:=dD hi;obtain⟨f',hE1,hE2,hE3,hE4⟩:=hL.out.go_ hi (hs C);obtain⟨r,hr⟩:∃x,x=part C t.next:=⟨_,rfl⟩;rw[←hr]at hE1 hE2 hE3 hE4;replace hr:=Lib.hid hr;replace hE1:=Lib.hid hE1;replace hi:=Lib.hid hi;go_wp2_with fail;refine(dH hL.out.mv [124,124] hi.out rfl).mono ?_;rintro e v0 ⟨rfl,hV0,hW0⟩;have hT0:=Lib.hid (hL.out.tree.pw hW0 hlt0);clear hW0
  replace hV0:=Lib.hid hV0;go_wp2_with fail;refine(hpart.from_ hV0.out (by have:=hL.out.dp;simpa[PS.next]using this) hr.out.symm).mono ?_;rintro e w2 ⟨p2,rfl,h2,hE,hW2⟩;have hTa:=hT0.out.pw hW2 hlt0
  have hL2:Hid (ny C L [124,124] 7 (part C) m R f' (.mk 7 .nil .nil a r.1 []) r.2 (some ⟨w2.heap.size,0,none⟩) w (w2.alloc (.cells #[.int .i64 7,.pointer none,.pointer none,.pointer q,.pointer p2,.string ⟨#[]⟩] 213))):=
   Lib.hid ⟨hE1.out,hE2,hE3,h2.below (aA _ _),bC.new 7 [] (by decide) (by simp) h2.wr.size rfl (aJ.nil_ _ _) (aJ.nil_ _ _) hTa hE⟩
  have hm1:=hL.out.mv.left;have hm2:=hL2.out.mv.left;have hb2:=hL2.out.mv.bounds.2.2.1;clear hTa h2 hE hW2 hE1;go_wp2_with fail;exact⟨⟨_,_,_,_,rfl,hL2⟩,by rw[hm1,hm2];omega⟩
end Go.Proofs.YtpndglghpojjkaaGreat
namespace Go.Proofs.YtpndglghpojjkaaGreat
open Go.RowKit
def BX (ops:Array Oper) (V:Nat→(Nat→Bool)→World→Value→Prop) (L:Nat→Bool) (tmps:Array Value) (w:World):List Nat→Prop
 | []=>True
 |j::r=>(match (ops[j]?).bind (·.dst)with|some d=>V j L w (tmps.getD d undef)|none=>True)∧BX ops V L tmps w r
def reach (ops:Array Oper):Nat→Nat→Nat→Bool
 |0,_,_=>false
 |n+1,j,i=>match ops[j]? with
  |some oj=>(aP oj).any fun d=>d==i||reach ops n d i
  |none=>false
theorem nS {ops:Array Oper} {L:Nat→Bool} (hc:∀(k:Nat) ok,ops[k]? =some ok→L k=true→∀j∈aP ok,L j=true):∀n j i,reach ops n j i=true→L j=true→L i=true:=by
 intro n
 induction n with
 |zero=>intro j i h;cases h
 |succ n ih=>
  intro j i h hj;unfold reach at h
  cases ho:ops[j]? with
  |none=>rw[ho]at h;cases h
  |some oj=>
   rw[ho]at h;simp only[List.any_eq_true,Bool.or_eq_true,beq_iff_eq]at h;obtain⟨d,hd,h⟩:=h;have hLd:=hc j oj ho hj d hd;rcases h with rfl|h
   ·exact hLd
   ·exact ih d i h hLd
def oJ (ops:Array Oper) (R:List Reads):Bool:=
 (List.range ops.size).all fun i=>match ops[i]? with
  |none=>true
  |some o=>
   ((R.drop i).headD ⟨[],0,[]⟩).reads.all (fun p=>match p.2 with
    |some j=>(match ops[j]? with|some oj=>oj.dst==some p.1|none=>false)&&(aP o).contains j
    |none=>(List.range ops.size).all fun j=>match ops[j]? with|some oj=>oj.dst !=some p.1|| (aP oj).contains i|none=>true)&&
   (match o.guard with
    |none=>true
    |some (j,_)=>match ops[j]? with|some oj=>oj.dst==some ((R.drop i).headD ⟨[],0,[]⟩).guard|none=>false)&&
   ((R.drop i).headD ⟨[],0,[]⟩).next.all (fun j=>reach ops ops.size j i)
def wo (P:Program) (ops:Array Oper) (V:Nat→(Nat→Bool)→World→Value→Prop) (C:(Nat→Bool)→World→Prop) (G:Nat→World→World→Prop) (i:Nat) (o:Oper) (a:Act):Prop:=
 ∀w L,C L w→L i=false→(∀j∈aP o,L j=true)→(∀j,reach ops ops.size j i=true→L j=false)→BX ops V L a.tmps w (aP o)→
  if Region.wanted o (yielded ops a.tmps)then fH P (fun v w'=>C (fun k=>k==i||L k) w'∧G i w w'∧V i (fun k=>k==i||L k) w' v) ((execOp a.eval o).run P w)
  else V i (fun k=>k==i||L k) w undef∧C (fun k=>k==i||L k) w∧G i w w
section
variable {P:Program} {ops:Array Oper} {V:Nat→(Nat→Bool)→World→Value→Prop} {C:(Nat→Bool)→World→Prop} {G:Nat→World→World→Prop} {Q:Act→World→Prop}
structure G8 (ops:Array Oper) (V:Nat→(Nat→Bool)→World→Value→Prop) (C:(Nat→Bool)→World→Prop) (a0:Act) (listed:Array Bool) (a:Act) (w:World):Prop where
 cls:C (fun k=>listed.getD k true) w
 lsize:listed.size=ops.size
 size:a.tmps.size=a0.tmps.size
 defers:a.defers=a0.defers
 closed:∀(i:Nat) o,ops[i]? =some o→listed.getD i true=true→∀j∈aP o,listed.getD j true=true
 done:∀(i:Nat) o,ops[i]? =some o→listed.getD i true=true→∀d,o.dst=some d→V i (fun k=>listed.getD k true) w (a.tmps.getD d undef)
 rest:∀t,(∀(i:Nat) o,ops[i]? =some o→listed.getD i true=true→o.dst≠some t)→a.tmps.getD t undef=a0.tmps.getD t undef
theorem yA {a0:Act} {Q':Exit→Act→World→Prop} (hok:lI ops=true) (hN:∀(i:Nat) o d,ops[i]? =some o→o.dst=some d→d<a0.tmps.size)
  (hmono:∀(i j:Nat) oj,ops[j]? =some oj→i∉aP oj→i≠j→∀L w w' v,L i=false→C L w→C (fun k=>k==i||L k) w'→G i w w'→V j L w v→V j (fun k=>k==i||L k) w' v) (steps:∀x (i:Nat) o,ops[i]? =some o→wo P ops V C G i o (bW ops x a0 i))
  (hQ:∀x w,C (fun _=>true) w→(∀(k:Nat) o,ops[k]? =some o→o.dst.isSome=true→V k (fun _=>true) w (x k))→Q' .normal (bW ops x a0 ops.size) w):
  ∀(fuel:Nat) (listed:Array Bool) (a:Act) (w:World),iW ops.size listed=fuel→G8 ops V C a0 listed a w→wpAny P .any ops Q' fuel listed a w:=by
 have hend:∀(listed:Array Bool) (a:Act) (w:World),(∀i,i<ops.size→listed.getD i true=true)→G8 ops V C a0 listed a w→Q' .normal a w:=by
  intro listed a w hall hl;have hC:=hl.cls
  have hlt:(fun k=>listed.getD k true)=fun _=>true:=funext fun k=>by
   by_cases hk:k<ops.size
   ·exact hall k hk
   ·rw[Array.getD_eq_getD_getElem?,Array.getElem?_eq_none (by rw[hl.lsize];omega)];rfl
  rw[hlt]at hC
  have hq:=hQ (valsOf ops a) w hC fun k o hk hs=>by obtain⟨d,hd⟩:=Option.isSome_iff_exists.1 hs;have:=hl.done k _ hk (hall k (Array.getElem?_eq_some_iff.1 hk).1) d hd;rw[hlt]at this;unfold valsOf;rw[hk];simp only[Option.bind_some,hd];exact this
  have e:bW ops (valsOf ops a) a0 ops.size=a:=by
   have hsz:(bW ops (valsOf ops a) a0 ops.size).tmps.size=a.tmps.size:=by rw[dZ,hl.size]
   have hd:(bW ops (valsOf ops a) a0 ops.size).defers=a.defers:=by rw[jK,hl.defers]
   have ht:(bW ops (valsOf ops a) a0 ops.size).tmps=a.tmps:=by
    apply Array.ext_getElem?;intro t;apply iZ hsz;by_cases hw:∃j,j<ops.size∧(ops[j]?).bind (·.dst)=some t
    ·exact fU hl.size _ _ hw
    ·rw[dV _ _ _ _ (fun j hj hd=>hw ⟨j,hj,hd⟩)];exact(hl.rest t fun i o hi _ hd=>hw ⟨i,(Array.getElem?_eq_some_iff.1 hi).1,by rw[hi];exact hd⟩).symm
   cases h1:bW ops (valsOf ops a) a0 ops.size;cases a;simp only[h1]at hd ht;rw[hd,ht]
  rw[e]at hq;exact hq
 intro fuel
 induction fuel with
 |zero=>
  intro listed a w hu hl
  have hall:∀i,i<ops.size→listed.getD i true=true:=by intro i hi;have:=List.eq_nil_of_length_eq_zero hu;have h2:=List.filter_eq_nil_iff.1 this i (List.mem_range.2 hi);simpa using h2
  refine⟨?_,hend listed a w hall hl⟩;unfold Region.ready;rw[List.filter_eq_nil_iff];intro i hi;simp[hall i (List.mem_range.1 hi)]
 |succ fuel ih=>
  intro listed a w hu hl;refine⟨fun hr=>hend listed a w ?_ hl,fun i hi=> ?_⟩
  ·have hall:∀n,∀i,i<n→i<ops.size→listed.getD i true=true:=by
    intro n
    induction n with
    |zero=>intro i h;omega
    |succ n ihn=>
     intro i hin hio;by_cases hlt:i<n
     ·exact ihn i hlt hio
     ·obtain rfl:i=n:=by omega
      unfold Region.ready at hr;have h2:=List.filter_eq_nil_iff.1 hr i (List.mem_range.2 hio)
      cases hb:listed.getD i true with
      |true=>rfl
      |false=>
       exfalso;apply h2;have hoi:ops[i]? =some ops[i]:=Array.getElem?_eq_getElem hio;have fP:=(dW hok hoi).1;rw[hb,hoi];simp only[Bool.not_false,Bool.true_and,Option.map_some,Option.getD_some];rw[Array.all_eq_true_iff_forall_mem];intro e he
       cases hbn:Region.binds .any e with
       |false=>rfl
       |true=>
        have hm:e.on∈aP ops[i]:=List.mem_map.2 ⟨e,List.mem_filter.2 ⟨by simpa using he,hbn⟩,rfl⟩;have h3:=ihn e.on (fP _ hm) (by have:=fP _ hm;omega)
        have h4:e.on<listed.size:=by rw[hl.lsize];have:=fP _ hm;omega
        simp only[Array.getD_eq_getD_getElem?,Array.getElem?_eq_getElem h4]at h3⊢;simpa using h3
   exact fun i hi=>hall (i+1) i (by omega) hi
  ·unfold Region.ready at hi;obtain⟨hir,hcond⟩:=List.mem_filter.1 hi;have hio:=List.mem_range.1 hir;have hoi:ops[i]? =some ops[i]:=Array.getElem?_eq_getElem hio;generalize ops[i]=o at hoi;simp only[hoi,Option.map_some,Option.getD_some,Bool.and_eq_true,Bool.not_eq_true']at hcond;obtain⟨hun,hafter⟩:=hcond;obtain⟨rP,hsel,hshape⟩:=dW hok hoi
   have fP:∀j∈aP o,listed.getD j true=true:=by
    intro j hj;obtain⟨e,he,rfl⟩:=List.mem_map.1 hj;obtain⟨he1,he2⟩:=List.mem_filter.1 he;have h3:=(Array.all_eq_true_iff_forall_mem.1 hafter) e (by simpa using he1);rw[he2]at h3;simp only[Bool.not_true,Bool.false_or]at h3
    have h4:e.on<listed.size:=by rw[hl.lsize];have:=rP _ hj;omega
    simp only[Array.getD_eq_getD_getElem?,Array.getElem?_eq_getElem h4]at h3⊢;simpa using h3
   have hnext:∀j,reach ops ops.size j i=true→listed.getD j true=false:=by
    intro j hj
    cases hb:listed.getD j true with
    |false=>rfl
    |true=>
     have:listed.getD i true=true:=nS (L:=fun k=>listed.getD k true) hl.closed _ _ _ hj hb;rw[hun]at this;cases this
   let x:=valsOf ops a
   have hlook:∀t∈o.looksAt ops,(bW ops x a0 i).tmps.getD t undef=a.tmps.getD t undef:=by
    intro t ht;by_cases hw:∃j,j<i∧(ops[j]?).bind (·.dst)=some t
    ·exact fU hl.size _ _ hw
    ·rw[dV _ _ _ _ (fun j hj hd=>hw ⟨j,hj,hd⟩)];refine(hl.rest t fun k ok hk hlk hdk=> ?_).symm;rcases(hshape k ok t hk hdk).2 ht with h1|h1
     ·exact hw ⟨k,rP k h1,by rw[hk];exact hdk⟩
     ·have:=hl.closed k ok hk hlk i h1;rw[hun]at this;cases this
   have DY:(bW ops x a0 i).tmps.size=a.tmps.size:=by rw[dZ,hl.size]
   have hex:execOp (bW ops x a0 i).eval o=execOp a.eval o:=execOp_congr o hsel fun y hy=>by
    cases y with
    |tmp t=>
     have:t∈o.looksAt ops:=List.mem_append_left _ (List.mem_filterMap.2 ⟨.tmp t,by simpa using hy,rfl⟩);have h5:=hlook t this;simpa[Act.eval]using h5
    |_=>rfl
   have hwt:=oH (ops:=ops) (o:=o) DY hlook
   have xO:∀l:List Nat,(∀j∈l,j∈aP o)→BX ops V (fun k=>listed.getD k true) (bW ops x a0 i).tmps w l:=by
    intro l
    induction l with
    |nil=>intro _;trivial
    |cons j l ihl=>
     intro hj;refine⟨?_,ihl fun k hk=>hj k (List.mem_cons_of_mem _ hk)⟩;have hjd:=hj j (List.mem_cons_self ..);have hji:=rP j hjd;have hoj:ops[j]? =some ops[j]:=Array.getElem?_eq_getElem (by omega);have hd:=hl.done j _ hoj (fP j hjd)
     cases hdst:(ops[j]?).bind (·.dst)with
     |none=>trivial
     |some d=>
      show V j (fun k=>listed.getD k true) w _;rw[hoj]at hdst;simp only[Option.bind_some]at hdst;rw[fU hl.size i d ⟨j,hji,by rw[hoj];exact hdst⟩];exact hd d hdst
   have hst:=steps x i o hoi w (fun k=>listed.getD k true) hl.cls hun fP hnext (xO _ fun _ h=>h);rw[hwt,hex]at hst
   have hset:∀k,(listed.setIfInBounds i true).getD k true=(k==i||listed.getD k true):=by
    intro k;simp only[Array.getD_eq_getD_getElem?,Array.getElem?_setIfInBounds];by_cases e:i=k
    ·subst e;simp[hl.lsize,hio]
    ·rw[if_neg e];simp[Ne.symm e]
   have go:∀v w',C (fun k=>k==i||listed.getD k true) w'→(∀(k:Nat) ok,ops[k]? =some ok→i∉aP ok→i≠k→∀u,V k (fun k=>listed.getD k true) w u→V k (fun k=>k==i||listed.getD k true) w' u)→V i (fun k=>k==i||listed.getD k true) w' v→wpAny P .any ops Q' fuel (listed.setIfInBounds i true) (a.put o.dst v) w':=by
    intro v w' hC hm hV;apply ih
    ·have:=kQ hl.lsize hio hun;omega
    ·refine⟨?_,by simp[hl.lsize],by rw[nU];exact hl.size,by rw[put_defers];exact hl.defers,?_,?_,?_⟩
     ·rw[show(fun k=>(listed.setIfInBounds i true).getD k true)=fun k=>k==i||listed.getD k true from funext hset];exact hC
     ·intro k ok hk hlk j hj;rw[hset]at hlk⊢;by_cases e:k=i
      ·subst e;rw[hoi]at hk;cases hk;rw[fP j hj];simp
      ·have:listed.getD k true=true:=by simpa[e]using hlk
       rw[hl.closed k ok hk this j hj];simp
     ·intro k ok hk hlk d hdst;rw[show(fun k=>(listed.setIfInBounds i true).getD k true)=fun k=>k==i||listed.getD k true from funext hset];rw[hset]at hlk;by_cases e:k=i
      ·subst e;rw[hoi]at hk;cases hk;rw[hdst,fJ,if_pos ⟨rfl,by rw[hl.size];exact hN k o d hoi hdst⟩];exact hV
      ·have xE:listed.getD k true=true:=by simpa[e]using hlk
       have hnd:i∉aP ok:=fun h=>by have:=hl.closed k ok hk xE i h;rw[hun]at this;cases this
       have:=hm k ok hk hnd (Ne.symm e) _ (hl.done k ok hk xE d hdst);have hne:=(hshape k ok d hk hdst).1 (Ne.symm e)
       cases hd2:o.dst with
       |none=>exact this
       |some d2=>
        rw[fJ,if_neg]
        ·exact this
        ·rintro⟨rfl,_⟩;exact hne hd2
     ·intro t ht;have h1:=hl.rest t fun k ok hk hlk=>ht k ok hk (by rw[hset,hlk];simp);have h2:=ht i o hoi (by rw[hset];simp);rw[←h1]
      cases hd2:o.dst with
      |none=>rfl
      |some d2=>
       rw[fJ,if_neg];rintro⟨rfl,_⟩;exact h2 hd2
   unfold wpOp;simp only[hoi];split at hst
   ·rename_i hw;rw[if_pos hw];left;unfold Oper.wp;generalize (execOp a.eval o).run P w=r at hst
    cases r with
    |halt h w'=>exact hst.elim
    |ok n w'=>
     cases n with
     |value v=>exact go v w' hst.1 (fun k ok hk hnd hne u=>hmono i k ok hk hnd hne _ w w' u hun hl.cls hst.1 hst.2.1) hst.2.2
     |skip=>exact go undef w' hst.1 (fun k ok hk hnd hne u=>hmono i k ok hk hnd hne _ w w' u hun hl.cls hst.1 hst.2.1) hst.2.2
     |enter f args=>
      refine Calls.mono (show Calls P f args w' _ from hst) ?_;rintro e w'' ⟨v,rfl,h1,h2,h3⟩;exact go v w'' h1 (fun k ok hk hnd hne u=>hmono i k ok hk hnd hne _ w w'' u hun hl.cls h1 h2) h3
     |_=>exact(show False from hst).elim
   ·rename_i hw;rw[if_neg hw];exact go undef w hst.2.1 (fun k ok hk hnd hne u=>hmono i k ok hk hnd hne _ w w u hun hl.cls hst.2.1 hst.2.2) hst.1
theorem BX.get {L:Nat→Bool} {tmps:Array Value} {w:World} {l:List Nat} (h:BX ops V L tmps w l) {j:Nat} (hj:l.contains j=true) {d:Tmp} (hd:(ops[j]?).bind (·.dst)=some d):V j L w (tmps.getD d undef):=by
 induction l with
 |nil=>cases hj
 |cons k l ih=>
  by_cases e:j=k
  ·subst e;have:=h.1;rw[hd]at this;exact this
  ·refine ih h.2 ?_;rw[List.contains_cons]at hj;simpa[e]using hj
def qj (V:Nat→(Nat→Bool)→World→Value→Prop) (a0:Act) (L:Nat→Bool) (w:World) (f:Tmp→Value):List (Tmp×Option Nat)→Prop
 | []=>True
 | (t,some j)::r=>V j L w (f t)∧qj V a0 L w f r
 | (t,none)::r=>f t=a0.tmps.getD t undef∧qj V a0 L w f r
def aI (P:Program) (V:Nat→(Nat→Bool)→World→Value→Prop) (C:(Nat→Bool)→World→Prop) (G:Nat→World→World→Prop) (a0:Act) (i:Nat) (o:Oper) (r:Reads):Prop:=
 ∀w L (f:Tmp→Value),C L w→L i=false→(∀j∈aP o,L j=true)→(∀j∈r.next,L j=false)→qj V a0 L w f r.reads→
  if ak o (f r.guard)=true then fH P (fun v w'=>C (fun k=>k==i||L k) w'∧G i w w'∧V i (fun k=>k==i||L k) w' v) ((execOp (nI f) o).run P w)
  else V i (fun k=>k==i||L k) w undef∧C (fun k=>k==i||L k) w∧G i w w
def kJ (P:Program) (V:Nat→(Nat→Bool)→World→Value→Prop) (C:(Nat→Bool)→World→Prop) (G:Nat→World→World→Prop) (a0:Act):Nat→List Oper→List Reads→Prop
 |_,[],_=>True
 |i,o::l,rs=>aI P V C G a0 i o (rs.headD ⟨[],0,[]⟩)∧kJ P V C G a0 (i+1) l rs.tail
theorem kJ.get {a0:Act} (l:List Oper):∀(R:List Reads) (i k:Nat) (o:Oper),kJ P V C G a0 i l R→l[k]? =some o→aI P V C G a0 (i+k) o ((R.drop k).headD ⟨[],0,[]⟩):=by
 induction l with
 |nil=>intro R i k o _ hk;simp at hk
 |cons o' l ih=>
  intro R i k o h hk
  cases k with
  |zero=>
   simp at hk;subst hk;exact h.1
  |succ k=>
   have h2:=ih R.tail (i+1) k o h.2 (by simpa using hk);rw[List.drop_tail,Nat.add_assoc,Nat.add_comm 1 k]at h2;exact h2
theorem qj.of {L:Nat→Bool} {a0 a:Act} {w:World} {o:Oper} {i:Nat} (hD:BX ops V L a.tmps w (aP o)) (ha:∀t:Tmp,(∀(j:Nat) (oj:Oper),ops[j]? =some oj→oj.dst=some t→i∈aP oj)→a.tmps.getD t undef=a0.tmps.getD t undef):
  ∀l:List (Tmp×Option Nat),(l.all fun p=>match p.2 with
    |some j=>(match ops[j]? with|some oj=>oj.dst==some p.1|none=>false)&&(aP o).contains j
    |none=>(List.range ops.size).all fun j=>match ops[j]? with|some oj=>oj.dst !=some p.1|| (aP oj).contains i|none=>true)=true→qj V a0 L w (fun t=>a.tmps.getD t undef) l:=by
 intro l
 induction l with
 |nil=>intro _;trivial
 |cons p l ih=>
  intro h;rw[List.all_cons,Bool.and_eq_true]at h;obtain⟨t,s⟩:=p
  cases s with
  |some j=>
   simp only[Bool.and_eq_true]at h;refine⟨?_,ih h.2⟩
   cases hj:ops[j]? with
   |none=>rw[hj]at h;exact absurd h.1.1 (by simp)
   |some oj=>
    rw[hj]at h;exact hD.get h.1.2 (by rw[hj];simpa using h.1.1)
  |none=>
   refine⟨ha t fun j oj hj hd=> ?_,ih h.2⟩;have h3:=List.all_eq_true.1 h.1 j (List.mem_range.2 (Array.getElem?_eq_some_iff.1 hj).1);simp only[hj,hd,bne_self_eq_false,Bool.false_or]at h3;exact List.contains_iff_mem.1 h3
theorem wo.of {a0:Act} {R:List Reads} (hok:lI ops=true) (htab:oJ ops R=true) (hall:kJ P V C G a0 0 ops.toList R) (x:Nat→Value) (i:Nat) (o:Oper) (hi:ops[i]? =some o):
  wo P ops V C G i o (bW ops x a0 i):=by
 intro w L hC hL hd hn hD;have hilt:=(Array.getElem?_eq_some_iff.1 hi).1;have ht:=List.all_eq_true.1 htab i (List.mem_range.2 hilt);simp only[hi,Bool.and_eq_true]at ht;have h2:=kJ.get ops.toList R 0 i o hall (by simpa using hi);rw[Nat.zero_add]at h2;generalize (R.drop i).headD ⟨[],0,[]⟩=r at ht h2;have hnx:∀j∈r.next,L j=false:=fun j hj=>hn j (List.all_eq_true.1 ht.2 j hj)
 have hf:=qj.of (a0:=a0) (a:=bW ops x a0 i) hD (fun t h=>dV x a0 i t fun j hj hjd=>by
  cases hoj:ops[j]? with
  |none=>rw[hoj]at hjd;cases hjd
  |some oj=>
   rw[hoj]at hjd;have:=(dW hok hoj).1 i (h j oj hoj hjd)
   omega) r.reads ht.1.1
 have h3:=h2 w L (fun t=>(bW ops x a0 i).tmps.getD t undef) hC hL hd hnx hf;rw[lS]at h3
 have hw:Region.wanted o (yielded ops (bW ops x a0 i).tmps)=ak o ((bW ops x a0 i).tmps.getD r.guard undef):=by
  unfold Region.wanted ak
  cases hg:o.guard with
  |none=>rfl
  |some g=>
   obtain⟨j,want⟩:=g;have h4:=ht.1.2;rw[hg]at h4;simp only at h4⊢
   cases hoj:ops[j]? with
   |none=>rw[hoj]at h4;exact absurd h4 (by simp)
   |some oj=>
    rw[hoj]at h4
    have hdst:oj.dst=some r.guard:=by simpa using h4
    unfold yielded;simp only[hoj,Option.bind_some,hdst];rw[Array.getD_eq_getD_getElem?]
    cases (bW ops x a0 i).tmps[r.guard]? with
    |none=>rfl
    |some v=>cases v<;>rfl
 rw[hw];exact h3
def kN (C:(Nat→Bool)→World→Prop) (G:Nat→World→World→Prop):Nat→List ((Nat→Bool)→World→Value→Prop)→List Reads→Prop
 |_,[],_=>True
 |j,f::r,rs=>(∀i,i≠j→((rs.headD ⟨[],0,[]⟩).reads.all fun p=>p.2 !=some i)=true→∀L w w' v,L i=false→C L w→C (fun k=>k==i||L k) w'→G i w w'→f L w v→f (fun k=>k==i||L k) w' v)∧kN C G (j+1) r rs.tail
theorem kN.get:∀(l:List ((Nat→Bool)→World→Value→Prop)) (R:List Reads) (n:Nat),kN C G n l R→∀i j,i≠n+j→(((R.drop j).headD ⟨[],0,[]⟩).reads.all fun p=>p.2 !=some i)=true→∀L w w' v,L i=false→C L w→C (fun k=>k==i||L k) w'→G i w w'→(l.getD j fun _ _ _=>True) L w v→(l.getD j fun _ _ _=>True) (fun k=>k==i||L k) w' v
 | [],_,_,_,_,_,_,_=>by intro L w w' v _ _ _ _ _;exact trivial
 |f::r,R,n,h,i,0,hne,hr=>h.1 i hne hr
 |f::r,R,n,h,i,j+1,hne,hr=>kN.get r R.tail (n+1) h.2 i j (by omega) (by rw[List.drop_tail];exact hr)
theorem wX {R:List Reads} (htab:oJ ops R=true) {j:Nat} {oj:Oper} (hj:ops[j]? =some oj) {i:Nat} (hi:i∉aP oj):(((R.drop j).headD ⟨[],0,[]⟩).reads.all fun p=>p.2 !=some i)=true:=by
 have ht:=List.all_eq_true.1 htab j (List.mem_range.2 (Array.getElem?_eq_some_iff.1 hj).1);simp only[hj,Bool.and_eq_true]at ht;rw[List.all_eq_true];intro p hp;have h1:=List.all_eq_true.1 ht.1.1 p hp;obtain⟨t,s⟩:=p
 cases s with
 |none=>rfl
 |some k=>
  simp only[Bool.and_eq_true]at h1;have h2:=List.contains_iff_mem.1 h1.2;simp only[bne_iff_ne,ne_eq,Option.some.injEq];rintro rfl;exact hi h2
theorem aC {id:Nat} {a0:Act} {w:World} {Q':Exit→Act→World→Prop} (Vs:List ((Nat→Bool)→World→Value→Prop)) (R:List Reads) (D:List (Option Nat)) (C:(Nat→Bool)→World→Prop) (G:Nat→World→World→Prop)
  (hm:P.follows .mixedOrders=true) (hok:lI ops=true) (htab:oJ ops R=true) (hfr:oq ops D a0.tmps.size=true) (hN:Ec ops a0.tmps.size=true) (hmono:kN C G 0 Vs R)
  (h0:C (fun k=> !decide (k<ops.size)) {w with drawn:=w.drawn+1})
  (each:kJ P (fun i=>Vs.getD i fun _ _ _=>True) C G a0 0 ops.toList R)
  (fin:∀(x:Nat→Value) w',C (fun _=>true) w'→(∀k o,ops[k]? =some o→o.dst.isSome=true→(Vs.getD k fun _ _ _=>True) (fun _=>true) w' (x k))→Q' .normal ⟨(framed x D a0.tmps.toList).toArray,a0.defers⟩ w'):
  (Code.region id ops true).wp P Q' a0 w:=by
 refine wp_region_any hm (yA (V:=fun i=>Vs.getD i fun _ _ _=>True) (C:=C) (G:=G) (a0:=a0) hok ?_ (fun i j oj hj hi hne=>kN.get Vs R 0 hmono i j (by omega) (wX htab hj hi)) (fun x i o hi=>wo.of hok htab each x i o hi) ?_ ops.size _ a0 _ ?_ ?_)
 ·intro i o d hi hd;have:=List.all_eq_true.1 hN o (by simpa using Array.mem_of_getElem? hi);rw[hd]at this;simpa using this
 ·intro x w hC hV;rw[lH hok hfr];exact fin x w hC hV
 ·unfold iW;rw[List.filter_eq_self.2]
  ·simp
  ·intro i hi;have:=List.mem_range.1 hi;simp[this]
 ·refine⟨?_,by simp,rfl,rfl,?_,?_,fun _ _=>rfl⟩
  ·rw[show(fun k=>(Array.replicate ops.size false).getD k true)=fun k=> !decide (k<ops.size)from funext fun k=>by
    rw[Array.getD_eq_getD_getElem?,Array.getElem?_replicate]
    by_cases h:k<ops.size<;>simp[h]]
   exact h0
  ·intro i o hi hl;have:=(Array.getElem?_eq_some_iff.1 hi).1;simp[this]at hl
  ·intro i o hi hl;have:=(Array.getElem?_eq_some_iff.1 hi).1;simp[this]at hl
theorem aI.dead {b:Bool} {X A B D:Prop} (hb:b=false) (h1:B) (h2:A) (h3:D):if b=true then X else A∧B∧D:=by subst hb;exact⟨h2,h1,h3⟩
def Till (n:Nat) (R:World→Value→Prop) (L:Nat→Bool) (w:World) (v:Value):Prop:=L n=false→R w v
theorem Till.keep {n i:Nat} {R:World→Value→Prop} {L:Nat→Bool} {w w':World} {v:Value} (h:Till n R L w v) (hk:i≠n→R w v→R w' v):Till n R (fun k=>k==i||L k) w' v:=fun hn=>by
 simp only[Bool.or_eq_false_iff,beq_eq_false_iff_ne]at hn;exact hk (fun e=>hn.1 e.symm) (h hn.2)
end
end Go.Proofs.YtpndglghpojjkaaGreat
