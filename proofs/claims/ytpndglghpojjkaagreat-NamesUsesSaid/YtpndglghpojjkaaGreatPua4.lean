/-
  8 texts of the proof, in one file: no condition.
-/
import Derived.Laws.ResultCell
import Derived.Laws.Rows
import Derived.Laws.NewBlocks
import Derived.Maps.OwnSet
import Derived.Maps.RangeWalk
import Derived.StringKeys
import Derived.Shelf.Abstract
import Derived.Test.YtpndglghpojjkaaGreatPua3
set_option maxRecDepth 1000000
set_option maxHeartbeats 8000000
namespace Go.Proofs.YtpndglghpojjkaaGreat
open Go.RowKit Go.Deep
def Hd.cells (h:Hd) (ve vf vc va vt vl:Value):Array Value:= #[.int .i64 h.k,.string (ay h.x),.string (ay h.y),ve,vf,vc,va,vt,vl,.int .i64 h.at_]
structure dn (w:World) (S:Nat→Prop) (h:Hd) (ve vf vc va:Value):Prop where
 e:aJ w S h.e ve
 f:aJ w S h.f vf
 c:bC w S h.c vc
 a:aZ w S h.args va
 x:h.x.length≤4096
 y:h.y.length≤4096
 k:h.k≤12
 at_:h.at_≤201
theorem dn.keep {w w':World} {S:Nat→Prop} {h:Hd} {ve vf vc va:Value} (hk:∀x,x<w.heap.size→S x→w'.heap[x]? =w.heap[x]?) (H:dn w S h ve vf vc va):dn w' S h ve vf vc va:=
 ⟨H.e.keep hk,H.f.keep hk,H.c.keep hk,H.a.keep hk,H.x,H.y,H.k,H.at_⟩
theorem dn.mono {w:World} {S S':Nat→Prop} {h:Hd} {ve vf vc va:Value} (hk:∀x,x<w.heap.size→S x→S' x) (H:dn w S h ve vf vc va):dn w S' h ve vf vc va:=
 ⟨H.e.mono hk,H.f.mono hk,H.c.mono hk,H.a.mono hk,H.x,H.y,H.k,H.at_⟩
structure VS (C:PC) (Z:PL) (gs:Nat) (s:PS) (cs:Array Value) (w0 w:World):Prop where
 at_:PAt C Z s w
 wr:Writes [some Z.g,some gs] w0 w
 hold:Holds w gs 63 cs
 lt:Z.g<gs
 low:gs<w0.heap.size
section
variable {C:PC} {Z:PL} {gs:Nat} {s s2:PS} {cs:Array Value} {w0 w w':World}
theorem VS.mv (h:VS C Z gs s cs w0 w):Moved C Z s w w:=Moved.refl h.at_
theorem VS.call (h:VS C Z gs s cs w0 w) (hm:Moved C Z s2 w w'):VS C Z gs s2 cs w0 w':=
 ⟨hm.at_,h.wr.trans (hm.wr.more (by simp)),hm.wr.holds h.hold (by have:=h.lt;simp;omega),h.lt,h.low⟩
theorem VS.store (h:VS C Z gs s cs w0 w) (i:Nat) (v:Value):VS C Z gs s (cs.setIfInBounds i v) w0 (w.setCell ⟨gs,i,none⟩ v):=
 ⟨h.at_.writes (Writes.store w (M:= [some gs]) (by simp) v) (fun k hk=>by simp at hk;subst hk;exact h.lt),h.wr.trans (Writes.store w (by simp) v),h.hold.store i v,h.lt,h.low⟩
theorem VS.facts (h:VS C Z gs s cs w0 w):gs<w.heap.size∧(∀i,w.frozen? ⟨gs,i,none⟩=false):=⟨h.hold.lt,fun i=>h.hold.frozen i⟩
theorem VS.fact (h:VS C Z gs s cs w0 w) (i:Nat) {v:Value} (hv:cs[i]? =some v):w.cell? ⟨gs,i,none⟩=some v:=by rw[h.hold.cell];exact hv
theorem aJ.st {B:Nat} {e:Ex} {v:Value} (h:aJ w (Ge B) e v) (hg:gs<B) (i:Nat) (u:Value):aJ (w.setCell ⟨gs,i,none⟩ u) (Ge B) e v:=h.pw (Writes.store w (by simp) u) hg
theorem aZ.st {B:Nat} {l:List Ag} {v:Value} (h:aZ w (Ge B) l v) (hg:gs<B) (i:Nat) (u:Value):aZ (w.setCell ⟨gs,i,none⟩ u) (Ge B) l v:=h.pw (Writes.store w (by simp) u) hg
theorem bC.st {B:Nat} {l:Cn} {v:Value} (h:bC w (Ge B) l v) (hg:gs<B) (i:Nat) (u:Value):bC (w.setCell ⟨gs,i,none⟩ u) (Ge B) l v:=h.pw (Writes.store w (by simp) u) hg
end
def Fg (C:PC) (Z:PL) (gs:Nat) (r:Hd×PS) (w:World) (e:Ending) (w':World):Prop:=
 e= .returned (.tuple #[])∧∃ve vf vc va,VS C Z gs r.2 (r.1.cells ve vf vc va (.slice none 0 0) (.slice none 0 0)) w w'∧dn w' (Ge w.heap.size) r.1 ve vf vc va
def hdx (n:Nat) (x:List UInt8):Hd:={hd0 n with x:=x}
theorem yD (m:Nat) (sum:PC→PS→Ex×PS) (hsum:dG 130 m sum) (hs:∀C s,Stp C s (sum C s).2) (C:PC) (Z:PL) (w:World) (s:PS) (gs n:Nat) (x:List UInt8)
  (hV:VS C Z gs s ((hdx n x).cells (.pointer none) (.pointer none) (.pointer none) (.slice none 0 0) (.slice none 0 0) (.slice none 0 0)) w w) (hm:m≤s.deep) (hx:x.length≤4096) (hn:n≤201):
  Calls Tryz.prog 134 #[.pointer (some ⟨Z.g,0,none⟩),.pointer (some ⟨gs,0,none⟩)] w (Fg C Z gs (iI C (sum C) (hdx n x) s) w):=by
 obtain⟨b1,b2,b3,b4,b5,b6,b7⟩:=hV.at_.bounds;obtain⟨R,hR⟩:∃y,y=iI C (sum C) (hdx n x) s:=⟨_,rfl⟩;rw[←hR];have hlt0:=hV.at_.lt;have hlow:=hV.low;have hVV:=Za hV;have hM:=Za hV.mv;clear hV
 cases h1:isF C [110,117,108,108] s with
 |true=>
  have hF:Hid (R=({hdx n x with k:=3},s.next)):=Za (by rw[hR];unfold iI;rw[h1];rfl);replace h1:=Za h1;clear hR;go_enter Tryz.func134,Tryz.ntmps134;go_wp2_with fail;refine(dH hVV.out.mv [110,117,108,108] h1.out rfl).mono ?_;rintro e w1 ⟨rfl,h1,-⟩;have hV1:=hVV.out.call h1;obtain⟨f1,fz⟩:=hV1.facts;have f0:=hV1.fact 0 rfl;replace hV1:=Za hV1;clear h1;go_wp2_with fail;go_end0;rw[hF.out];exact⟨rfl,_,_,_,_,hV1.out.store 0 _,aJ.nil_ _ _,aJ.nil_ _ _,bC.nil_ _ _,aZ.nil_ _ _,hx,by simp[hdx,hd0],by simp,hn⟩
 |false=>
  cases h2:isF C [38] s with
  |true=>
   obtain⟨y,hy⟩:∃y,y=(aK C s.next).1:=⟨_,rfl⟩;obtain⟨s2,hs2⟩:∃y,y=(aK C s.next).2:=⟨_,rfl⟩;have hnf:Hid (aK C s.next=(y,s2)):=Za (by rw[hy,hs2]);have hF:Hid (R=({hdx n x with k:=1,y:=y},s2)):=Za (by rw[hR,hy,hs2];unfold iI;simp only[h1,h2];rfl);replace h1:=Za h1;replace h2:=Za h2;clear hR hy hs2;go_enter Tryz.func134,Tryz.ntmps134;go_wp2_with fail;refine(bg hM.out [110,117,108,108] h1.out).mono ?_;rintro e v0 ⟨rfl,g0,-⟩;replace g0:=Za g0;go_wp2_with fail;refine(dH g0.out [38] h2.out rfl).mono ?_;rintro e w1 ⟨rfl,q1,-⟩;replace q1:=Za q1;go_wp2_with fail;refine(dR q1.out hnf.out).mono ?_;rintro e w2 ⟨rfl,q2,hyl,-⟩;have hV2:=hVV.out.call q2;obtain⟨f1,fz⟩:=hV2.facts;have f0:=hV2.fact 0 rfl;have f2:=hV2.fact 2 rfl;replace hV2:=Za hV2;clear q2 q1;go_wp2_with fail;go_end0;rw[hF.out];exact⟨rfl,_,_,_,_,(hV2.out.store 0 _).store 2 _,aJ.nil_ _ _,aJ.nil_ _ _,bC.nil_ _ _,aZ.nil_ _ _,hx,hyl,by simp,hn⟩
  |false=>
   cases h3:isF C [42] s with
   |true=>
    obtain⟨y,hy⟩:∃y,y=(aK C s.next).1:=⟨_,rfl⟩;obtain⟨s2,hs2⟩:∃y,y=(aK C s.next).2:=⟨_,rfl⟩;have hnf:Hid (aK C s.next=(y,s2)):=Za (by rw[hy,hs2]);have hF:Hid (R=({hdx n x with k:=4,y:=y},s2)):=Za (by rw[hR,hy,hs2];unfold iI;simp only[h1,h2,h3];rfl);replace h1:=Za h1;replace h2:=Za h2;replace h3:=Za h3;clear hR hy hs2;go_enter Tryz.func134,Tryz.ntmps134;go_wp2_with fail;refine(bg hM.out [110,117,108,108] h1.out).mono ?_;rintro e v0 ⟨rfl,g0,-⟩;replace g0:=Za g0;go_wp2_with fail;refine(bg g0.out [38] h2.out).mono ?_;rintro e v1 ⟨rfl,g1,-⟩;replace g1:=Za g1;go_wp2_with fail;refine(dH g1.out [42] h3.out rfl).mono ?_;rintro e w1 ⟨rfl,q1,-⟩;replace q1:=Za q1;go_wp2_with fail;refine(dR q1.out hnf.out).mono ?_;rintro e w2 ⟨rfl,q2,hyl,-⟩;have hV2:=hVV.out.call q2;obtain⟨f1,fz⟩:=hV2.facts;have f0:=hV2.fact 0 rfl;have f2:=hV2.fact 2 rfl;replace hV2:=Za hV2;clear q2 q1;go_wp2_with fail;go_end0;rw[hF.out];exact⟨rfl,_,_,_,_,(hV2.out.store 0 _).store 2 _,aJ.nil_ _ _,aJ.nil_ _ _,bC.nil_ _ _,aZ.nil_ _ _,hx,hyl,by simp,hn⟩
   |false=>
    obtain⟨na,hna⟩:∃y,y=(cu C s&&(decide (s.i+1<C.tk.length)&&fB C (s.i+1)== [91])):=⟨_,rfl⟩;obtain⟨nb,hnb⟩:∃y,y=(cu C s&&(decide (s.i+1<C.tk.length)&&fB C (s.i+1)== [40])):=⟨_,rfl⟩;have hF:Hid (R=if na then({hdx n x with k:=6,y:=(aK C s).1,e:=(sum C (aK C s).2.next).1},aY C [93] (sum C (aK C s).2.next).2)else if nb then({hdx n x with k:=8,y:=(aK C s).1,args:=(jg C (sum C) (aK C s).2.next).1},(jg C (sum C) (aK C s).2.next).2)else({hdx n x with k:=0,e:=(sum C s).1},(sum C s).2)):=Za (by rw[hR,hna,hnb];unfold iI;simp only[h1,h2,h3];rfl);replace h1:=Za h1;replace h2:=Za h2;replace h3:=Za h3;replace hna:=Za hna;replace hnb:=Za hnb;clear hR;go_enter Tryz.func134,Tryz.ntmps134;go_wp2_with fail;refine(bg hM.out [110,117,108,108] h1.out).mono ?_;rintro e v0 ⟨rfl,g0,-⟩;replace g0:=Za g0;go_wp2_with fail;refine(bg g0.out [38] h2.out).mono ?_;rintro e v1 ⟨rfl,g1,-⟩;replace g1:=Za g1;go_wp2_with fail;refine(bg g1.out [42] h3.out).mono ?_;rintro e v2 ⟨rfl,g2,-⟩;replace g2:=Za g2
    go_upto_region 7 with(fail);go_cut [40] (fun bv wc=>bv= .bool na∧Hid (Moved C Z s w wc))
    case first=>
     have hgo:=g2;have hw2:=dh (i:=s.i) (by omega)
     have p1:(0:Int)≤(s.i:Int)+1:=by omega
     have p3:((s.i:Int)+1).toNat=s.i+1:=by omega
     cases hn:cu C s with
     |false=>
      have hN2:Hid (na=false):=Za (by rw[hna.out,hn];rfl);replace hn:=Za hn;refine aC ((eqv (.pointer (some ⟨Z.g,0,none⟩)))::(eqv (.bool false))::(eqv (.bool false))::eud::eud::eud::eud::eud::eud::eud::eud::eud::eud::eud::(eqv (.bool false))::(eqv (.bool false))::eud::eud::eud::eud::eud::eud::eud::eud::eud::eud::eud::eud::eud::(eqv (.bool false))::(eqv (.bool false))::[])
       ((rn1 0)::(rd1 41 0)::(rd1 42 1)::(rq1 0 43 2)::(rg1 44 3 43 2)::(rg1 45 4 43 2)::(rg1 46 5 43 2)::(rg1 47 6 43 2)::(rq1 0 43 2)::(rg1 49 8 43 2)::(rg1 50 9 43 2)::(rg1 51 10 43 2)::(rg1 52 11 43 2)::⟨[(48,some 7),(53,some 12),(43,some 2)],43,[]⟩::⟨[(43,some 2),(54,some 13)],0,[]⟩::(rd1 55 14)::(rq1 0 56 15)::(rg1 57 16 56 15)::(rg1 58 17 56 15)::(rg1 59 18 56 15)::(rq1 0 56 15)::(rg1 61 20 56 15)::(rg1 62 21 56 15)::(rg1 63 22 56 15)::(rg1 64 23 56 15)::⟨[(60,some 19),(65,some 24),(56,some 15)],56,[]⟩::(rg1 66 25 56 15)::(rg1 67 26 56 15)::(rg1 68 27 56 15)::⟨[(56,some 15),(69,some 28)],0,[]⟩::(rd1 70 29)::[])
       (no::no::no::no::no::no::no::no::no::no::no::no::no::no::no::no::no::no::no::no::no::no::no::no::no::no::no::no::no::no::no::no::no::no::no::no::no::no::no::no::so 30::so 0::so 1::so 2::so 3::so 4::so 5::so 6::so 7::so 8::so 9::so 10::so 11::so 12::so 13::so 14::so 15::so 16::so 17::so 18::so 19::so 20::so 21::so 22::so 23::so 24::so 25::so 26::so 27::so 28::so 29::[])
       (fun _ w'=>Moved C Z s w w') (fun _ _ _=>True) ?mixK7vf ?okK7vf ?tabK7vf ?frK7vf ?inK7vf ?keptK7vf ?startK7vf ?eachK7vf ?finK7vf
      case mixK7vf|okK7vf|tabK7vf|frK7vf=>kernel_rfl
      case inK7vf=>rfl
      case keptK7vf=>((repeat refine⟨fun _ _ _ _ _ _ _ _ _ _ _ h=>h,?_⟩);exact trivial)
      case startK7vf=>exact hgo.out.below (Below.refl _ _).drew
      case eachK7vf=>
       repeat' first|exact trivial|refine And.intro ?_ ?_
       ·intro w L f hC hLi hLd hLn ⟨d,_⟩;refine au.live rfl ?_;exact aj (v:=f 0) rfl (hC) (trivial) d
       ·intro w L f hC hLi hLd hLn ⟨a,_⟩;change _=_ at a;refine au.live rfl ?_;obtain⟨ev,ec,ef⟩:=evs f;refine aF (f:=64) (args:= #[.pointer (some ⟨Z.g,0,none⟩)]) (w:=w) (by go_simp) (aX hC hn.out) ?_;rintro e w1 ⟨he,h1,-⟩;exact⟨_,he,h1,trivial,rfl⟩
       ·intro w L f hC hLi hLd hLn ⟨d,_⟩;refine au.live rfl ?_;exact aj (v:=f 42) rfl (hC) (trivial) d
       iterate 10 (intro w L f hC hLi hLd hLn ⟨_,d,_⟩;refine aI.dead (show ak _ (f 43)=false by rw[show f 43=_ from d];rfl) (hC) ?_ (trivial);exact rfl)
       ·intro w L f hC hLi hLd hLn ⟨_,_,d,_⟩;refine aI.dead (show ak _ (f 43)=false by rw[show f 43=_ from d];rfl) (hC) ?_ (trivial);exact rfl
       ·intro w L f hC hLi hLd hLn ⟨a,b,_⟩;change _=_ at a b;refine au.live rfl ?_;obtain⟨u0,u1,u2,u3,u4,u5,u6,u7,ufz⟩:=hC.facts;obtain⟨ev,ec,ef⟩:=evs f;refine aj ?_ hC trivial rfl;go_simp
       ·intro w L f hC hLi hLd hLn ⟨d,_⟩;refine au.live rfl ?_;exact aj (v:=f 55) rfl (hC) (trivial) d
       iterate 9 (intro w L f hC hLi hLd hLn ⟨_,d,_⟩;refine aI.dead (show ak _ (f 56)=false by rw[show f 56=_ from d];rfl) (hC) ?_ (trivial);exact rfl)
       ·intro w L f hC hLi hLd hLn ⟨_,_,d,_⟩;refine aI.dead (show ak _ (f 56)=false by rw[show f 56=_ from d];rfl) (hC) ?_ (trivial);exact rfl
       iterate 3 (intro w L f hC hLi hLd hLn ⟨_,d,_⟩;refine aI.dead (show ak _ (f 56)=false by rw[show f 56=_ from d];rfl) (hC) ?_ (trivial);exact rfl)
       ·intro w L f hC hLi hLd hLn ⟨a,b,_⟩;change _=_ at a b;refine au.live rfl ?_;obtain⟨u0,u1,u2,u3,u4,u5,u6,u7,ufz⟩:=hC.facts;obtain⟨ev,ec,ef⟩:=evs f;refine aj ?_ hC trivial rfl;go_simp
       ·intro w L f hC hLi hLd hLn ⟨d,_⟩;refine au.live rfl ?_;exact aj (v:=f 70) rfl (hC) (trivial) d
      intro x w' hC hV
      have e0:x 30= .bool na:=(hV 30 _ rfl rfl).trans (by rw[hN2.out]);clear hV;simp only[framed];rw[e0];have hC:=Za hC;go_wp2_with fail
      go_meet
      case rel=>exact⟨rfl,hC⟩
     |true=>
      by_cases hi2:s.i+1<C.tk.length
      case neg=>
       have hi2':¬((s.i:Int)+1<(C.tk.length:Int)):=by omega
       have hN2:Hid (na=false):=Za (by rw[hna.out,decide_eq_false hi2];simp);replace hn:=Za hn;refine aC ((eqv (.pointer (some ⟨Z.g,0,none⟩)))::(eqv (.bool true))::(eqv (.bool true))::(eqv (.pointer (some ⟨Z.g,0,none⟩)))::(eqv (.pointer (some ⟨Z.g,0,none⟩)))::(eqv (.pointer (some ⟨Z.g,1,none⟩)))::(eqv (.int .i64 ((s.i:Int))))::(eqv (.int .i64 ((s.i:Int)+1)))::(eqv (.pointer (some ⟨Z.g,0,none⟩)))::(eqv (.pointer (some ⟨Z.g,0,none⟩)))::(eqv (.pointer (some ⟨Z.g,0,none⟩)))::(eqv (.slice Z.A C.tk.length Z.c))::(eqv (.int .i64 ((C.tk.length:Int))))::(eqv (.bool false))::(eqv (.bool false))::(eqv (.bool false))::eud::eud::eud::eud::eud::eud::eud::eud::eud::eud::eud::eud::eud::(eqv (.bool false))::(eqv (.bool false))::[])
        ((rn1 0)::(rd1 41 0)::(rd1 42 1)::(rq1 0 43 2)::(rg1 44 3 43 2)::(rg1 45 4 43 2)::(rg1 46 5 43 2)::(rg1 47 6 43 2)::(rq1 0 43 2)::(rg1 49 8 43 2)::(rg1 50 9 43 2)::(rg1 51 10 43 2)::(rg1 52 11 43 2)::⟨[(48,some 7),(53,some 12),(43,some 2)],43,[]⟩::⟨[(43,some 2),(54,some 13)],0,[]⟩::(rd1 55 14)::(rq1 0 56 15)::(rg1 57 16 56 15)::(rg1 58 17 56 15)::(rg1 59 18 56 15)::(rq1 0 56 15)::(rg1 61 20 56 15)::(rg1 62 21 56 15)::(rg1 63 22 56 15)::(rg1 64 23 56 15)::⟨[(60,some 19),(65,some 24),(56,some 15)],56,[]⟩::(rg1 66 25 56 15)::(rg1 67 26 56 15)::(rg1 68 27 56 15)::⟨[(56,some 15),(69,some 28)],0,[]⟩::(rd1 70 29)::[])
        (no::no::no::no::no::no::no::no::no::no::no::no::no::no::no::no::no::no::no::no::no::no::no::no::no::no::no::no::no::no::no::no::no::no::no::no::no::no::no::no::so 30::so 0::so 1::so 2::so 3::so 4::so 5::so 6::so 7::so 8::so 9::so 10::so 11::so 12::so 13::so 14::so 15::so 16::so 17::so 18::so 19::so 20::so 21::so 22::so 23::so 24::so 25::so 26::so 27::so 28::so 29::[])
        (fun _ w'=>Moved C Z s w w') (fun _ _ _=>True) ?mixK7vtf ?okK7vtf ?tabK7vtf ?frK7vtf ?inK7vtf ?keptK7vtf ?startK7vtf ?eachK7vtf ?finK7vtf
       case mixK7vtf|okK7vtf|tabK7vtf|frK7vtf=>kernel_rfl
       case inK7vtf=>rfl
       case keptK7vtf=>((repeat refine⟨fun _ _ _ _ _ _ _ _ _ _ _ h=>h,?_⟩);exact trivial)
       case startK7vtf=>exact hgo.out.below (Below.refl _ _).drew
       case eachK7vtf=>
        repeat' first|exact trivial|refine And.intro ?_ ?_
        ·intro w L f hC hLi hLd hLn ⟨d,_⟩;refine au.live rfl ?_;exact aj (v:=f 0) rfl (hC) (trivial) d
        ·intro w L f hC hLi hLd hLn ⟨a,_⟩;change _=_ at a;refine au.live rfl ?_;obtain⟨ev,ec,ef⟩:=evs f;refine aF (f:=64) (args:= #[.pointer (some ⟨Z.g,0,none⟩)]) (w:=w) (by go_simp) (aX hC hn.out) ?_;rintro e w1 ⟨he,h1,-⟩;exact⟨_,he,h1,trivial,rfl⟩
        ·intro w L f hC hLi hLd hLn ⟨d,_⟩;refine au.live rfl ?_;exact aj (v:=f 42) rfl (hC) (trivial) d
        ·intro w L f hC hLi hLd hLn ⟨d0,d43,_⟩;change _=_ at d0 d43;refine au.live (show ak _ (f 43)=true by rw[d43];rfl) ?_;exact aj (v:=f 0) rfl (hC) (trivial) d0
        iterate 4 (intro w L f hC hLi hLd hLn ⟨a,d43,_⟩;change _=_ at a d43;refine au.live (show ak _ (f 43)=true by rw[d43];rfl) ?_;obtain⟨u0,u1,u2,u3,u4,u5,u6,u7,ufz⟩:=hC.facts;obtain⟨ev,ec,ef⟩:=evs f;refine aj ?_ hC trivial rfl;go_simp)
        ·intro w L f hC hLi hLd hLn ⟨d0,d43,_⟩;change _=_ at d0 d43;refine au.live (show ak _ (f 43)=true by rw[d43];rfl) ?_;exact aj (v:=f 0) rfl (hC) (trivial) d0
        iterate 4 (intro w L f hC hLi hLd hLn ⟨a,d43,_⟩;change _=_ at a d43;refine au.live (show ak _ (f 43)=true by rw[d43];rfl) ?_;obtain⟨u0,u1,u2,u3,u4,u5,u6,u7,ufz⟩:=hC.facts;obtain⟨ev,ec,ef⟩:=evs f;refine aj ?_ hC trivial rfl;go_simp)
        ·intro w L f hC hLi hLd hLn ⟨a,b,d43,_⟩;change _=_ at a b d43;refine au.live (show ak _ (f 43)=true by rw[d43];rfl) ?_;obtain⟨u0,u1,u2,u3,u4,u5,u6,u7,ufz⟩:=hC.facts;obtain⟨ev,ec,ef⟩:=evs f;refine aj ?_ hC trivial rfl;go_simp
        ·intro w L f hC hLi hLd hLn ⟨a,b,_⟩;change _=_ at a b;refine au.live rfl ?_;obtain⟨u0,u1,u2,u3,u4,u5,u6,u7,ufz⟩:=hC.facts;obtain⟨ev,ec,ef⟩:=evs f;refine aj ?_ hC trivial rfl;go_simp
        ·intro w L f hC hLi hLd hLn ⟨d,_⟩;refine au.live rfl ?_;exact aj (v:=f 55) rfl (hC) (trivial) d
        iterate 9 (intro w L f hC hLi hLd hLn ⟨_,d,_⟩;refine aI.dead (show ak _ (f 56)=false by rw[show f 56=_ from d];rfl) (hC) ?_ (trivial);exact rfl)
        ·intro w L f hC hLi hLd hLn ⟨_,_,d,_⟩;refine aI.dead (show ak _ (f 56)=false by rw[show f 56=_ from d];rfl) (hC) ?_ (trivial);exact rfl
        iterate 3 (intro w L f hC hLi hLd hLn ⟨_,d,_⟩;refine aI.dead (show ak _ (f 56)=false by rw[show f 56=_ from d];rfl) (hC) ?_ (trivial);exact rfl)
        ·intro w L f hC hLi hLd hLn ⟨a,b,_⟩;change _=_ at a b;refine au.live rfl ?_;obtain⟨u0,u1,u2,u3,u4,u5,u6,u7,ufz⟩:=hC.facts;obtain⟨ev,ec,ef⟩:=evs f;refine aj ?_ hC trivial rfl;go_simp
        ·intro w L f hC hLi hLd hLn ⟨d,_⟩;refine au.live rfl ?_;exact aj (v:=f 70) rfl (hC) (trivial) d
       intro x w' hC hV
       have e0:x 30= .bool na:=(hV 30 _ rfl rfl).trans (by rw[hN2.out]);clear hV;simp only[framed];rw[e0];have hC:=Za hC;go_wp2_with fail
       go_meet
       case rel=>exact⟨rfl,hC⟩
      case pos=>
       obtain⟨x1,hx1⟩:∃x,C.tk[s.i+1]? =some x:=⟨_,List.getElem?_eq_getElem hi2⟩;obtain⟨b,off,hA,hbg,_⟩:=hVV.out.at_.tok (k:=s.i) (by omega)
       have hT1:fB C (s.i+1)=x1.t:=by unfold fB;rw[hx1]
       have hN:na=(x1.t== [91]):=by rw[hna.out,hn,hT1,decide_eq_true hi2];rfl
       have hi2':((s.i:Int)+1<(C.tk.length:Int)):=by omega
       clear hT1;replace hn:=Za hn;replace hx1:=Za hx1;by_cases q1:x1.t= [91]
       case pos=>
        have k1:((ay x1.t).toList== [91])=true:=by rw[aH,q1];rfl
        have hN2:Hid (na=true):=Za (by rw[hN,q1];rfl);clear hN q1
        refine aC ((eqv (.pointer (some ⟨Z.g,0,none⟩)))::(eqv (.bool true))::(eqv (.bool true))::(eqv (.pointer (some ⟨Z.g,0,none⟩)))::(eqv (.pointer (some ⟨Z.g,0,none⟩)))::(eqv (.pointer (some ⟨Z.g,1,none⟩)))::(eqv (.int .i64 ((s.i:Int))))::(eqv (.int .i64 ((s.i:Int)+1)))::(eqv (.pointer (some ⟨Z.g,0,none⟩)))::(eqv (.pointer (some ⟨Z.g,0,none⟩)))::(eqv (.pointer (some ⟨Z.g,0,none⟩)))::(eqv (.slice (some ⟨b,off,none⟩) C.tk.length Z.c))::(eqv (.int .i64 ((C.tk.length:Int))))::(eqv (.bool true))::(eqv (.bool true))::(eqv (.bool true))::(eqv (.pointer (some ⟨Z.g,0,none⟩)))::(eqv (.pointer (some ⟨Z.g,0,none⟩)))::(eqv (.pointer (some ⟨Z.g,0,none⟩)))::(eqv (.slice (some ⟨b,off,none⟩) C.tk.length Z.c))::(eqv (.pointer (some ⟨Z.g,0,none⟩)))::(eqv (.pointer (some ⟨Z.g,0,none⟩)))::(eqv (.pointer (some ⟨Z.g,1,none⟩)))::(eqv (.int .i64 ((s.i:Int))))::(eqv (.int .i64 ((s.i:Int)+1)))::(eqv (.pointer (some ⟨b,off+(s.i+1)*3,none⟩)))::(eqv (.pointer (some ⟨b,off+(s.i+1)*3+1,none⟩)))::(eqv (.string (ay x1.t)))::(eqv (.bool true))::(eqv (.bool true))::(eqv (.bool true))::[])
         ((rn1 0)::(rd1 41 0)::(rd1 42 1)::(rq1 0 43 2)::(rg1 44 3 43 2)::(rg1 45 4 43 2)::(rg1 46 5 43 2)::(rg1 47 6 43 2)::(rq1 0 43 2)::(rg1 49 8 43 2)::(rg1 50 9 43 2)::(rg1 51 10 43 2)::(rg1 52 11 43 2)::⟨[(48,some 7),(53,some 12),(43,some 2)],43,[]⟩::⟨[(43,some 2),(54,some 13)],0,[]⟩::(rd1 55 14)::(rq1 0 56 15)::(rg1 57 16 56 15)::(rg1 58 17 56 15)::(rg1 59 18 56 15)::(rq1 0 56 15)::(rg1 61 20 56 15)::(rg1 62 21 56 15)::(rg1 63 22 56 15)::(rg1 64 23 56 15)::⟨[(60,some 19),(65,some 24),(56,some 15)],56,[]⟩::(rg1 66 25 56 15)::(rg1 67 26 56 15)::(rg1 68 27 56 15)::⟨[(56,some 15),(69,some 28)],0,[]⟩::(rd1 70 29)::[])
         (no::no::no::no::no::no::no::no::no::no::no::no::no::no::no::no::no::no::no::no::no::no::no::no::no::no::no::no::no::no::no::no::no::no::no::no::no::no::no::no::so 30::so 0::so 1::so 2::so 3::so 4::so 5::so 6::so 7::so 8::so 9::so 10::so 11::so 12::so 13::so 14::so 15::so 16::so 17::so 18::so 19::so 20::so 21::so 22::so 23::so 24::so 25::so 26::so 27::so 28::so 29::[])
         (fun _ w'=>Moved C Z s w w') (fun _ _ _=>True) ?mixK7vttt ?okK7vttt ?tabK7vttt ?frK7vttt ?inK7vttt ?keptK7vttt ?startK7vttt ?eachK7vttt ?finK7vttt
        case mixK7vttt|okK7vttt|tabK7vttt|frK7vttt=>kernel_rfl
        case inK7vttt=>rfl
        case keptK7vttt=>((repeat refine⟨fun _ _ _ _ _ _ _ _ _ _ _ h=>h,?_⟩);exact trivial)
        case startK7vttt=>exact hgo.out.below (Below.refl _ _).drew
        case eachK7vttt=>
         repeat' first|exact trivial|refine And.intro ?_ ?_
         ·intro w L f hC hLi hLd hLn ⟨d,_⟩;refine au.live rfl ?_;exact aj (v:=f 0) rfl (hC) (trivial) d
         ·intro w L f hC hLi hLd hLn ⟨a,_⟩;change _=_ at a;refine au.live rfl ?_;obtain⟨ev,ec,ef⟩:=evs f;refine aF (f:=64) (args:= #[.pointer (some ⟨Z.g,0,none⟩)]) (w:=w) (by go_simp) (aX hC hn.out) ?_;rintro e w1 ⟨he,h1,-⟩;exact⟨_,he,h1,trivial,rfl⟩
         ·intro w L f hC hLi hLd hLn ⟨d,_⟩;refine au.live rfl ?_;exact aj (v:=f 42) rfl (hC) (trivial) d
         ·intro w L f hC hLi hLd hLn ⟨d0,d43,_⟩;change _=_ at d0 d43;refine au.live (show ak _ (f 43)=true by rw[d43];rfl) ?_;exact aj (v:=f 0) rfl (hC) (trivial) d0
         iterate 4 (intro w L f hC hLi hLd hLn ⟨a,d43,_⟩;change _=_ at a d43;refine au.live (show ak _ (f 43)=true by rw[d43];rfl) ?_;obtain⟨u0,u1,u2,u3,u4,u5,u6,u7,ufz⟩:=hC.facts;obtain⟨ev,ec,ef⟩:=evs f;refine aj ?_ hC trivial rfl;go_simp)
         ·intro w L f hC hLi hLd hLn ⟨d0,d43,_⟩;change _=_ at d0 d43;refine au.live (show ak _ (f 43)=true by rw[d43];rfl) ?_;exact aj (v:=f 0) rfl (hC) (trivial) d0
         iterate 4 (intro w L f hC hLi hLd hLn ⟨a,d43,_⟩;change _=_ at a d43;refine au.live (show ak _ (f 43)=true by rw[d43];rfl) ?_;obtain⟨u0,u1,u2,u3,u4,u5,u6,u7,ufz⟩:=hC.facts;obtain⟨ev,ec,ef⟩:=evs f;refine aj ?_ hC trivial rfl;go_simp)
         ·intro w L f hC hLi hLd hLn ⟨a,b,d43,_⟩;change _=_ at a b d43;refine au.live (show ak _ (f 43)=true by rw[d43];rfl) ?_;obtain⟨u0,u1,u2,u3,u4,u5,u6,u7,ufz⟩:=hC.facts;obtain⟨ev,ec,ef⟩:=evs f;refine aj ?_ hC trivial rfl;go_simp
         ·intro w L f hC hLi hLd hLn ⟨a,b,_⟩;change _=_ at a b;refine au.live rfl ?_;obtain⟨u0,u1,u2,u3,u4,u5,u6,u7,ufz⟩:=hC.facts;obtain⟨ev,ec,ef⟩:=evs f;refine aj ?_ hC trivial rfl;go_simp
         ·intro w L f hC hLi hLd hLn ⟨d,_⟩;refine au.live rfl ?_;exact aj (v:=f 55) rfl (hC) (trivial) d
         ·intro w L f hC hLi hLd hLn ⟨d0,d56,_⟩;change _=_ at d0 d56;refine au.live (show ak _ (f 56)=true by rw[d56];rfl) ?_;exact aj (v:=f 0) rfl (hC) (trivial) d0
         iterate 3 (intro w L f hC hLi hLd hLn ⟨a,d56,_⟩;change _=_ at a d56;refine au.live (show ak _ (f 56)=true by rw[d56];rfl) ?_;obtain⟨u0,u1,u2,u3,u4,u5,u6,u7,ufz⟩:=hC.facts;obtain⟨ev,ec,ef⟩:=evs f;refine aj ?_ hC trivial rfl;go_simp)
         ·intro w L f hC hLi hLd hLn ⟨d0,d56,_⟩;change _=_ at d0 d56;refine au.live (show ak _ (f 56)=true by rw[d56];rfl) ?_;exact aj (v:=f 0) rfl (hC) (trivial) d0
         iterate 4 (intro w L f hC hLi hLd hLn ⟨a,d56,_⟩;change _=_ at a d56;refine au.live (show ak _ (f 56)=true by rw[d56];rfl) ?_;obtain⟨u0,u1,u2,u3,u4,u5,u6,u7,ufz⟩:=hC.facts;obtain⟨ev,ec,ef⟩:=evs f;refine aj ?_ hC trivial rfl;go_simp)
         ·intro w L f hC hLi hLd hLn ⟨a,b,d56,_⟩;change _=_ at a b d56;refine au.live (show ak _ (f 56)=true by rw[d56];rfl) ?_;obtain⟨u0,u1,u2,u3,u4,u5,u6,u7,ufz⟩:=hC.facts;obtain⟨ev,ec,ef⟩:=evs f;refine aj ?_ hC trivial rfl;go_simp
         ·intro w L f hC hLi hLd hLn ⟨a,d56,_⟩;change _=_ at a d56;refine au.live (show ak _ (f 56)=true by rw[d56];rfl) ?_;obtain⟨u0,u1,u2,u3,u4,u5,u6,u7,ufz⟩:=hC.facts;obtain⟨ev,ec,ef⟩:=evs f;refine aj ?_ hC trivial rfl;go_simp
         ·intro w L f hC hLi hLd hLn ⟨a,d56,_⟩;change _=_ at a d56;refine au.live (show ak _ (f 56)=true by rw[d56];rfl) ?_;obtain⟨u0,u1,u2⟩:=hC.tok hx1.out hA;obtain⟨ev,ec,ef⟩:=evs f;refine aj ?_ hC trivial rfl;go_simp
         ·intro w L f hC hLi hLd hLn ⟨a,d56,_⟩;change _=_ at a d56;refine au.live (show ak _ (f 56)=true by rw[d56];rfl) ?_;obtain⟨u0,u1,u2,u3,u4,u5,u6,u7,ufz⟩:=hC.facts;obtain⟨ev,ec,ef⟩:=evs f;refine aj ?_ hC trivial rfl;go_simp
         ·intro w L f hC hLi hLd hLn ⟨a,b,_⟩;change _=_ at a b;refine au.live rfl ?_;obtain⟨u0,u1,u2,u3,u4,u5,u6,u7,ufz⟩:=hC.facts;obtain⟨ev,ec,ef⟩:=evs f;refine aj ?_ hC trivial rfl;go_simp
         ·intro w L f hC hLi hLd hLn ⟨d,_⟩;refine au.live rfl ?_;exact aj (v:=f 70) rfl (hC) (trivial) d
        intro x w' hC hV
        have e0:x 30= .bool na:=(hV 30 _ rfl rfl).trans (by rw[hN2.out]);clear hV;simp only[framed];rw[e0];have hC:=Za hC;go_wp2_with fail
        go_meet
        case rel=>exact⟨rfl,hC⟩
       case neg=>
        have k1:((ay x1.t).toList== [91])=false:=by rw[aH];simpa using q1
        have hN2:Hid (na=false):=Za (by rw[hN];simpa using q1);clear hN q1
        refine aC ((eqv (.pointer (some ⟨Z.g,0,none⟩)))::(eqv (.bool true))::(eqv (.bool true))::(eqv (.pointer (some ⟨Z.g,0,none⟩)))::(eqv (.pointer (some ⟨Z.g,0,none⟩)))::(eqv (.pointer (some ⟨Z.g,1,none⟩)))::(eqv (.int .i64 ((s.i:Int))))::(eqv (.int .i64 ((s.i:Int)+1)))::(eqv (.pointer (some ⟨Z.g,0,none⟩)))::(eqv (.pointer (some ⟨Z.g,0,none⟩)))::(eqv (.pointer (some ⟨Z.g,0,none⟩)))::(eqv (.slice (some ⟨b,off,none⟩) C.tk.length Z.c))::(eqv (.int .i64 ((C.tk.length:Int))))::(eqv (.bool true))::(eqv (.bool true))::(eqv (.bool true))::(eqv (.pointer (some ⟨Z.g,0,none⟩)))::(eqv (.pointer (some ⟨Z.g,0,none⟩)))::(eqv (.pointer (some ⟨Z.g,0,none⟩)))::(eqv (.slice (some ⟨b,off,none⟩) C.tk.length Z.c))::(eqv (.pointer (some ⟨Z.g,0,none⟩)))::(eqv (.pointer (some ⟨Z.g,0,none⟩)))::(eqv (.pointer (some ⟨Z.g,1,none⟩)))::(eqv (.int .i64 ((s.i:Int))))::(eqv (.int .i64 ((s.i:Int)+1)))::(eqv (.pointer (some ⟨b,off+(s.i+1)*3,none⟩)))::(eqv (.pointer (some ⟨b,off+(s.i+1)*3+1,none⟩)))::(eqv (.string (ay x1.t)))::(eqv (.bool false))::(eqv (.bool false))::(eqv (.bool false))::[])
         ((rn1 0)::(rd1 41 0)::(rd1 42 1)::(rq1 0 43 2)::(rg1 44 3 43 2)::(rg1 45 4 43 2)::(rg1 46 5 43 2)::(rg1 47 6 43 2)::(rq1 0 43 2)::(rg1 49 8 43 2)::(rg1 50 9 43 2)::(rg1 51 10 43 2)::(rg1 52 11 43 2)::⟨[(48,some 7),(53,some 12),(43,some 2)],43,[]⟩::⟨[(43,some 2),(54,some 13)],0,[]⟩::(rd1 55 14)::(rq1 0 56 15)::(rg1 57 16 56 15)::(rg1 58 17 56 15)::(rg1 59 18 56 15)::(rq1 0 56 15)::(rg1 61 20 56 15)::(rg1 62 21 56 15)::(rg1 63 22 56 15)::(rg1 64 23 56 15)::⟨[(60,some 19),(65,some 24),(56,some 15)],56,[]⟩::(rg1 66 25 56 15)::(rg1 67 26 56 15)::(rg1 68 27 56 15)::⟨[(56,some 15),(69,some 28)],0,[]⟩::(rd1 70 29)::[])
         (no::no::no::no::no::no::no::no::no::no::no::no::no::no::no::no::no::no::no::no::no::no::no::no::no::no::no::no::no::no::no::no::no::no::no::no::no::no::no::no::so 30::so 0::so 1::so 2::so 3::so 4::so 5::so 6::so 7::so 8::so 9::so 10::so 11::so 12::so 13::so 14::so 15::so 16::so 17::so 18::so 19::so 20::so 21::so 22::so 23::so 24::so 25::so 26::so 27::so 28::so 29::[])
         (fun _ w'=>Moved C Z s w w') (fun _ _ _=>True) ?mixK7vttf ?okK7vttf ?tabK7vttf ?frK7vttf ?inK7vttf ?keptK7vttf ?startK7vttf ?eachK7vttf ?finK7vttf
        case mixK7vttf|okK7vttf|tabK7vttf|frK7vttf=>kernel_rfl
        case inK7vttf=>rfl
        case keptK7vttf=>((repeat refine⟨fun _ _ _ _ _ _ _ _ _ _ _ h=>h,?_⟩);exact trivial)
        case startK7vttf=>exact hgo.out.below (Below.refl _ _).drew
        case eachK7vttf=>
         repeat' first|exact trivial|refine And.intro ?_ ?_
         ·intro w L f hC hLi hLd hLn ⟨d,_⟩;refine au.live rfl ?_;exact aj (v:=f 0) rfl (hC) (trivial) d
         ·intro w L f hC hLi hLd hLn ⟨a,_⟩;change _=_ at a;refine au.live rfl ?_;obtain⟨ev,ec,ef⟩:=evs f;refine aF (f:=64) (args:= #[.pointer (some ⟨Z.g,0,none⟩)]) (w:=w) (by go_simp) (aX hC hn.out) ?_;rintro e w1 ⟨he,h1,-⟩;exact⟨_,he,h1,trivial,rfl⟩
         ·intro w L f hC hLi hLd hLn ⟨d,_⟩;refine au.live rfl ?_;exact aj (v:=f 42) rfl (hC) (trivial) d
         ·intro w L f hC hLi hLd hLn ⟨d0,d43,_⟩;change _=_ at d0 d43;refine au.live (show ak _ (f 43)=true by rw[d43];rfl) ?_;exact aj (v:=f 0) rfl (hC) (trivial) d0
         iterate 4 (intro w L f hC hLi hLd hLn ⟨a,d43,_⟩;change _=_ at a d43;refine au.live (show ak _ (f 43)=true by rw[d43];rfl) ?_;obtain⟨u0,u1,u2,u3,u4,u5,u6,u7,ufz⟩:=hC.facts;obtain⟨ev,ec,ef⟩:=evs f;refine aj ?_ hC trivial rfl;go_simp)
         ·intro w L f hC hLi hLd hLn ⟨d0,d43,_⟩;change _=_ at d0 d43;refine au.live (show ak _ (f 43)=true by rw[d43];rfl) ?_;exact aj (v:=f 0) rfl (hC) (trivial) d0
         iterate 4 (intro w L f hC hLi hLd hLn ⟨a,d43,_⟩;change _=_ at a d43;refine au.live (show ak _ (f 43)=true by rw[d43];rfl) ?_;obtain⟨u0,u1,u2,u3,u4,u5,u6,u7,ufz⟩:=hC.facts;obtain⟨ev,ec,ef⟩:=evs f;refine aj ?_ hC trivial rfl;go_simp)
         ·intro w L f hC hLi hLd hLn ⟨a,b,d43,_⟩;change _=_ at a b d43;refine au.live (show ak _ (f 43)=true by rw[d43];rfl) ?_;obtain⟨u0,u1,u2,u3,u4,u5,u6,u7,ufz⟩:=hC.facts;obtain⟨ev,ec,ef⟩:=evs f;refine aj ?_ hC trivial rfl;go_simp
         ·intro w L f hC hLi hLd hLn ⟨a,b,_⟩;change _=_ at a b;refine au.live rfl ?_;obtain⟨u0,u1,u2,u3,u4,u5,u6,u7,ufz⟩:=hC.facts;obtain⟨ev,ec,ef⟩:=evs f;refine aj ?_ hC trivial rfl;go_simp
         ·intro w L f hC hLi hLd hLn ⟨d,_⟩;refine au.live rfl ?_;exact aj (v:=f 55) rfl (hC) (trivial) d
         ·intro w L f hC hLi hLd hLn ⟨d0,d56,_⟩;change _=_ at d0 d56;refine au.live (show ak _ (f 56)=true by rw[d56];rfl) ?_;exact aj (v:=f 0) rfl (hC) (trivial) d0
         iterate 3 (intro w L f hC hLi hLd hLn ⟨a,d56,_⟩;change _=_ at a d56;refine au.live (show ak _ (f 56)=true by rw[d56];rfl) ?_;obtain⟨u0,u1,u2,u3,u4,u5,u6,u7,ufz⟩:=hC.facts;obtain⟨ev,ec,ef⟩:=evs f;refine aj ?_ hC trivial rfl;go_simp)
         ·intro w L f hC hLi hLd hLn ⟨d0,d56,_⟩;change _=_ at d0 d56;refine au.live (show ak _ (f 56)=true by rw[d56];rfl) ?_;exact aj (v:=f 0) rfl (hC) (trivial) d0
         iterate 4 (intro w L f hC hLi hLd hLn ⟨a,d56,_⟩;change _=_ at a d56;refine au.live (show ak _ (f 56)=true by rw[d56];rfl) ?_;obtain⟨u0,u1,u2,u3,u4,u5,u6,u7,ufz⟩:=hC.facts;obtain⟨ev,ec,ef⟩:=evs f;refine aj ?_ hC trivial rfl;go_simp)
         ·intro w L f hC hLi hLd hLn ⟨a,b,d56,_⟩;change _=_ at a b d56;refine au.live (show ak _ (f 56)=true by rw[d56];rfl) ?_;obtain⟨u0,u1,u2,u3,u4,u5,u6,u7,ufz⟩:=hC.facts;obtain⟨ev,ec,ef⟩:=evs f;refine aj ?_ hC trivial rfl;go_simp
         ·intro w L f hC hLi hLd hLn ⟨a,d56,_⟩;change _=_ at a d56;refine au.live (show ak _ (f 56)=true by rw[d56];rfl) ?_;obtain⟨u0,u1,u2,u3,u4,u5,u6,u7,ufz⟩:=hC.facts;obtain⟨ev,ec,ef⟩:=evs f;refine aj ?_ hC trivial rfl;go_simp
         ·intro w L f hC hLi hLd hLn ⟨a,d56,_⟩;change _=_ at a d56;refine au.live (show ak _ (f 56)=true by rw[d56];rfl) ?_;obtain⟨u0,u1,u2⟩:=hC.tok hx1.out hA;obtain⟨ev,ec,ef⟩:=evs f;refine aj ?_ hC trivial rfl;go_simp
         ·intro w L f hC hLi hLd hLn ⟨a,d56,_⟩;change _=_ at a d56;refine au.live (show ak _ (f 56)=true by rw[d56];rfl) ?_;obtain⟨u0,u1,u2,u3,u4,u5,u6,u7,ufz⟩:=hC.facts;obtain⟨ev,ec,ef⟩:=evs f;refine aj ?_ hC trivial rfl;go_simp
         ·intro w L f hC hLi hLd hLn ⟨a,b,_⟩;change _=_ at a b;refine au.live rfl ?_;obtain⟨u0,u1,u2,u3,u4,u5,u6,u7,ufz⟩:=hC.facts;obtain⟨ev,ec,ef⟩:=evs f;refine aj ?_ hC trivial rfl;go_simp
         ·intro w L f hC hLi hLd hLn ⟨d,_⟩;refine au.live rfl ?_;exact aj (v:=f 70) rfl (hC) (trivial) d
        intro x w' hC hV
        have e0:x 30= .bool na:=(hV 30 _ rfl rfl).trans (by rw[hN2.out]);clear hV;simp only[framed];rw[e0];have hC:=Za hC;go_wp2_with fail
        go_meet
        case rel=>exact⟨rfl,hC⟩
    case rest=>
     obtain⟨rfl,Gy⟩:=hcut
     cases hnav:na with
     |true=>
      obtain⟨y,hy⟩:∃y,y=(aK C s).1:=⟨_,rfl⟩;obtain⟨s2,hs2⟩:∃y,y=(aK C s).2:=⟨_,rfl⟩;have hnf:Hid (aK C s=(y,s2)):=Za (by rw[hy,hs2]);have hnx:=hna.out;rw[hnav]at hnx
      have hi3:s2.i<C.tk.length:=by
       have:=jh hnx.symm;have h3:=this.i2;have h4:=this.i1;rw[hs2];have hlt:=hnx;simp only[Bool.true_eq,Bool.and_eq_true,decide_eq_true_eq]at hlt
       have e:(aK C s).2=s.next:=by unfold aK;rw[if_pos hlt.1]
       rw[e];exact hlt.2.1
      have hd2:m≤s2.next.deep:=by rw[hs2];simp only[PS.next];rw[(Stp.name (C:=C) s).dp];exact hm
      obtain⟨r,hr⟩:∃y,y=sum C s2.next:=⟨_,rfl⟩;obtain⟨s4,hs4⟩:∃y,y=aY C [93] r.2:=⟨_,rfl⟩;replace hF:Hid (R=({hdx n x with k:=6,y:=y,e:=r.1},s4)):=Za (by rw[hF.out,hnav,if_pos rfl,hs4,hr,hs2,hy]);replace hr:=Za hr;replace hs4:=Za hs4;clear hnx hy hs2 hnav hna hnb;go_wp2_with fail;refine(dR Gy.out hnf.out).mono ?_;rintro e w2 ⟨rfl,q2,hyl,-⟩;have hV2:=hVV.out.call q2;obtain⟨f1,fz⟩:=hV2.facts;have f0:=hV2.fact 0 rfl;have f2:=hV2.fact 2 rfl;have hV4:=(hV2.store 0 (.int .i64 6)).store 2 (.string (ay y));obtain⟨w4,hw4⟩:∃ww,ww=(w2.setCell ⟨gs,0,none⟩ (.int .i64 6)).setCell ⟨gs,2,none⟩ (.string (ay y)):=⟨_,rfl⟩;rw[←hw4]at hV4;clear q2 hV2;go_upto_region 9 with(fail);rw[←hw4];clear hw4 f1 fz f0 f2;obtain⟨a0,d0,d1,d2,d3,d4,d5,d6,dfz⟩:=hV4.mv.facts;have hi4:=hV4.at_.bounds.2.2.1;replace hV4:=Za hV4;have hw1:=dh (i:=s2.i) (by omega);go_wp2_with fail;refine(hsum.near (hV4.out.mv.next hi3) hd2 hr.out.symm).mono ?_;rintro e w5 ⟨p,rfl,q5,hE5,hW5⟩;clear a0 d0 d1 d2 d3 d4 d5 d6 dfz hw1;have hV5:=hV4.out.call q5
      have hE6:=hE5.ge (B:=w.heap.size) (Nat.le_trans hV4.out.wr.size (Nat.le_of_eq (gV _ _ _).symm));obtain⟨f1,fz⟩:=hV5.facts;have f3:=hV5.fact 3 rfl;have hV6:=hV5.store 3 (.pointer p);have hE7:=hE6.st hlow 3 (.pointer p);obtain⟨w6,hw6⟩:∃y,y=w5.setCell ⟨gs,3,none⟩ (.pointer p):=⟨_,rfl⟩;rw[←hw6]at hV6 hE7;clear hE5 hW5 q5 hE6 hV5;go_wp2_with fail;rw[←hw6];clear hw6 f1 fz f3;replace hV6:=Za hV6;replace hE7:=Za hE7;refine(bf hV6.out.mv [93] hs4.out.symm).mono ?_;rintro e w7 ⟨rfl,q7,hW7⟩;have hV7:=Za (hV6.out.call q7);have hE8:=Za (hE7.out.pw hW7 hlt0);clear q7 hW7;go_wp2_with fail;go_end0;rw[hF.out];exact⟨rfl,_,_,_,_,hV7.out,hE8.out,aJ.nil_ _ _,bC.nil_ _ _,aZ.nil_ _ _,hx,hyl,by simp,hn⟩
     |false=>
      go_upto_region 12 with(fail);go_cut [93] (fun bv wc=>bv= .bool nb∧Hid (Moved C Z s w wc))
      case first=>
       have hgo:=Gy;have hw2:=dh (i:=s.i) (by omega)
       have p1:(0:Int)≤(s.i:Int)+1:=by omega
       have p3:((s.i:Int)+1).toNat=s.i+1:=by omega
       cases hn:cu C s with
       |false=>
        have hN2:Hid (nb=false):=Za (by rw[hnb.out,hn];rfl);replace hn:=Za hn;refine aC ((eqv (.pointer (some ⟨Z.g,0,none⟩)))::(eqv (.bool false))::(eqv (.bool false))::eud::eud::eud::eud::eud::eud::eud::eud::eud::eud::eud::(eqv (.bool false))::(eqv (.bool false))::eud::eud::eud::eud::eud::eud::eud::eud::eud::eud::eud::eud::eud::(eqv (.bool false))::(eqv (.bool false))::[])
         ((rn1 0)::(rd1 94 0)::(rd1 95 1)::(rq1 0 96 2)::(rg1 97 3 96 2)::(rg1 98 4 96 2)::(rg1 99 5 96 2)::(rg1 100 6 96 2)::(rq1 0 96 2)::(rg1 102 8 96 2)::(rg1 103 9 96 2)::(rg1 104 10 96 2)::(rg1 105 11 96 2)::⟨[(101,some 7),(106,some 12),(96,some 2)],96,[]⟩::⟨[(96,some 2),(107,some 13)],0,[]⟩::(rd1 108 14)::(rq1 0 109 15)::(rg1 110 16 109 15)::(rg1 111 17 109 15)::(rg1 112 18 109 15)::(rq1 0 109 15)::(rg1 114 20 109 15)::(rg1 115 21 109 15)::(rg1 116 22 109 15)::(rg1 117 23 109 15)::⟨[(113,some 19),(118,some 24),(109,some 15)],109,[]⟩::(rg1 119 25 109 15)::(rg1 120 26 109 15)::(rg1 121 27 109 15)::⟨[(109,some 15),(122,some 28)],0,[]⟩::(rd1 123 29)::[])
         (no::no::no::no::no::no::no::no::no::no::no::no::no::no::no::no::no::no::no::no::no::no::no::no::no::no::no::no::no::no::no::no::no::no::no::no::no::no::no::no::no::no::no::no::no::no::no::no::no::no::no::no::no::no::no::no::no::no::no::no::no::no::no::no::no::no::no::no::no::no::no::no::no::no::no::no::no::no::no::no::no::no::no::no::no::no::no::no::no::no::no::no::no::so 30::so 0::so 1::so 2::so 3::so 4::so 5::so 6::so 7::so 8::so 9::so 10::so 11::so 12::so 13::so 14::so 15::so 16::so 17::so 18::so 19::so 20::so 21::so 22::so 23::so 24::so 25::so 26::so 27::so 28::so 29::[])
         (fun _ w'=>Moved C Z s w w') (fun _ _ _=>True) ?mixK12vf ?okK12vf ?tabK12vf ?frK12vf ?inK12vf ?keptK12vf ?startK12vf ?eachK12vf ?finK12vf
        case mixK12vf|okK12vf|tabK12vf|frK12vf=>kernel_rfl
        case inK12vf=>rfl
        case keptK12vf=>((repeat refine⟨fun _ _ _ _ _ _ _ _ _ _ _ h=>h,?_⟩);exact trivial)
        case startK12vf=>exact hgo.out.below (Below.refl _ _).drew
        case eachK12vf=>
         repeat' first|exact trivial|refine And.intro ?_ ?_
         ·intro w L f hC hLi hLd hLn ⟨d,_⟩;refine au.live rfl ?_;exact aj (v:=f 0) rfl (hC) (trivial) d
         ·intro w L f hC hLi hLd hLn ⟨a,_⟩;change _=_ at a;refine au.live rfl ?_;obtain⟨ev,ec,ef⟩:=evs f;refine aF (f:=64) (args:= #[.pointer (some ⟨Z.g,0,none⟩)]) (w:=w) (by go_simp) (aX hC hn.out) ?_;rintro e w1 ⟨he,h1,-⟩;exact⟨_,he,h1,trivial,rfl⟩
         ·intro w L f hC hLi hLd hLn ⟨d,_⟩;refine au.live rfl ?_;exact aj (v:=f 95) rfl (hC) (trivial) d
         iterate 10 (intro w L f hC hLi hLd hLn ⟨_,d,_⟩;refine aI.dead (show ak _ (f 96)=false by rw[show f 96=_ from d];rfl) (hC) ?_ (trivial);exact rfl)
         ·intro w L f hC hLi hLd hLn ⟨_,_,d,_⟩;refine aI.dead (show ak _ (f 96)=false by rw[show f 96=_ from d];rfl) (hC) ?_ (trivial);exact rfl
         ·intro w L f hC hLi hLd hLn ⟨a,b,_⟩;change _=_ at a b;refine au.live rfl ?_;obtain⟨u0,u1,u2,u3,u4,u5,u6,u7,ufz⟩:=hC.facts;obtain⟨ev,ec,ef⟩:=evs f;refine aj ?_ hC trivial rfl;go_simp
         ·intro w L f hC hLi hLd hLn ⟨d,_⟩;refine au.live rfl ?_;exact aj (v:=f 108) rfl (hC) (trivial) d
         iterate 9 (intro w L f hC hLi hLd hLn ⟨_,d,_⟩;refine aI.dead (show ak _ (f 109)=false by rw[show f 109=_ from d];rfl) (hC) ?_ (trivial);exact rfl)
         ·intro w L f hC hLi hLd hLn ⟨_,_,d,_⟩;refine aI.dead (show ak _ (f 109)=false by rw[show f 109=_ from d];rfl) (hC) ?_ (trivial);exact rfl
         iterate 3 (intro w L f hC hLi hLd hLn ⟨_,d,_⟩;refine aI.dead (show ak _ (f 109)=false by rw[show f 109=_ from d];rfl) (hC) ?_ (trivial);exact rfl)
         ·intro w L f hC hLi hLd hLn ⟨a,b,_⟩;change _=_ at a b;refine au.live rfl ?_;obtain⟨u0,u1,u2,u3,u4,u5,u6,u7,ufz⟩:=hC.facts;obtain⟨ev,ec,ef⟩:=evs f;refine aj ?_ hC trivial rfl;go_simp
         ·intro w L f hC hLi hLd hLn ⟨d,_⟩;refine au.live rfl ?_;exact aj (v:=f 123) rfl (hC) (trivial) d
        intro x w' hC hV
        have e0:x 30= .bool nb:=(hV 30 _ rfl rfl).trans (by rw[hN2.out]);clear hV;simp only[framed];rw[e0];have hC:=Za hC;go_wp2_with fail
        go_meet
        case rel=>exact⟨rfl,hC⟩
       |true=>
        by_cases hi2:s.i+1<C.tk.length
        case neg=>
         have hi2':¬((s.i:Int)+1<(C.tk.length:Int)):=by omega
         have hN2:Hid (nb=false):=Za (by rw[hnb.out,decide_eq_false hi2];simp);replace hn:=Za hn;refine aC ((eqv (.pointer (some ⟨Z.g,0,none⟩)))::(eqv (.bool true))::(eqv (.bool true))::(eqv (.pointer (some ⟨Z.g,0,none⟩)))::(eqv (.pointer (some ⟨Z.g,0,none⟩)))::(eqv (.pointer (some ⟨Z.g,1,none⟩)))::(eqv (.int .i64 ((s.i:Int))))::(eqv (.int .i64 ((s.i:Int)+1)))::(eqv (.pointer (some ⟨Z.g,0,none⟩)))::(eqv (.pointer (some ⟨Z.g,0,none⟩)))::(eqv (.pointer (some ⟨Z.g,0,none⟩)))::(eqv (.slice Z.A C.tk.length Z.c))::(eqv (.int .i64 ((C.tk.length:Int))))::(eqv (.bool false))::(eqv (.bool false))::(eqv (.bool false))::eud::eud::eud::eud::eud::eud::eud::eud::eud::eud::eud::eud::eud::(eqv (.bool false))::(eqv (.bool false))::[])
          ((rn1 0)::(rd1 94 0)::(rd1 95 1)::(rq1 0 96 2)::(rg1 97 3 96 2)::(rg1 98 4 96 2)::(rg1 99 5 96 2)::(rg1 100 6 96 2)::(rq1 0 96 2)::(rg1 102 8 96 2)::(rg1 103 9 96 2)::(rg1 104 10 96 2)::(rg1 105 11 96 2)::⟨[(101,some 7),(106,some 12),(96,some 2)],96,[]⟩::⟨[(96,some 2),(107,some 13)],0,[]⟩::(rd1 108 14)::(rq1 0 109 15)::(rg1 110 16 109 15)::(rg1 111 17 109 15)::(rg1 112 18 109 15)::(rq1 0 109 15)::(rg1 114 20 109 15)::(rg1 115 21 109 15)::(rg1 116 22 109 15)::(rg1 117 23 109 15)::⟨[(113,some 19),(118,some 24),(109,some 15)],109,[]⟩::(rg1 119 25 109 15)::(rg1 120 26 109 15)::(rg1 121 27 109 15)::⟨[(109,some 15),(122,some 28)],0,[]⟩::(rd1 123 29)::[])
          (no::no::no::no::no::no::no::no::no::no::no::no::no::no::no::no::no::no::no::no::no::no::no::no::no::no::no::no::no::no::no::no::no::no::no::no::no::no::no::no::no::no::no::no::no::no::no::no::no::no::no::no::no::no::no::no::no::no::no::no::no::no::no::no::no::no::no::no::no::no::no::no::no::no::no::no::no::no::no::no::no::no::no::no::no::no::no::no::no::no::no::no::no::so 30::so 0::so 1::so 2::so 3::so 4::so 5::so 6::so 7::so 8::so 9::so 10::so 11::so 12::so 13::so 14::so 15::so 16::so 17::so 18::so 19::so 20::so 21::so 22::so 23::so 24::so 25::so 26::so 27::so 28::so 29::[])
          (fun _ w'=>Moved C Z s w w') (fun _ _ _=>True) ?mixK12vtf ?okK12vtf ?tabK12vtf ?frK12vtf ?inK12vtf ?keptK12vtf ?startK12vtf ?eachK12vtf ?finK12vtf
         case mixK12vtf|okK12vtf|tabK12vtf|frK12vtf=>kernel_rfl
         case inK12vtf=>rfl
         case keptK12vtf=>((repeat refine⟨fun _ _ _ _ _ _ _ _ _ _ _ h=>h,?_⟩);exact trivial)
         case startK12vtf=>exact hgo.out.below (Below.refl _ _).drew
         case eachK12vtf=>
          repeat' first|exact trivial|refine And.intro ?_ ?_
          ·intro w L f hC hLi hLd hLn ⟨d,_⟩;refine au.live rfl ?_;exact aj (v:=f 0) rfl (hC) (trivial) d
          ·intro w L f hC hLi hLd hLn ⟨a,_⟩;change _=_ at a;refine au.live rfl ?_;obtain⟨ev,ec,ef⟩:=evs f;refine aF (f:=64) (args:= #[.pointer (some ⟨Z.g,0,none⟩)]) (w:=w) (by go_simp) (aX hC hn.out) ?_;rintro e w1 ⟨he,h1,-⟩;exact⟨_,he,h1,trivial,rfl⟩
          ·intro w L f hC hLi hLd hLn ⟨d,_⟩;refine au.live rfl ?_;exact aj (v:=f 95) rfl (hC) (trivial) d
          ·intro w L f hC hLi hLd hLn ⟨d0,d96,_⟩;change _=_ at d0 d96;refine au.live (show ak _ (f 96)=true by rw[d96];rfl) ?_;exact aj (v:=f 0) rfl (hC) (trivial) d0
          iterate 4 (intro w L f hC hLi hLd hLn ⟨a,d96,_⟩;change _=_ at a d96;refine au.live (show ak _ (f 96)=true by rw[d96];rfl) ?_;obtain⟨u0,u1,u2,u3,u4,u5,u6,u7,ufz⟩:=hC.facts;obtain⟨ev,ec,ef⟩:=evs f;refine aj ?_ hC trivial rfl;go_simp)
          ·intro w L f hC hLi hLd hLn ⟨d0,d96,_⟩;change _=_ at d0 d96;refine au.live (show ak _ (f 96)=true by rw[d96];rfl) ?_;exact aj (v:=f 0) rfl (hC) (trivial) d0
          iterate 4 (intro w L f hC hLi hLd hLn ⟨a,d96,_⟩;change _=_ at a d96;refine au.live (show ak _ (f 96)=true by rw[d96];rfl) ?_;obtain⟨u0,u1,u2,u3,u4,u5,u6,u7,ufz⟩:=hC.facts;obtain⟨ev,ec,ef⟩:=evs f;refine aj ?_ hC trivial rfl;go_simp)
          ·intro w L f hC hLi hLd hLn ⟨a,b,d96,_⟩;change _=_ at a b d96;refine au.live (show ak _ (f 96)=true by rw[d96];rfl) ?_;obtain⟨u0,u1,u2,u3,u4,u5,u6,u7,ufz⟩:=hC.facts;obtain⟨ev,ec,ef⟩:=evs f;refine aj ?_ hC trivial rfl;go_simp
          ·intro w L f hC hLi hLd hLn ⟨a,b,_⟩;change _=_ at a b;refine au.live rfl ?_;obtain⟨u0,u1,u2,u3,u4,u5,u6,u7,ufz⟩:=hC.facts;obtain⟨ev,ec,ef⟩:=evs f;refine aj ?_ hC trivial rfl;go_simp
          ·intro w L f hC hLi hLd hLn ⟨d,_⟩;refine au.live rfl ?_;exact aj (v:=f 108) rfl (hC) (trivial) d
          iterate 9 (intro w L f hC hLi hLd hLn ⟨_,d,_⟩;refine aI.dead (show ak _ (f 109)=false by rw[show f 109=_ from d];rfl) (hC) ?_ (trivial);exact rfl)
          ·intro w L f hC hLi hLd hLn ⟨_,_,d,_⟩;refine aI.dead (show ak _ (f 109)=false by rw[show f 109=_ from d];rfl) (hC) ?_ (trivial);exact rfl
          iterate 3 (intro w L f hC hLi hLd hLn ⟨_,d,_⟩;refine aI.dead (show ak _ (f 109)=false by rw[show f 109=_ from d];rfl) (hC) ?_ (trivial);exact rfl)
          ·intro w L f hC hLi hLd hLn ⟨a,b,_⟩;change _=_ at a b;refine au.live rfl ?_;obtain⟨u0,u1,u2,u3,u4,u5,u6,u7,ufz⟩:=hC.facts;obtain⟨ev,ec,ef⟩:=evs f;refine aj ?_ hC trivial rfl;go_simp
          ·intro w L f hC hLi hLd hLn ⟨d,_⟩;refine au.live rfl ?_;exact aj (v:=f 123) rfl (hC) (trivial) d
         intro x w' hC hV
         have e0:x 30= .bool nb:=(hV 30 _ rfl rfl).trans (by rw[hN2.out]);clear hV;simp only[framed];rw[e0];have hC:=Za hC;go_wp2_with fail
         go_meet
         case rel=>exact⟨rfl,hC⟩
        case pos=>
         obtain⟨x1,hx1⟩:∃x,C.tk[s.i+1]? =some x:=⟨_,List.getElem?_eq_getElem hi2⟩;obtain⟨b,off,hA,hbg,_⟩:=hVV.out.at_.tok (k:=s.i) (by omega)
         have hT1:fB C (s.i+1)=x1.t:=by unfold fB;rw[hx1]
         have hN:nb=(x1.t== [40]):=by rw[hnb.out,hn,hT1,decide_eq_true hi2];rfl
         have hi2':((s.i:Int)+1<(C.tk.length:Int)):=by omega
         clear hT1;replace hn:=Za hn;replace hx1:=Za hx1;by_cases q1:x1.t= [40]
         case pos=>
          have k1:((ay x1.t).toList== [40])=true:=by rw[aH,q1];rfl
          have hN2:Hid (nb=true):=Za (by rw[hN,q1];rfl);clear hN q1
          refine aC ((eqv (.pointer (some ⟨Z.g,0,none⟩)))::(eqv (.bool true))::(eqv (.bool true))::(eqv (.pointer (some ⟨Z.g,0,none⟩)))::(eqv (.pointer (some ⟨Z.g,0,none⟩)))::(eqv (.pointer (some ⟨Z.g,1,none⟩)))::(eqv (.int .i64 ((s.i:Int))))::(eqv (.int .i64 ((s.i:Int)+1)))::(eqv (.pointer (some ⟨Z.g,0,none⟩)))::(eqv (.pointer (some ⟨Z.g,0,none⟩)))::(eqv (.pointer (some ⟨Z.g,0,none⟩)))::(eqv (.slice (some ⟨b,off,none⟩) C.tk.length Z.c))::(eqv (.int .i64 ((C.tk.length:Int))))::(eqv (.bool true))::(eqv (.bool true))::(eqv (.bool true))::(eqv (.pointer (some ⟨Z.g,0,none⟩)))::(eqv (.pointer (some ⟨Z.g,0,none⟩)))::(eqv (.pointer (some ⟨Z.g,0,none⟩)))::(eqv (.slice (some ⟨b,off,none⟩) C.tk.length Z.c))::(eqv (.pointer (some ⟨Z.g,0,none⟩)))::(eqv (.pointer (some ⟨Z.g,0,none⟩)))::(eqv (.pointer (some ⟨Z.g,1,none⟩)))::(eqv (.int .i64 ((s.i:Int))))::(eqv (.int .i64 ((s.i:Int)+1)))::(eqv (.pointer (some ⟨b,off+(s.i+1)*3,none⟩)))::(eqv (.pointer (some ⟨b,off+(s.i+1)*3+1,none⟩)))::(eqv (.string (ay x1.t)))::(eqv (.bool true))::(eqv (.bool true))::(eqv (.bool true))::[])
           ((rn1 0)::(rd1 94 0)::(rd1 95 1)::(rq1 0 96 2)::(rg1 97 3 96 2)::(rg1 98 4 96 2)::(rg1 99 5 96 2)::(rg1 100 6 96 2)::(rq1 0 96 2)::(rg1 102 8 96 2)::(rg1 103 9 96 2)::(rg1 104 10 96 2)::(rg1 105 11 96 2)::⟨[(101,some 7),(106,some 12),(96,some 2)],96,[]⟩::⟨[(96,some 2),(107,some 13)],0,[]⟩::(rd1 108 14)::(rq1 0 109 15)::(rg1 110 16 109 15)::(rg1 111 17 109 15)::(rg1 112 18 109 15)::(rq1 0 109 15)::(rg1 114 20 109 15)::(rg1 115 21 109 15)::(rg1 116 22 109 15)::(rg1 117 23 109 15)::⟨[(113,some 19),(118,some 24),(109,some 15)],109,[]⟩::(rg1 119 25 109 15)::(rg1 120 26 109 15)::(rg1 121 27 109 15)::⟨[(109,some 15),(122,some 28)],0,[]⟩::(rd1 123 29)::[])
           (no::no::no::no::no::no::no::no::no::no::no::no::no::no::no::no::no::no::no::no::no::no::no::no::no::no::no::no::no::no::no::no::no::no::no::no::no::no::no::no::no::no::no::no::no::no::no::no::no::no::no::no::no::no::no::no::no::no::no::no::no::no::no::no::no::no::no::no::no::no::no::no::no::no::no::no::no::no::no::no::no::no::no::no::no::no::no::no::no::no::no::no::no::so 30::so 0::so 1::so 2::so 3::so 4::so 5::so 6::so 7::so 8::so 9::so 10::so 11::so 12::so 13::so 14::so 15::so 16::so 17::so 18::so 19::so 20::so 21::so 22::so 23::so 24::so 25::so 26::so 27::so 28::so 29::[])
           (fun _ w'=>Moved C Z s w w') (fun _ _ _=>True) ?mixK12vttt ?okK12vttt ?tabK12vttt ?frK12vttt ?inK12vttt ?keptK12vttt ?startK12vttt ?eachK12vttt ?finK12vttt
          case mixK12vttt|okK12vttt|tabK12vttt|frK12vttt=>kernel_rfl
          case inK12vttt=>rfl
          case keptK12vttt=>((repeat refine⟨fun _ _ _ _ _ _ _ _ _ _ _ h=>h,?_⟩);exact trivial)
          case startK12vttt=>exact hgo.out.below (Below.refl _ _).drew
          case eachK12vttt=>
           repeat' first|exact trivial|refine And.intro ?_ ?_
           ·intro w L f hC hLi hLd hLn ⟨d,_⟩;refine au.live rfl ?_;exact aj (v:=f 0) rfl (hC) (trivial) d
           ·intro w L f hC hLi hLd hLn ⟨a,_⟩;change _=_ at a;refine au.live rfl ?_;obtain⟨ev,ec,ef⟩:=evs f;refine aF (f:=64) (args:= #[.pointer (some ⟨Z.g,0,none⟩)]) (w:=w) (by go_simp) (aX hC hn.out) ?_;rintro e w1 ⟨he,h1,-⟩;exact⟨_,he,h1,trivial,rfl⟩
           ·intro w L f hC hLi hLd hLn ⟨d,_⟩;refine au.live rfl ?_;exact aj (v:=f 95) rfl (hC) (trivial) d
           ·intro w L f hC hLi hLd hLn ⟨d0,d96,_⟩;change _=_ at d0 d96;refine au.live (show ak _ (f 96)=true by rw[d96];rfl) ?_;exact aj (v:=f 0) rfl (hC) (trivial) d0
           iterate 4 (intro w L f hC hLi hLd hLn ⟨a,d96,_⟩;change _=_ at a d96;refine au.live (show ak _ (f 96)=true by rw[d96];rfl) ?_;obtain⟨u0,u1,u2,u3,u4,u5,u6,u7,ufz⟩:=hC.facts;obtain⟨ev,ec,ef⟩:=evs f;refine aj ?_ hC trivial rfl;go_simp)
           ·intro w L f hC hLi hLd hLn ⟨d0,d96,_⟩;change _=_ at d0 d96;refine au.live (show ak _ (f 96)=true by rw[d96];rfl) ?_;exact aj (v:=f 0) rfl (hC) (trivial) d0
           iterate 4 (intro w L f hC hLi hLd hLn ⟨a,d96,_⟩;change _=_ at a d96;refine au.live (show ak _ (f 96)=true by rw[d96];rfl) ?_;obtain⟨u0,u1,u2,u3,u4,u5,u6,u7,ufz⟩:=hC.facts;obtain⟨ev,ec,ef⟩:=evs f;refine aj ?_ hC trivial rfl;go_simp)
           ·intro w L f hC hLi hLd hLn ⟨a,b,d96,_⟩;change _=_ at a b d96;refine au.live (show ak _ (f 96)=true by rw[d96];rfl) ?_;obtain⟨u0,u1,u2,u3,u4,u5,u6,u7,ufz⟩:=hC.facts;obtain⟨ev,ec,ef⟩:=evs f;refine aj ?_ hC trivial rfl;go_simp
           ·intro w L f hC hLi hLd hLn ⟨a,b,_⟩;change _=_ at a b;refine au.live rfl ?_;obtain⟨u0,u1,u2,u3,u4,u5,u6,u7,ufz⟩:=hC.facts;obtain⟨ev,ec,ef⟩:=evs f;refine aj ?_ hC trivial rfl;go_simp
           ·intro w L f hC hLi hLd hLn ⟨d,_⟩;refine au.live rfl ?_;exact aj (v:=f 108) rfl (hC) (trivial) d
           ·intro w L f hC hLi hLd hLn ⟨d0,d109,_⟩;change _=_ at d0 d109;refine au.live (show ak _ (f 109)=true by rw[d109];rfl) ?_;exact aj (v:=f 0) rfl (hC) (trivial) d0
           iterate 3 (intro w L f hC hLi hLd hLn ⟨a,d109,_⟩;change _=_ at a d109;refine au.live (show ak _ (f 109)=true by rw[d109];rfl) ?_;obtain⟨u0,u1,u2,u3,u4,u5,u6,u7,ufz⟩:=hC.facts;obtain⟨ev,ec,ef⟩:=evs f;refine aj ?_ hC trivial rfl;go_simp)
           ·intro w L f hC hLi hLd hLn ⟨d0,d109,_⟩;change _=_ at d0 d109;refine au.live (show ak _ (f 109)=true by rw[d109];rfl) ?_;exact aj (v:=f 0) rfl (hC) (trivial) d0
           iterate 4 (intro w L f hC hLi hLd hLn ⟨a,d109,_⟩;change _=_ at a d109;refine au.live (show ak _ (f 109)=true by rw[d109];rfl) ?_;obtain⟨u0,u1,u2,u3,u4,u5,u6,u7,ufz⟩:=hC.facts;obtain⟨ev,ec,ef⟩:=evs f;refine aj ?_ hC trivial rfl;go_simp)
           ·intro w L f hC hLi hLd hLn ⟨a,b,d109,_⟩;change _=_ at a b d109;refine au.live (show ak _ (f 109)=true by rw[d109];rfl) ?_;obtain⟨u0,u1,u2,u3,u4,u5,u6,u7,ufz⟩:=hC.facts;obtain⟨ev,ec,ef⟩:=evs f;refine aj ?_ hC trivial rfl;go_simp
           ·intro w L f hC hLi hLd hLn ⟨a,d109,_⟩;change _=_ at a d109;refine au.live (show ak _ (f 109)=true by rw[d109];rfl) ?_;obtain⟨u0,u1,u2,u3,u4,u5,u6,u7,ufz⟩:=hC.facts;obtain⟨ev,ec,ef⟩:=evs f;refine aj ?_ hC trivial rfl;go_simp
           ·intro w L f hC hLi hLd hLn ⟨a,d109,_⟩;change _=_ at a d109;refine au.live (show ak _ (f 109)=true by rw[d109];rfl) ?_;obtain⟨u0,u1,u2⟩:=hC.tok hx1.out hA;obtain⟨ev,ec,ef⟩:=evs f;refine aj ?_ hC trivial rfl;go_simp
           ·intro w L f hC hLi hLd hLn ⟨a,d109,_⟩;change _=_ at a d109;refine au.live (show ak _ (f 109)=true by rw[d109];rfl) ?_;obtain⟨u0,u1,u2,u3,u4,u5,u6,u7,ufz⟩:=hC.facts;obtain⟨ev,ec,ef⟩:=evs f;refine aj ?_ hC trivial rfl;go_simp
           ·intro w L f hC hLi hLd hLn ⟨a,b,_⟩;change _=_ at a b;refine au.live rfl ?_;obtain⟨u0,u1,u2,u3,u4,u5,u6,u7,ufz⟩:=hC.facts;obtain⟨ev,ec,ef⟩:=evs f;refine aj ?_ hC trivial rfl;go_simp
           ·intro w L f hC hLi hLd hLn ⟨d,_⟩;refine au.live rfl ?_;exact aj (v:=f 123) rfl (hC) (trivial) d
          intro x w' hC hV
          have e0:x 30= .bool nb:=(hV 30 _ rfl rfl).trans (by rw[hN2.out]);clear hV;simp only[framed];rw[e0];have hC:=Za hC;go_wp2_with fail
          go_meet
          case rel=>exact⟨rfl,hC⟩
         case neg=>
          have k1:((ay x1.t).toList== [40])=false:=by rw[aH];simpa using q1
          have hN2:Hid (nb=false):=Za (by rw[hN];simpa using q1);clear hN q1
          refine aC ((eqv (.pointer (some ⟨Z.g,0,none⟩)))::(eqv (.bool true))::(eqv (.bool true))::(eqv (.pointer (some ⟨Z.g,0,none⟩)))::(eqv (.pointer (some ⟨Z.g,0,none⟩)))::(eqv (.pointer (some ⟨Z.g,1,none⟩)))::(eqv (.int .i64 ((s.i:Int))))::(eqv (.int .i64 ((s.i:Int)+1)))::(eqv (.pointer (some ⟨Z.g,0,none⟩)))::(eqv (.pointer (some ⟨Z.g,0,none⟩)))::(eqv (.pointer (some ⟨Z.g,0,none⟩)))::(eqv (.slice (some ⟨b,off,none⟩) C.tk.length Z.c))::(eqv (.int .i64 ((C.tk.length:Int))))::(eqv (.bool true))::(eqv (.bool true))::(eqv (.bool true))::(eqv (.pointer (some ⟨Z.g,0,none⟩)))::(eqv (.pointer (some ⟨Z.g,0,none⟩)))::(eqv (.pointer (some ⟨Z.g,0,none⟩)))::(eqv (.slice (some ⟨b,off,none⟩) C.tk.length Z.c))::(eqv (.pointer (some ⟨Z.g,0,none⟩)))::(eqv (.pointer (some ⟨Z.g,0,none⟩)))::(eqv (.pointer (some ⟨Z.g,1,none⟩)))::(eqv (.int .i64 ((s.i:Int))))::(eqv (.int .i64 ((s.i:Int)+1)))::(eqv (.pointer (some ⟨b,off+(s.i+1)*3,none⟩)))::(eqv (.pointer (some ⟨b,off+(s.i+1)*3+1,none⟩)))::(eqv (.string (ay x1.t)))::(eqv (.bool false))::(eqv (.bool false))::(eqv (.bool false))::[])
           ((rn1 0)::(rd1 94 0)::(rd1 95 1)::(rq1 0 96 2)::(rg1 97 3 96 2)::(rg1 98 4 96 2)::(rg1 99 5 96 2)::(rg1 100 6 96 2)::(rq1 0 96 2)::(rg1 102 8 96 2)::(rg1 103 9 96 2)::(rg1 104 10 96 2)::(rg1 105 11 96 2)::⟨[(101,some 7),(106,some 12),(96,some 2)],96,[]⟩::⟨[(96,some 2),(107,some 13)],0,[]⟩::(rd1 108 14)::(rq1 0 109 15)::(rg1 110 16 109 15)::(rg1 111 17 109 15)::(rg1 112 18 109 15)::(rq1 0 109 15)::(rg1 114 20 109 15)::(rg1 115 21 109 15)::(rg1 116 22 109 15)::(rg1 117 23 109 15)::⟨[(113,some 19),(118,some 24),(109,some 15)],109,[]⟩::(rg1 119 25 109 15)::(rg1 120 26 109 15)::(rg1 121 27 109 15)::⟨[(109,some 15),(122,some 28)],0,[]⟩::(rd1 123 29)::[])
           (no::no::no::no::no::no::no::no::no::no::no::no::no::no::no::no::no::no::no::no::no::no::no::no::no::no::no::no::no::no::no::no::no::no::no::no::no::no::no::no::no::no::no::no::no::no::no::no::no::no::no::no::no::no::no::no::no::no::no::no::no::no::no::no::no::no::no::no::no::no::no::no::no::no::no::no::no::no::no::no::no::no::no::no::no::no::no::no::no::no::no::no::no::so 30::so 0::so 1::so 2::so 3::so 4::so 5::so 6::so 7::so 8::so 9::so 10::so 11::so 12::so 13::so 14::so 15::so 16::so 17::so 18::so 19::so 20::so 21::so 22::so 23::so 24::so 25::so 26::so 27::so 28::so 29::[])
           (fun _ w'=>Moved C Z s w w') (fun _ _ _=>True) ?mixK12vttf ?okK12vttf ?tabK12vttf ?frK12vttf ?inK12vttf ?keptK12vttf ?startK12vttf ?eachK12vttf ?finK12vttf
          case mixK12vttf|okK12vttf|tabK12vttf|frK12vttf=>kernel_rfl
          case inK12vttf=>rfl
          case keptK12vttf=>((repeat refine⟨fun _ _ _ _ _ _ _ _ _ _ _ h=>h,?_⟩);exact trivial)
          case startK12vttf=>exact hgo.out.below (Below.refl _ _).drew
          case eachK12vttf=>
           repeat' first|exact trivial|refine And.intro ?_ ?_
           ·intro w L f hC hLi hLd hLn ⟨d,_⟩;refine au.live rfl ?_;exact aj (v:=f 0) rfl (hC) (trivial) d
           ·intro w L f hC hLi hLd hLn ⟨a,_⟩;change _=_ at a;refine au.live rfl ?_;obtain⟨ev,ec,ef⟩:=evs f;refine aF (f:=64) (args:= #[.pointer (some ⟨Z.g,0,none⟩)]) (w:=w) (by go_simp) (aX hC hn.out) ?_;rintro e w1 ⟨he,h1,-⟩;exact⟨_,he,h1,trivial,rfl⟩
           ·intro w L f hC hLi hLd hLn ⟨d,_⟩;refine au.live rfl ?_;exact aj (v:=f 95) rfl (hC) (trivial) d
           ·intro w L f hC hLi hLd hLn ⟨d0,d96,_⟩;change _=_ at d0 d96;refine au.live (show ak _ (f 96)=true by rw[d96];rfl) ?_;exact aj (v:=f 0) rfl (hC) (trivial) d0
           iterate 4 (intro w L f hC hLi hLd hLn ⟨a,d96,_⟩;change _=_ at a d96;refine au.live (show ak _ (f 96)=true by rw[d96];rfl) ?_;obtain⟨u0,u1,u2,u3,u4,u5,u6,u7,ufz⟩:=hC.facts;obtain⟨ev,ec,ef⟩:=evs f;refine aj ?_ hC trivial rfl;go_simp)
           ·intro w L f hC hLi hLd hLn ⟨d0,d96,_⟩;change _=_ at d0 d96;refine au.live (show ak _ (f 96)=true by rw[d96];rfl) ?_;exact aj (v:=f 0) rfl (hC) (trivial) d0
           iterate 4 (intro w L f hC hLi hLd hLn ⟨a,d96,_⟩;change _=_ at a d96;refine au.live (show ak _ (f 96)=true by rw[d96];rfl) ?_;obtain⟨u0,u1,u2,u3,u4,u5,u6,u7,ufz⟩:=hC.facts;obtain⟨ev,ec,ef⟩:=evs f;refine aj ?_ hC trivial rfl;go_simp)
           ·intro w L f hC hLi hLd hLn ⟨a,b,d96,_⟩;change _=_ at a b d96;refine au.live (show ak _ (f 96)=true by rw[d96];rfl) ?_;obtain⟨u0,u1,u2,u3,u4,u5,u6,u7,ufz⟩:=hC.facts;obtain⟨ev,ec,ef⟩:=evs f;refine aj ?_ hC trivial rfl;go_simp
           ·intro w L f hC hLi hLd hLn ⟨a,b,_⟩;change _=_ at a b;refine au.live rfl ?_;obtain⟨u0,u1,u2,u3,u4,u5,u6,u7,ufz⟩:=hC.facts;obtain⟨ev,ec,ef⟩:=evs f;refine aj ?_ hC trivial rfl;go_simp
           ·intro w L f hC hLi hLd hLn ⟨d,_⟩;refine au.live rfl ?_;exact aj (v:=f 108) rfl (hC) (trivial) d
           ·intro w L f hC hLi hLd hLn ⟨d0,d109,_⟩;change _=_ at d0 d109;refine au.live (show ak _ (f 109)=true by rw[d109];rfl) ?_;exact aj (v:=f 0) rfl (hC) (trivial) d0
           iterate 3 (intro w L f hC hLi hLd hLn ⟨a,d109,_⟩;change _=_ at a d109;refine au.live (show ak _ (f 109)=true by rw[d109];rfl) ?_;obtain⟨u0,u1,u2,u3,u4,u5,u6,u7,ufz⟩:=hC.facts;obtain⟨ev,ec,ef⟩:=evs f;refine aj ?_ hC trivial rfl;go_simp)
           ·intro w L f hC hLi hLd hLn ⟨d0,d109,_⟩;change _=_ at d0 d109;refine au.live (show ak _ (f 109)=true by rw[d109];rfl) ?_;exact aj (v:=f 0) rfl (hC) (trivial) d0
           iterate 4 (intro w L f hC hLi hLd hLn ⟨a,d109,_⟩;change _=_ at a d109;refine au.live (show ak _ (f 109)=true by rw[d109];rfl) ?_;obtain⟨u0,u1,u2,u3,u4,u5,u6,u7,ufz⟩:=hC.facts;obtain⟨ev,ec,ef⟩:=evs f;refine aj ?_ hC trivial rfl;go_simp)
           ·intro w L f hC hLi hLd hLn ⟨a,b,d109,_⟩;change _=_ at a b d109;refine au.live (show ak _ (f 109)=true by rw[d109];rfl) ?_;obtain⟨u0,u1,u2,u3,u4,u5,u6,u7,ufz⟩:=hC.facts;obtain⟨ev,ec,ef⟩:=evs f;refine aj ?_ hC trivial rfl;go_simp
           ·intro w L f hC hLi hLd hLn ⟨a,d109,_⟩;change _=_ at a d109;refine au.live (show ak _ (f 109)=true by rw[d109];rfl) ?_;obtain⟨u0,u1,u2,u3,u4,u5,u6,u7,ufz⟩:=hC.facts;obtain⟨ev,ec,ef⟩:=evs f;refine aj ?_ hC trivial rfl;go_simp
           ·intro w L f hC hLi hLd hLn ⟨a,d109,_⟩;change _=_ at a d109;refine au.live (show ak _ (f 109)=true by rw[d109];rfl) ?_;obtain⟨u0,u1,u2⟩:=hC.tok hx1.out hA;obtain⟨ev,ec,ef⟩:=evs f;refine aj ?_ hC trivial rfl;go_simp
           ·intro w L f hC hLi hLd hLn ⟨a,d109,_⟩;change _=_ at a d109;refine au.live (show ak _ (f 109)=true by rw[d109];rfl) ?_;obtain⟨u0,u1,u2,u3,u4,u5,u6,u7,ufz⟩:=hC.facts;obtain⟨ev,ec,ef⟩:=evs f;refine aj ?_ hC trivial rfl;go_simp
           ·intro w L f hC hLi hLd hLn ⟨a,b,_⟩;change _=_ at a b;refine au.live rfl ?_;obtain⟨u0,u1,u2,u3,u4,u5,u6,u7,ufz⟩:=hC.facts;obtain⟨ev,ec,ef⟩:=evs f;refine aj ?_ hC trivial rfl;go_simp
           ·intro w L f hC hLi hLd hLn ⟨d,_⟩;refine au.live rfl ?_;exact aj (v:=f 123) rfl (hC) (trivial) d
          intro x w' hC hV
          have e0:x 30= .bool nb:=(hV 30 _ rfl rfl).trans (by rw[hN2.out]);clear hV;simp only[framed];rw[e0];have hC:=Za hC;go_wp2_with fail
          go_meet
          case rel=>exact⟨rfl,hC⟩
      case rest=>
       obtain⟨rfl,Gx⟩:=hcut
       cases hnbv:nb with
       |true=>
        obtain⟨y,hy⟩:∃y,y=(aK C s).1:=⟨_,rfl⟩;obtain⟨s2,hs2⟩:∃y,y=(aK C s).2:=⟨_,rfl⟩;have hnf:Hid (aK C s=(y,s2)):=Za (by rw[hy,hs2]);have hnx:=hnb.out;rw[hnbv]at hnx
        have hi3:s2.i<C.tk.length:=by
         have:=jh hnx.symm;have h3:=this.i2;have h4:=this.i1;rw[hs2];have hlt:=hnx;simp only[Bool.true_eq,Bool.and_eq_true,decide_eq_true_eq]at hlt
         have e:(aK C s).2=s.next:=by unfold aK;rw[if_pos hlt.1]
         rw[e];exact hlt.2.1
        have hd2:m≤s2.next.deep:=by rw[hs2];simp only[PS.next];rw[(Stp.name (C:=C) s).dp];exact hm
        obtain⟨r,hr⟩:∃y,y=jg C (sum C) s2.next:=⟨_,rfl⟩;replace hF:Hid (R=({hdx n x with k:=8,y:=y,args:=r.1},r.2)):=Za (by rw[hF.out,hnav,hnbv,if_neg (by simp),if_pos rfl,hr,hs2,hy]);replace hr:=Za hr;clear hnx hy hs2 hnav hna hnb hnbv;go_wp2_with fail;refine(dR Gx.out hnf.out).mono ?_;rintro e w2 ⟨rfl,q2,hyl,-⟩;have hV2:=hVV.out.call q2;obtain⟨f1,fz⟩:=hV2.facts;have f0:=hV2.fact 0 rfl;have f2:=hV2.fact 2 rfl;have hV4:=(hV2.store 0 (.int .i64 8)).store 2 (.string (ay y));obtain⟨w4,hw4⟩:∃ww,ww=(w2.setCell ⟨gs,0,none⟩ (.int .i64 8)).setCell ⟨gs,2,none⟩ (.string (ay y)):=⟨_,rfl⟩;rw[←hw4]at hV4;clear q2 hV2;go_upto_region 14 with(fail);rw[←hw4];clear hw4 f1 fz f0 f2;obtain⟨a0,d0,d1,d2,d3,d4,d5,d6,dfz⟩:=hV4.mv.facts;have hi4:=hV4.at_.bounds.2.2.1;replace hV4:=Za hV4;have hw1:=dh (i:=s2.i) (by omega);have hag:=u_ m sum hsum hs C Z _ s2.next (hV4.out.mv.next hi3).at_ hd2;rw[←hr.out]at hag;replace hag:=Za hag;go_wp2_with fail;refine hag.out.mono ?_;clear hag;rintro e w5 ⟨va,rfl,q5,hE5⟩;clear a0 d0 d1 d2 d3 d4 d5 d6 dfz hw1
        have hV5:=hV4.out.call ((hV4.out.mv.next hi3).trans q5);have hE6:=hE5.ge (B:=w.heap.size) (Nat.le_trans hV4.out.wr.size (Nat.le_of_eq (gV _ _ _).symm));obtain⟨f1,fz⟩:=hV5.facts;have f6:=hV5.fact 6 rfl;have hE7:=hE6.st hlow 6 va;obtain⟨A5,c5,vs5,e5,_⟩:=hE7;replace hV5:=Za hV5;have hE7:=Za (hE6.st hlow 6 va);replace e5:=Za e5;clear hE5 q5 hE6;rw[e5.out];go_wp2_with fail;go_end0;rw[hF.out,←e5.out];exact⟨rfl,_,_,_,_,hV5.out.store 6 va,aJ.nil_ _ _,aJ.nil_ _ _,bC.nil_ _ _,hE7.out,hx,hyl,by simp,hn⟩
       |false=>
        obtain⟨r,hr⟩:∃y,y=sum C s:=⟨_,rfl⟩;replace hF:Hid (R=({hdx n x with k:=0,e:=r.1},r.2)):=Za (by rw[hF.out,hnav,hnbv,if_neg (by simp),if_neg (by simp),hr]);replace hr:=Za hr;clear hnav hna hnb hnbv;go_wp2_with fail;refine(hsum.from_ Gx.out hm hr.out.symm).mono ?_;rintro e w5 ⟨p,rfl,q5,hE5,-⟩;have hV5:=hVV.out.call q5;obtain⟨f1,fz⟩:=hV5.facts;have f0:=hV5.fact 0 rfl;have f3:=hV5.fact 3 rfl;replace hV5:=Za hV5;replace hE5:=Za hE5;clear q5;go_wp2_with fail;go_end0;rw[hF.out];exact⟨rfl,_,_,_,_,(hV5.out.store 0 _).store 3 _,(hE5.out.st hlow 0 _).st hlow 3 _,aJ.nil_ _ _,bC.nil_ _ _,aZ.nil_ _ _,hx,by simp[hdx,hd0],by simp,hn⟩
def aN (w:World) (S:Nat→Prop):Sl→List Value→Prop
 | .nil,vs=>vs= []
 | .cons h t e r,vs=>∃ve vf vc va vt vl vs',vs=(h.cells ve vf vc va vt vl).toList++vs'∧dn w S h ve vf vc va∧
   (∃A c us,vt= .slice A t.len c∧t.len≤100000∧t.len≤c∧bI w S A us∧aN w S t us)∧
   (∃A c us,vl= .slice A e.len c∧e.len≤100000∧e.len≤c∧bI w S A us∧aN w S e us)∧aN w S r vs'
def aQ (w:World) (S:Nat→Prop) (l:Sl) (v:Value):Prop:=∃A c us,v= .slice A l.len c∧l.len≤100000∧l.len≤c∧bI w S A us∧aN w S l us
section
variable {w w':World} {S S':Nat→Prop}
theorem aN.keep (hk:∀x,x<w.heap.size→S x→w'.heap[x]? =w.heap[x]?):∀{l:Sl} {vs:List Value},aN w S l vs→aN w' S l vs
 | .nil,_,h=>h
 | .cons _ _ _ _,_,h=>by obtain⟨ve,vf,vc,va,vt,vl,vs',e,hH,⟨A,c,us,e1,l1,l2,r1,t1⟩,⟨A',c',us',e2,l3,l4,r2,t2⟩,hr⟩:=h;exact⟨ve,vf,vc,va,vt,vl,vs',e,hH.keep hk,⟨A,c,us,e1,l1,l2,r1.keep hk,aN.keep hk t1⟩,⟨A',c',us',e2,l3,l4,r2.keep hk,aN.keep hk t2⟩,aN.keep hk hr⟩
theorem aN.mono (hk:∀x,x<w.heap.size→S x→S' x):∀{l:Sl} {vs:List Value},aN w S l vs→aN w S' l vs
 | .nil,_,h=>h
 | .cons _ _ _ _,_,h=>by obtain⟨ve,vf,vc,va,vt,vl,vs',e,hH,⟨A,c,us,e1,l1,l2,r1,t1⟩,⟨A',c',us',e2,l3,l4,r2,t2⟩,hr⟩:=h;exact⟨ve,vf,vc,va,vt,vl,vs',e,hH.mono hk,⟨A,c,us,e1,l1,l2,r1.mono hk,aN.mono hk t1⟩,⟨A',c',us',e2,l3,l4,r2.mono hk,aN.mono hk t2⟩,aN.mono hk hr⟩
theorem aN.length:∀{l:Sl} {vs:List Value},aN w S l vs→vs.length=l.len*10
 | .nil,_,h=>by rw[show _= []from h];rfl
 | .cons _ _ _ r,_,h=>by obtain⟨ve,vf,vc,va,vt,vl,vs',rfl,hH,_,_,hr⟩:=h;have:=aN.length hr;simp only[List.length_append,this,Hd.cells,Sl.len];simp;omega
theorem aN.snoc:∀{l:Sl} {vs:List Value},aN w S l vs→∀{h:Hd} {t e:Sl} {ve vf vc va vt vl:Value},dn w S h ve vf vc va→aQ w S t vt→aQ w S e vl→aN w S (l.snoc h t e) (vs++(h.cells ve vf vc va vt vl).toList)
 | .nil,_,hl,h,t,e,ve,vf,vc,va,vt,vl,h1,h2,h3=>by rw[show _= []from hl];exact⟨ve,vf,vc,va,vt,vl,[],by simp,h1,h2,h3,rfl⟩
 | .cons _ _ _ _,_,hl,h,t,e,ve,vf,vc,va,vt,vl,h1,h2,h3=>by obtain⟨ve0,vf0,vc0,va0,vt0,vl0,vs',rfl,hH,x1,x2,hr⟩:=hl;exact⟨ve0,vf0,vc0,va0,vt0,vl0,vs'++(h.cells ve vf vc va vt vl).toList,by rw[List.append_assoc],hH,x1,x2,aN.snoc hr h1 h2 h3⟩
variable {l:Sl} {v:Value}
theorem aQ.keep (hk:∀x,x<w.heap.size→S x→w'.heap[x]? =w.heap[x]?) (h:aQ w S l v):aQ w' S l v:=by
 obtain⟨A,c,us,e,h1,h2,h3,h4⟩:=h;exact⟨A,c,us,e,h1,h2,h3.keep hk,h4.keep hk⟩
theorem aQ.mono (hk:∀x,x<w.heap.size→S x→S' x) (h:aQ w S l v):aQ w S' l v:=by
 obtain⟨A,c,us,e,h1,h2,h3,h4⟩:=h;exact⟨A,c,us,e,h1,h2,h3.mono hk,h4.mono hk⟩
theorem aQ.below (h:aQ w S l v) (hb:Below w.heap.size w w'):aQ w' S l v:=h.keep fun x hx _=>hb.block x hx
theorem aQ.ge {B B':Nat} (h:aQ w (Ge B') l v) (hB:B≤B'):aQ w (Ge B) l v:=h.mono fun _ _ h=>Nat.le_trans hB h
theorem aQ.pw {B g:Nat} (h:aQ w (Ge B) l v) (hW:Writes [some g] w w') (hg:g<B):aQ w' (Ge B) l v:=
 h.keep fun x hx hS=>hW.block x hx (fun e=>by simp at e;subst e;exact absurd hS (Nat.not_le_of_lt hg))
theorem aQ.st {B g:Nat} (h:aQ w (Ge B) l v) (hg:g<B) (i:Nat) (u:Value):aQ (w.setCell ⟨g,i,none⟩ u) (Ge B) l v:=h.pw (Writes.store w (by simp) u) hg
theorem aQ.nil_ (w:World) (S:Nat→Prop):aQ w S .nil (.slice none 0 0):=⟨none,0,[],rfl,by simp[Sl.len],by simp[Sl.len],bI.nil_ _ _ _,rfl⟩
theorem aQ.jr (h:aQ w S l v):∃A c,v= .slice A l.len c:=by
 obtain⟨A,c,us,e,_⟩:=h;exact⟨A,c,e⟩
theorem dn.pw {B g:Nat} {h:Hd} {ve vf vc va:Value} (H:dn w (Ge B) h ve vf vc va) (hW:Writes [some g] w w') (hg:g<B):dn w' (Ge B) h ve vf vc va:=
 H.keep fun x hx hS=>hW.block x hx (fun e=>by simp at e;subst e;exact absurd hS (Nat.not_le_of_lt hg))
theorem dn.st {B g:Nat} {h:Hd} {ve vf vc va:Value} (H:dn w (Ge B) h ve vf vc va) (hg:g<B) (i:Nat) (u:Value):dn (w.setCell ⟨g,i,none⟩ u) (Ge B) h ve vf vc va:=H.pw (Writes.store w (by simp) u) hg
theorem dn.ge {B B':Nat} {h:Hd} {ve vf vc va:Value} (H:dn w (Ge B') h ve vf vc va) (hB:B≤B'):dn w (Ge B) h ve vf vc va:=H.mono fun _ _ h=>Nat.le_trans hB h
end
def iD (C:PC) (L:PL) (r:(Hd×Sl×Sl)×PS) (w:World) (e:Ending) (w':World):Prop:=
 ∃ve vf vc va vt vl,e= .returned (.agg (r.1.1.cells ve vf vc va vt vl))∧Moved C L r.2 w w'∧dn w' (Ge w.heap.size) r.1.1 ve vf vc va∧aQ w' (Ge w.heap.size) r.1.2.1 vt∧aQ w' (Ge w.heap.size) r.1.2.2 vl
def sN (C:PC) (L:PL) (r:Sl×PS) (w:World) (e:Ending) (w':World):Prop:=∃v,e= .returned v∧Moved C L r.2 w w'∧aQ w' (Ge w.heap.size) r.1 v
theorem fD {fn:Func} {p:Tmp} {ty:TypeId} {R:Ending→World→Prop} {a:Act} {w:World} {g:Nat} {t:TypeId} {cs:Array Value} {fs:Array Field} (h:fn.results= #[.cell p ty]) (hd0:a.defers= []) (hp:a.tmps.getD p undef= .pointer (some ⟨g,0,none⟩))
  (hg:Holds w g t cs) (hu:Tryz.prog.underlying ty=some (.struct fs)) (hi:(Tryz.prog.info? ty).map (·.size)=some cs.size)
  (hR:R (.returned (.agg cs)) w):bodyPost Tryz.prog fn R .ret a w:=by
 refine bodyPost_ret_by (v:= .agg cs) ?_ hd0 hR
 have hp':a.tmps[p]?.getD undef= .pointer (some ⟨g,0,none⟩):=by simpa[Array.getD_eq_getD_getElem?]using hp
 simp[results,h,hp',asAddr,run_loadVar_row w g t ty cs (0,0) _ hg hu rfl hi]
theorem Tryz.sStmt:(Tryz.prog.info? 63).map (·.size)=some 10:=by kernel_rfl
def nV (w:World) (g:Nat) (c0 c1 c2 c3 c4 c5 c6 c7 c8 c9:Value):World:=
 (((((((((w.setCell ⟨g,0,none⟩ c0).setCell ⟨g,1,none⟩ c1).setCell ⟨g,2,none⟩ c2).setCell ⟨g,3,none⟩ c3).setCell ⟨g,4,none⟩ c4).setCell ⟨g,5,none⟩ c5).setCell ⟨g,6,none⟩ c6).setCell ⟨g,7,none⟩ c7).setCell ⟨g,8,none⟩ c8).setCell ⟨g,9,none⟩ c9
theorem cO {w:World} {g:Nat} {t:TypeId} {a0 a1 a2 a3 a4 a5 a6 a7 a8 a9:Value} (h:Holds w g t #[a0,a1,a2,a3,a4,a5,a6,a7,a8,a9]) (c0 c1 c2 c3 c4 c5 c6 c7 c8 c9:Value):
  Holds (nV w g c0 c1 c2 c3 c4 c5 c6 c7 c8 c9) g t #[c0,c1,c2,c3,c4,c5,c6,c7,c8,c9]:=by
 unfold nV;have:=(((((((((h.store 0 c0).store 1 c1).store 2 c2).store 3 c3).store 4 c4).store 5 c5).store 6 c6).store 7 c7).store 8 c8).store 9 c9;simpa using this
theorem bU (w:World) (g:Nat) (c0 c1 c2 c3 c4 c5 c6 c7 c8 c9:Value):Writes [some g] w (nV w g c0 c1 c2 c3 c4 c5 c6 c7 c8 c9):=by
 unfold nV;exact((((((((((Writes.store w (by simp) c0).trans (Writes.store _ (by simp) c1)).trans (Writes.store _ (by simp) c2)).trans (Writes.store _ (by simp) c3)).trans (Writes.store _ (by simp) c4)).trans (Writes.store _ (by simp) c5)).trans (Writes.store _ (by simp) c6)).trans (Writes.store _ (by simp) c7)).trans (Writes.store _ (by simp) c8)).trans (Writes.store _ (by simp) c9))
theorem iD.of {C:PC} {Z:PL} {gs gr:Nat} {s2:PS} {h:Hd} {t e:Sl} {ve vf vc va vt vl:Value} {w wa w1 w2:World} (hV:VS C Z gs s2 (h.cells ve vf vc va vt vl) wa w1) (hH:dn w1 (Ge wa.heap.size) h ve vf vc va) (ht:aQ w1 (Ge wa.heap.size) t vt) (hl:aQ w1 (Ge wa.heap.size) e vl)
  (hz:Z.g<w.heap.size) (hb:Below w.heap.size w wa) (hgr:w.heap.size≤gr) (hgs:w.heap.size≤gs) (hgl:gr<wa.heap.size) (hW:Writes [some gr] w1 w2):iD C Z ((h,t,e),s2) w (.returned (.agg (h.cells ve vf vc va vt vl))) w2:=by
 refine⟨_,_,_,_,_,_,rfl,⟨hV.at_.writes hW (fun k hk=> ?_),?_⟩,(hH.pw hW hgl).ge hb.size,(ht.pw hW hgl).ge hb.size,(hl.pw hW hgl).ge hb.size⟩
 ·simp at hk;subst hk;omega
 ·refine((Writes.of_below hb [some Z.g]).then_ hV.wr (fun k hk hm=> ?_)).then_ hW (fun k hk hm=> ?_)
  ·simp at hm⊢;rcases hm with rfl|rfl
   ·rfl
   ·omega
  ·simp at hm;omega
end Go.Proofs.YtpndglghpojjkaaGreat
namespace Go.Proofs.YtpndglghpojjkaaGreat
open Go.RowKit Go.Maps Go.ChangeMaps Go.MapKept Go.WideMaps
def D8 (v:Value):Option (DataW Value×List MemPlace):=some (.held v,[])
theorem Tryz.strKeyed:Keyed Tryz.prog 9:=string_keyed Tryz.underlying9
def keyS (s:ByteArray):Lit:= .string s.data.toList
theorem DT {a b:ByteArray} (h:keyS a=keyS b):a=b:=by
 unfold keyS at h;injection h with h;have:a.data=b.data:=Array.toList_inj.1 h;cases a;cases b;simp at this;rw[this]
def vF (D:DataW Value) (f:ByteArray→Option Value):Prop:=∀k,(match f k with
 |none=>Maps.has D (keyS k)=false
 |some v=>Maps.has D (keyS k)=true∧∀z,D.atKey (keyS k) z= .held v)
def SMap (w:World) (m N:Nat) (f:ByteArray→Option Value):Prop:=∃n D,n≤N∧w.ownsMap Tryz.prog 9 D8 m n D∧vF D f
section
variable {w w':World} {m N:Nat} {f:ByteArray→Option Value}
theorem SMap.loc (h:SMap w m N f) (hb:w'.heap[m]? =w.heap[m]?):SMap w' m N f:=by
 obtain⟨n,D,hn,⟨es,clock,h1,h2⟩,hs⟩:=h;exact⟨n,D,hn,⟨es,clock,hb.trans h1,h2⟩,hs⟩
theorem SMap.lt (h:SMap w m N f):m<w.heap.size:=by
 obtain⟨n,D,hn,h1,_⟩:=h;exact h1.lt
theorem SMap.more {N':Nat} (h:SMap w m N f) (hN:N≤N'):SMap w m N' f:=by
 obtain⟨n,D,hn,h1,h2⟩:=h;exact⟨n,D,by omega,h1,h2⟩
theorem SMap.made (w:World):SMap (w.alloc (.map #[] 0)) w.heap.size 0 (fun _=>none):=⟨0,.map [],by omega,World.ownsMap_made w _ _ _,fun _=>rfl⟩
theorem vF.put {D:DataW Value} (h:vF D f) (hD:IsMap D) (k:ByteArray) (v:Value):vF (D.put (keyS k) (.held v)) (fun j=>if j=k then some v else f j):=fun j=>by
 by_cases e:j=k
 ·subst e;simp only[if_true];exact⟨has_put_same hD (by trivial) _,fun z=>atKey_put_same hD (by trivial) _ _⟩
 ·simp only[if_neg e];have hne:keyS j≠keyS k:=fun h=>e (DT h);have:=h j
  cases hf:f j with
  |none=>rw[hf]at this;simp only at this⊢;rw[has_put_other hne];exact this
  |some u=>rw[hf]at this;simp only at this⊢;rw[has_put_other hne];exact⟨this.1,fun z=>by rw[atKey_put_other hne];exact this.2 z⟩
theorem SMap.store (h:SMap w m N f) {t e:TypeId} (ht:Tryz.prog.underlying t=some (.map 9 e)) {k:ByteArray} (hk:k.size≤maxLen) (hN:N≤1000000) (v:Value):
  ∃w',(Instr.mapUpdate t (.map (some m)) (.string k) v).run Tryz.prog w= .ok () w'∧SMap w' m (N+1) (fun j=>if j=k then some v else f j)∧w.grownBy w' (some m)∧w'.heap.size=w.heap.size:=by
 obtain⟨n,D,hn,ho,hs⟩:=h;obtain⟨w',hrun,ho',ht'⟩:=ho.store (t:=t) Tryz.strKeyed ht (by unfold maxLen;omega) (keyOf_string_mk Tryz.underlying9 hk) (val:=v) (d:= .held v) (ps:= []) rfl;refine⟨w',hrun,⟨_,_,by omega,ho',hs.put ho.isMap k v⟩,ht'.grown,?_⟩;obtain⟨_,_,_,_,_,rfl⟩:=ht';simp[setBlock]
theorem SMap.look (h:SMap w m N f) {t e:TypeId} (ht:Tryz.prog.underlying t=some (.map 9 e)) {z:Value} (hz:(zeroValue e).run Tryz.prog w= .ok z w) {k:ByteArray} (hk:k.size≤maxLen):
  (Instr.lookup t (.map (some m)) (.string k) true).run Tryz.prog w= .ok (.tuple #[(f k).getD z,.bool (f k).isSome]) w∧
  (Instr.lookup t (.map (some m)) (.string k) false).run Tryz.prog w= .ok ((f k).getD z) w:=by
 obtain⟨n,D,hn,ho,hs⟩:=h;have hkey:=keyOf_string_mk (P:=Tryz.prog) Tryz.underlying9 hk;have h1:=ho.look_ok (t:=t) Tryz.strKeyed ht hz (zd:= .held z) (zp:= []) rfl hkey;have h2:=ho.lookup (t:=t) Tryz.strKeyed ht hz (zd:= .held z) (zp:= []) rfl hkey;obtain⟨v,ps,r1,e1⟩:=h1;obtain⟨v',ps',r2,e2⟩:=h2;have:=hs k;simp only[D8,Option.some.injEq,Prod.mk.injEq]at e1 e2
 cases hf:f k with
 |none=>
  rw[hf]at this;simp only[keyS]at this;rw[atKey_of_not_has this]at e1 e2;obtain⟨e1,_⟩:=e1;obtain⟨e2,_⟩:=e2;injection e1 with e1;injection e2 with e2;simp only[Option.getD_none,Option.isSome_none];exact⟨by rw[r1,this,e1],by rw[r2,e2]⟩
 |some u=>
  rw[hf]at this;simp only[keyS]at this;rw[this.2]at e1 e2;obtain⟨e1,_⟩:=e1;obtain⟨e2,_⟩:=e2;injection e1 with e1;injection e2 with e2;simp only[Option.getD_some,Option.isSome_some];exact⟨by rw[r1,this.1,e1],by rw[r2,e2]⟩
end
theorem SMap.FN {w:World} {m N:Nat} {f:ByteArray→Option Value} (h:SMap w m N f) (o:Nat):w.cell? ⟨m,o,none⟩=none:=by
 obtain⟨n,D,_,⟨es,clock,hb,_⟩,_⟩:=h;unfold World.cell?;simp[hb]
theorem SMap.Fz {w:World} {m N:Nat} {f:ByteArray→Option Value} (h:SMap w m N f) {b o:Nat} {v:Value} (hc:w.cell? ⟨b,o,none⟩=some v):b≠m:=by
 rintro rfl;rw[h.FN]at hc;cases hc
end Go.Proofs.YtpndglghpojjkaaGreat
namespace Go.Proofs.YtpndglghpojjkaaGreat
open Go.RowKit Go.Deep
def kF (K:List UInt8→Nat):ByteArray→Option Value:=fun k=>if K k.data.toList=0 then none else some (.int .i64 (K k.data.toList))
def eX (w:World) (m:Nat) (K:List UInt8→Nat):Prop:=SMap w m 300000 (kF K)
theorem eX.keep {w w':World} {m:Nat} {K:List UInt8→Nat} (h:eX w m K) (hb:w'.heap[m]? =w.heap[m]?):eX w' m K:=h.loc hb
theorem eX.below {w w':World} {m:Nat} {K:List UInt8→Nat} (h:eX w m K) (hb:Below w.heap.size w w'):eX w' m K:=h.loc (hb.block m h.lt)
theorem eX.writes {w w':World} {m:Nat} {K:List UInt8→Nat} {M:List (Option Nat)} (h:eX w m K) (hW:Writes M w w') (hM:some m∉M):eX w' m K:=h.loc (hW.block m h.lt hM)
theorem kH (n k:Nat):(((n:Nat):Int)==(k:Int))=(n==k):=by
 by_cases e:n=k
 ·simp[e]
 ·have:(n:Int)≠(k:Int):=by omega
  rw[beq_eq_false_iff_ne.2 this,beq_eq_false_iff_ne.2 e]
theorem Tryz.intZero:∀w,(zeroValue 3).run Tryz.prog w= .ok (.int .i64 0) w:=fun w=>by kernel_rfl
theorem eX.look {w:World} {m:Nat} {K:List UInt8→Nat} (h:eX w m K) {x:List UInt8} (hx:x.length≤4096):
  (Instr.lookup 81 (.map (some m)) (.string (ay x)) false).run Tryz.prog w= .ok (.int .i64 (K x)) w:=by
 have h2:=(SMap.look h Tryz.underlying81 (Tryz.intZero w) (k:=ay x) (by simp[ay,ByteArray.size,maxLen];omega)).2
 have e1:(ay x).data.toList=x:=by simp[ay]
 have e2:(kF K (ay x)).getD (.int .i64 0)= .int .i64 (K x):=by
  unfold kF;rw[e1];by_cases e:K x=0
  ·rw[if_pos e,e];rfl
  ·rw[if_neg e];rfl
 rw[h2,e2]
theorem bM (w:World) (m:Nat) (K:List UInt8→Nat) (h:eX w m K) (x:List UInt8) (hx:x.length≤4096):
  Calls Tryz.prog 85 #[.agg #[.map (some m)],.string (ay x)] w fun e w'=>e= .returned (.bool (K x==2))∧Below w.heap.size w w':=by
 have hb:=aA w (.cells #[.map (some m)] 83);have hl:=(h.below hb).look hx;have hB:=Za hb;clear hb;go_enter Tryz.func85,Tryz.ntmps85;go_wp2_with fail;go_ret;exact⟨congrArg (fun b=>Ending.returned (.bool b)) (kH (K x) 2),hB.out⟩
theorem iO (w:World) (m:Nat) (K:List UInt8→Nat) (h:eX w m K) (x:List UInt8) (hx:x.length≤4096):
  Calls Tryz.prog 88 #[.agg #[.map (some m)],.string (ay x)] w fun e w'=>e= .returned (.bool (K x==0))∧Below w.heap.size w w':=by
 have hb:=aA w (.cells #[.map (some m)] 83);have hl:=(h.below hb).look hx;have hB:=Za hb;clear hb;go_enter Tryz.func88,Tryz.ntmps88;go_wp2_with fail;go_ret;exact⟨congrArg (fun b=>Ending.returned (.bool b)) (kH (K x) 0),hB.out⟩
structure Snk (k:Nat) (first cap:Array Value) (M:List (Option Nat)) {σ:Type} (I:σ→World→Prop) (f:σ→List UInt8→σ):Prop where
 ent:∀args w,(callFunc k args).run Tryz.prog w= .ok (.enter k args) w
 call:∀s x w,x.length≤4096→I s w→Calls Tryz.prog k (first++ #[.string (ay x)]++cap) w fun e w'=>e= .returned (.tuple #[])∧I (f s x) w'∧Writes M w w'
 keep:∀s w w',I s w→Below w.heap.size w w'→I s w'
 low:∀s w g,I s w→some g∈M→g<w.heap.size
def exN {σ:Type} (f:σ→List UInt8→σ):σ→Ex→σ
 |s,.nil=>s
 |s,.mk k _ x a b=>exN f (exN f (if k=1 then f s x else s) a) b
def bF (M:List (Option Nat)) (x:Nat):Prop:=some x∉M
theorem aJ.wr {w w':World} {M:List (Option Nat)} {e:Ex} {v:Value} (h:aJ w (bF M) e v) (hW:Writes M w w'):aJ w' (bF M) e v:=h.keep fun x hx hS=>hW.block x hx hS
theorem iq {k:Nat} {first cap:Array Value} {M:List (Option Nat)} {σ:Type} {I:σ→World→Prop} {f:σ→List UInt8→σ} (hk:Snk k first cap M I f) (m:Option Nat):∀(e:Ex) (w:World) (s:σ) (v:Value),aJ w (bF M) e v→I s w→
  Calls Tryz.prog 104 #[.agg #[.map m],v,.func (.func k) first cap] w fun e' w'=>e'= .returned (.tuple #[])∧I (exN f s e) w'∧Writes M w w'
 | .nil,w,s,v,h,hI=>by
  obtain rfl:v= .pointer none:=h;have hb:=aA w (.cells #[.map m] 83);have hI2:=Za (hk.keep s w _ hI hb);have hB:=Za (Writes.of_below hb M);clear hb;go_enter Tryz.func104,Tryz.ntmps104;go_wp2_with fail;refine bodyPost_ret (results_none rfl _ _ _) rfl ?_;exact⟨rfl,hI2.out,hB.out⟩
 | .mk kd n x a b,w,s,v,h,hI=>by
  obtain⟨g,va,vb,rfl,hS,hx,hk7,hH,ha,hb⟩:=h;obtain⟨w1,hw1⟩:∃y,y=w.alloc (.cells #[.map m] 83):=⟨_,rfl⟩;obtain⟨gv,hgv⟩:∃y,y=w.heap.size:=⟨_,rfl⟩
  have hb1:Below w.heap.size w w1:=by rw[hw1];exact aA w _
  have hv1:Holds w1 gv 83 #[.map m]:=by rw[hw1,hgv];exact Holds.new w _ _
  have hH1:=(hH.below hb1 hH.lt);have q0:=hH1.cell 0;have q2:=hH1.cell 2;have q3:=hH1.cell 3;have q4:=hH1.cell 4;have qv:=hv1.cell 0;have ql:=hH1.lt;simp at q0 q2 q3 q4 qv;have hw1':=Za hw1.symm;clear hw1;go_enter Tryz.func104,Tryz.ntmps104;go_upto_region 1 with(fail);rw[←hgv,hw1'.out]
  have hgM:bF M gv:=fun hm=>by have:=hk.low s w gv hI hm;omega
  have hI1:=Za (hk.keep s w _ hI hb1);have hW1:=Za (Writes.of_below hb1 M);have ha1:=Za (ha.below hb1);have hb2:=Za (hb.below hb1);have hv1':=Za hv1;have hH1':=Za hH1;clear hb1 hgv hI ha hb hv1 hH hH1 hw1';by_cases hk1:kd=1
  ·subst hk1;have hx2:Hid (exN f s (Ex.mk 1 n x a b)=exN f (exN f (f s x) a) b):=Za rfl;have hent:=hk.ent;go_wp2_with fail;refine(hk.call s x w1 hx hI1.out).mono ?_;rintro e w2 ⟨rfl,hI2,hW2'⟩;have hH2':=hW2'.holds hH1'.out hS;have hv2':=hW2'.holds hv1'.out hgM;have q3:=hH2'.cell 3;have qv:=hv2'.cell 0;have ql:=hH2'.lt;simp at q3 qv;have hv2:=Za hv2';have hH2:=Za hH2';have ha2:=Za (ha1.out.wr hW2');have hb2:=Za (hb2.out.wr hW2');have hW2:=Za (hW1.out.trans hW2');replace hI2:=Za hI2;clear hH2' hv2' hH1' hv1' ha1 hI1 hW1 hW2' q0 q2;go_wp2_with fail
   go_still_tail 6,(by kernel_rfl)
   obtain⟨w3,hw3⟩:∃y,y=w2.drew:=⟨_,rfl⟩;change wpList _ _ _ _ _ w2.drew;rw[←hw3]
   have hd3:Below w2.heap.size w2 w3:=by rw[hw3];exact(Below.refl _ w2).drew
   have hH3:=Za (hH2.out.below hd3 hH2.out.lt);have hv3:=Za (hv2.out.below hd3 hv2.out.lt);have ha3:=Za (ha2.out.below hd3);have hb3:=Za (hb2.out.below hd3);have hI3:=Za (hk.keep _ w2 w3 hI2.out hd3);have hW3:=Za (hW2.out.trans (Writes.of_below hd3 M));clear hw3 hd3 q3 qv ql hH2 hv2 ha2 hb2 hI2 hW2;go_wp2_with fail;refine(iq hk m a w3 _ va ha3.out hI3.out).mono ?_;rintro e w4 ⟨rfl,hI4,hW4⟩;have hH4':=hW4.holds hH3.out hS;have hv4':=hW4.holds hv3.out hgM;have q4:=hH4'.cell 4;have qv:=hv4'.cell 0;have ql:=hH4'.lt;simp at q4 qv;have hv4:=Za hv4';have hH4:=Za hH4';have hb4:=Za (hb3.out.wr hW4);have hW4':=Za (hW3.out.trans hW4);replace hI4:=Za hI4;clear hH4' hv4' hH3 hv3 ha3 hb3 hI3 hW3 hW4;go_wp2_with fail
   go_still_tail 6,(by kernel_rfl)
   obtain⟨w5,hw5⟩:∃y,y=w4.drew:=⟨_,rfl⟩;change wpList _ _ _ _ _ w4.drew;rw[←hw5]
   have hd5:Below w4.heap.size w4 w5:=by rw[hw5];exact(Below.refl _ w4).drew
   have hb5:=Za (hb4.out.below hd5);have hI5:=Za (hk.keep _ w4 w5 hI4.out hd5);have hW5:=Za (hW4'.out.trans (Writes.of_below hd5 M));clear hw5 hd5 q4 qv ql hH4 hv4 hb4 hI4 hW4';go_wp2_with fail;refine(iq hk m b w5 _ vb hb5.out hI5.out).mono ?_;rintro e w6 ⟨rfl,hI6,hW6⟩;have hI6:=Za hI6;have hW6:=Za (hW5.out.trans hW6);go_wp2_with fail;go_end0;exact⟨rfl,by rw[hx2.out];exact hI6.out,hW6.out⟩
  ·have hk2:((kd:Int)==1)=false:=by simp;omega
   have hx2:Hid (exN f s (Ex.mk kd n x a b)=exN f (exN f s a) b):=Za (by conv=>lhs;unfold exN;rw[if_neg hk1]);have hH2:=hH1';have hv2:=hv1';have ha2:=ha1;have hI2:=hI1;have hW2:=hW1;clear hH1' hv1' ha1 hI1 hW1 hk1 q2;go_wp2_with fail
   go_still_tail 6,(by kernel_rfl)
   obtain⟨w3,hw3⟩:∃y,y=w1.drew:=⟨_,rfl⟩;change wpList _ _ _ _ _ w1.drew;rw[←hw3]
   have hd3:Below w1.heap.size w1 w3:=by rw[hw3];exact(Below.refl _ w1).drew
   have hH3:=Za (hH2.out.below hd3 hH2.out.lt);have hv3:=Za (hv2.out.below hd3 hv2.out.lt);have ha3:=Za (ha2.out.below hd3);have hb3:=Za (hb2.out.below hd3);have hI3:=Za (hk.keep _ w1 w3 hI2.out hd3);have hW3:=Za (hW2.out.trans (Writes.of_below hd3 M));clear hw3 hd3 q0 q3 q4 qv ql hH2 hv2 ha2 hb2 hI2 hW2;go_wp2_with fail;refine(iq hk m a w3 _ va ha3.out hI3.out).mono ?_;rintro e w4 ⟨rfl,hI4,hW4⟩;have hH4':=hW4.holds hH3.out hS;have hv4':=hW4.holds hv3.out hgM;have q4:=hH4'.cell 4;have qv:=hv4'.cell 0;have ql:=hH4'.lt;simp at q4 qv;have hv4:=Za hv4';have hH4:=Za hH4';have hb4:=Za (hb3.out.wr hW4);have hW4':=Za (hW3.out.trans hW4);replace hI4:=Za hI4;clear hH4' hv4' hH3 hv3 ha3 hb3 hI3 hW3 hW4;go_wp2_with fail
   go_still_tail 6,(by kernel_rfl)
   obtain⟨w5,hw5⟩:∃y,y=w4.drew:=⟨_,rfl⟩;change wpList _ _ _ _ _ w4.drew;rw[←hw5]
   have hd5:Below w4.heap.size w4 w5:=by rw[hw5];exact(Below.refl _ w4).drew
   have hb5:=Za (hb4.out.below hd5);have hI5:=Za (hk.keep _ w4 w5 hI4.out hd5);have hW5:=Za (hW4'.out.trans (Writes.of_below hd5 M));clear hw5 hd5 q4 qv ql hH4 hv4 hb4 hI4 hW4';go_wp2_with fail;refine(iq hk m b w5 _ vb hb5.out hI5.out).mono ?_;rintro e w6 ⟨rfl,hI6,hW6⟩;have hI6:=Za hI6;have hW6:=Za (hW5.out.trans hW6);go_wp2_with fail;go_end0;exact⟨rfl,by rw[hx2.out];exact hI6.out,hW6.out⟩
def cnN {σ:Type} (f g:σ→List UInt8→σ):σ→Cn→σ
 |s,.nil=>s
 |s,.mk k a b p q x=>cnN f g (cnN f g (exN f (exN f (if k=9 then g s x else s) a) b) p) q
theorem bC.wr {w w':World} {M:List (Option Nat)} {e:Cn} {v:Value} (h:bC w (bF M) e v) (hW:Writes M w w'):bC w' (bF M) e v:=h.keep fun x hx hS=>hW.block x hx hS
theorem jX {k k2:Nat} {first cap first2 cap2:Array Value} {M:List (Option Nat)} {σ:Type} {I:σ→World→Prop} {f f2:σ→List UInt8→σ} (hk:Snk k first cap M I f) (hk2:Snk k2 first2 cap2 M I f2) (m:Option Nat):∀(e:Cn) (w:World) (s:σ) (v:Value),bC w (bF M) e v→I s w→
  Calls Tryz.prog 105 #[.agg #[.map m],v,.func (.func k) first cap,.func (.func k2) first2 cap2] w fun e' w'=>e'= .returned (.tuple #[])∧I (cnN f f2 s e) w'∧Writes M w w'
 | .nil,w,s,v,h,hI=>by
  obtain rfl:v= .pointer none:=h;have hb:=aA w (.cells #[.map m] 83);have hI2:=Za (hk.keep s w _ hI hb);have hB:=Za (Writes.of_below hb M);clear hb;go_enter Tryz.func105,Tryz.ntmps105;go_wp2_with fail;refine bodyPost_ret (results_none rfl _ _ _) rfl ?_;exact⟨rfl,hI2.out,hB.out⟩
 | .mk kd a b p q x,w,s,v,h,hI=>by
  obtain⟨g,va,vb,vp,vq,rfl,hS,hx,hk9,hH,ha,hb,hp,hq⟩:=h;obtain⟨w1,hw1⟩:∃y,y=w.alloc (.cells #[.map m] 83):=⟨_,rfl⟩;obtain⟨gv,hgv⟩:∃y,y=w.heap.size:=⟨_,rfl⟩
  have hb1:Below w.heap.size w w1:=by rw[hw1];exact aA w _
  have hv1:Holds w1 gv 83 #[.map m]:=by rw[hw1,hgv];exact Holds.new w _ _
  have hH1:=(hH.below hb1 hH.lt);have r0:=hH1.cell 0;have r5:=hH1.cell 5;have r1:=hH1.cell 1;have qv:=hv1.cell 0;have ql:=hH1.lt;simp at r0 r1 r5 qv;have hw1':=Za hw1.symm;clear hw1;go_enter Tryz.func105,Tryz.ntmps105;go_upto_region 1 with(fail);rw[←hgv,hw1'.out]
  have hgM:bF M gv:=fun hm=>by have:=hk.low s w gv hI hm;omega
  have tq:=Za hgv;have hI1:=Za (hk.keep s w _ hI hb1);have hW1:=Za (Writes.of_below hb1 M);have ha1:=Za (ha.below hb1);have hb2:=Za (hb.below hb1);have hp1:=Za (hp.below hb1);have hq1:=Za (hq.below hb1);have hv1':=Za hv1;have hH1':=Za hH1;clear hb1 hgv hI ha hb hp hq hv1 hH hH1 hw1';by_cases hk1:kd=9
  ·subst hk1;have hx2:Hid (cnN f f2 s (Cn.mk 9 a b p q x)=cnN f f2 (cnN f f2 (exN f (exN f (f2 s x) a) b) p) q):=Za rfl;have hent:=hk2.ent;go_wp2_with fail;refine(hk2.call s x w1 hx hI1.out).mono ?_;rintro e w2 ⟨rfl,hI2,hW2'⟩;have hH2':=hW2'.holds hH1'.out hS;have hv2':=hW2'.holds hv1'.out hgM;clear r0 r1 r5 qv ql;have r1:=hH2'.cell 1;have qv:=hv2'.cell 0;have ql:=hH2'.lt;simp at r1 qv;have hv2:=Za hv2';have hH2:=Za hH2';have ha2:=Za (ha1.out.wr hW2');have hb2:=Za (hb2.out.wr hW2');have hp2:=Za (hp1.out.wr hW2');have hq2:=Za (hq1.out.wr hW2');have hW2:=Za (hW1.out.trans hW2');replace hI2:=Za hI2;clear hH2' hv2' hH1' hv1' ha1 hp1 hq1 hI1 hW1 hW2';go_wp2_with fail
   go_still_tail 6,(by kernel_rfl)
   obtain⟨x2,hx20⟩:∃y,y=w2.drew:=⟨_,rfl⟩;change wpList _ _ _ _ _ w2.drew;rw[←hx20]
   have hd:Below w2.heap.size w2 x2:=by rw[hx20];exact(Below.refl _ w2).drew
   have hH3:=Za (hH2.out.below hd hH2.out.lt);have hv3:=Za (hv2.out.below hd hv2.out.lt);have ha3:=Za (ha2.out.below hd);have hb3:=Za (hb2.out.below hd);have hp3:=Za (hp2.out.below hd);have hq3:=Za (hq2.out.below hd);have hI3:=Za (hk.keep _ w2 x2 hI2.out hd);have hW3:=Za (hW2.out.trans (Writes.of_below hd M));clear hx20 hd r1 qv ql hH2 hv2 hI2 hW2 ha2 hb2 hp2 hq2;go_wp2_with fail;refine(iq hk m a x2 _ va ha3.out hI3.out).mono ?_;rintro e y2 ⟨rfl,hI4,hW4⟩;have hH4:=hW4.holds hH3.out hS;have hv4:=hW4.holds hv3.out hgM;have r2:=hH4.cell 2;have qv:=hv4.cell 0;have ql:=hH4.lt;simp at r2 qv;have hv2:=Za hv4;have hH2:=Za hH4;have hb2:=Za (hb3.out.wr hW4);have hp2:=Za (hp3.out.wr hW4);have hq2:=Za (hq3.out.wr hW4);have hW2:=Za (hW3.out.trans hW4);have hI2:=Za hI4;clear hI4 hW4 hH4 hv4 hI3 hW3 hH3 hv3 ha3 hb3 hp3 hq3;go_wp2_with fail
   go_still_tail 6,(by kernel_rfl)
   obtain⟨x3,hx30⟩:∃y,y=y2.drew:=⟨_,rfl⟩;change wpList _ _ _ _ _ y2.drew;rw[←hx30]
   have hd:Below y2.heap.size y2 x3:=by rw[hx30];exact(Below.refl _ y2).drew
   have hH3:=Za (hH2.out.below hd hH2.out.lt);have hv3:=Za (hv2.out.below hd hv2.out.lt);have hb3:=Za (hb2.out.below hd);have hp3:=Za (hp2.out.below hd);have hq3:=Za (hq2.out.below hd);have hI3:=Za (hk.keep _ y2 x3 hI2.out hd);have hW3:=Za (hW2.out.trans (Writes.of_below hd M));clear hx30 hd r2 qv ql hH2 hv2 hI2 hW2 hb2 hp2 hq2;go_wp2_with fail;refine(iq hk m b x3 _ vb hb3.out hI3.out).mono ?_;rintro e y3 ⟨rfl,hI4,hW4⟩;have hH4:=hW4.holds hH3.out hS;have hv4:=hW4.holds hv3.out hgM;have r3:=hH4.cell 3;have qv:=hv4.cell 0;have ql:=hH4.lt;simp at r3 qv;have hv2:=Za hv4;have hH2:=Za hH4;have hp2:=Za (hp3.out.wr hW4);have hq2:=Za (hq3.out.wr hW4);have hW2:=Za (hW3.out.trans hW4);have hI2:=Za hI4;clear hI4 hW4 hH4 hv4 hI3 hW3 hH3 hv3 hb3 hp3 hq3;go_wp2_with fail
   go_still_tail 7,(by kernel_rfl)
   obtain⟨x4,hx40⟩:∃y,y=y3.drew:=⟨_,rfl⟩;change wpList _ _ _ _ _ y3.drew;rw[←hx40]
   have hd:Below y3.heap.size y3 x4:=by rw[hx40];exact(Below.refl _ y3).drew
   have hH3:=Za (hH2.out.below hd hH2.out.lt);have hv3:=Za (hv2.out.below hd hv2.out.lt);have hp3:=Za (hp2.out.below hd);have hq3:=Za (hq2.out.below hd);have hI3:=Za (hk.keep _ y3 x4 hI2.out hd);have hW3:=Za (hW2.out.trans (Writes.of_below hd M));clear hx40 hd r3 qv ql hH2 hv2 hI2 hW2 hp2 hq2;go_wp2_with fail;refine(jX hk hk2 m p x4 _ vp hp3.out hI3.out).mono ?_;rintro e y4 ⟨rfl,hI4,hW4⟩;have hH4:=hW4.holds hH3.out hS;have hv4:=hW4.holds hv3.out hgM;have r4:=hH4.cell 4;have qv:=hv4.cell 0;have ql:=hH4.lt;simp at r4 qv;have hv2:=Za hv4;have hH2:=Za hH4;have hq2:=Za (hq3.out.wr hW4);have hW2:=Za (hW3.out.trans hW4);have hI2:=Za hI4;clear hI4 hW4 hH4 hv4 hI3 hW3 hH3 hv3 hp3 hq3;go_wp2_with fail
   go_still_tail 7,(by kernel_rfl)
   obtain⟨x5,hx50⟩:∃y,y=y4.drew:=⟨_,rfl⟩;change wpList _ _ _ _ _ y4.drew;rw[←hx50]
   have hd:Below y4.heap.size y4 x5:=by rw[hx50];exact(Below.refl _ y4).drew
   have hq3:=Za (hq2.out.below hd);have hI3:=Za (hk.keep _ y4 x5 hI2.out hd);have hW3:=Za (hW2.out.trans (Writes.of_below hd M));clear hx50 hd r4 qv ql hH2 hv2 hI2 hW2 hq2;go_wp2_with fail;refine(jX hk hk2 m q x5 _ vq hq3.out hI3.out).mono ?_;rintro e y5 ⟨rfl,hI4,hW4⟩;have hI5:=Za hI4;have hW5:=Za (hW3.out.trans hW4);clear hI4 hW4 hI3 hW3 hq3;go_wp2_with fail;go_end0;exact⟨rfl,by rw[hx2.out];exact hI5.out,hW5.out⟩
  ·have hkn:((kd:Int)==9)=false:=by simp;omega
   have hx2:Hid (cnN f f2 s (Cn.mk kd a b p q x)=cnN f f2 (cnN f f2 (exN f (exN f s a) b) p) q):=Za (by conv=>lhs;unfold cnN;rw[if_neg hk1]);have hH2:=hH1';have hv2:=hv1';have ha2:=ha1;have hp2:=hp1;have hq2:=hq1;have hI2:=hI1;have hW2:=hW1;clear hH1' hv1' ha1 hp1 hq1 hI1 hW1 hk1 r5;go_wp2_with fail
   go_still_tail 6,(by kernel_rfl)
   obtain⟨x2,hx20⟩:∃y,y=w1.drew:=⟨_,rfl⟩;change wpList _ _ _ _ _ w1.drew;rw[←hx20]
   have hd:Below w1.heap.size w1 x2:=by rw[hx20];exact(Below.refl _ w1).drew
   have hH3:=Za (hH2.out.below hd hH2.out.lt);have hv3:=Za (hv2.out.below hd hv2.out.lt);have ha3:=Za (ha2.out.below hd);have hb3:=Za (hb2.out.below hd);have hp3:=Za (hp2.out.below hd);have hq3:=Za (hq2.out.below hd);have hI3:=Za (hk.keep _ w1 x2 hI2.out hd);have hW3:=Za (hW2.out.trans (Writes.of_below hd M));clear hx20 hd r1 qv ql hH2 hv2 hI2 hW2 ha2 hb2 hp2 hq2;go_wp2_with fail;refine(iq hk m a x2 _ va ha3.out hI3.out).mono ?_;rintro e y2 ⟨rfl,hI4,hW4⟩;have hH4:=hW4.holds hH3.out hS;have hv4:=hW4.holds hv3.out hgM;have r2:=hH4.cell 2;have qv:=hv4.cell 0;have ql:=hH4.lt;simp at r2 qv;have hv2:=Za hv4;have hH2:=Za hH4;have hb2:=Za (hb3.out.wr hW4);have hp2:=Za (hp3.out.wr hW4);have hq2:=Za (hq3.out.wr hW4);have hW2:=Za (hW3.out.trans hW4);have hI2:=Za hI4;clear hI4 hW4 hH4 hv4 hI3 hW3 hH3 hv3 ha3 hb3 hp3 hq3;go_wp2_with fail
   go_still_tail 6,(by kernel_rfl)
   obtain⟨x3,hx30⟩:∃y,y=y2.drew:=⟨_,rfl⟩;change wpList _ _ _ _ _ y2.drew;rw[←hx30]
   have hd:Below y2.heap.size y2 x3:=by rw[hx30];exact(Below.refl _ y2).drew
   have hH3:=Za (hH2.out.below hd hH2.out.lt);have hv3:=Za (hv2.out.below hd hv2.out.lt);have hb3:=Za (hb2.out.below hd);have hp3:=Za (hp2.out.below hd);have hq3:=Za (hq2.out.below hd);have hI3:=Za (hk.keep _ y2 x3 hI2.out hd);have hW3:=Za (hW2.out.trans (Writes.of_below hd M));clear hx30 hd r2 qv ql hH2 hv2 hI2 hW2 hb2 hp2 hq2;go_wp2_with fail;refine(iq hk m b x3 _ vb hb3.out hI3.out).mono ?_;rintro e y3 ⟨rfl,hI4,hW4⟩;have hH4:=hW4.holds hH3.out hS;have hv4:=hW4.holds hv3.out hgM;have r3:=hH4.cell 3;have qv:=hv4.cell 0;have ql:=hH4.lt;simp at r3 qv;have hv2:=Za hv4;have hH2:=Za hH4;have hp2:=Za (hp3.out.wr hW4);have hq2:=Za (hq3.out.wr hW4);have hW2:=Za (hW3.out.trans hW4);have hI2:=Za hI4;clear hI4 hW4 hH4 hv4 hI3 hW3 hH3 hv3 hb3 hp3 hq3;go_wp2_with fail
   go_still_tail 7,(by kernel_rfl)
   obtain⟨x4,hx40⟩:∃y,y=y3.drew:=⟨_,rfl⟩;change wpList _ _ _ _ _ y3.drew;rw[←hx40]
   have hd:Below y3.heap.size y3 x4:=by rw[hx40];exact(Below.refl _ y3).drew
   have hH3:=Za (hH2.out.below hd hH2.out.lt);have hv3:=Za (hv2.out.below hd hv2.out.lt);have hp3:=Za (hp2.out.below hd);have hq3:=Za (hq2.out.below hd);have hI3:=Za (hk.keep _ y3 x4 hI2.out hd);have hW3:=Za (hW2.out.trans (Writes.of_below hd M));clear hx40 hd r3 qv ql hH2 hv2 hI2 hW2 hp2 hq2;go_wp2_with fail;refine(jX hk hk2 m p x4 _ vp hp3.out hI3.out).mono ?_;rintro e y4 ⟨rfl,hI4,hW4⟩;have hH4:=hW4.holds hH3.out hS;have hv4:=hW4.holds hv3.out hgM;have r4:=hH4.cell 4;have qv:=hv4.cell 0;have ql:=hH4.lt;simp at r4 qv;have hv2:=Za hv4;have hH2:=Za hH4;have hq2:=Za (hq3.out.wr hW4);have hW2:=Za (hW3.out.trans hW4);have hI2:=Za hI4;clear hI4 hW4 hH4 hv4 hI3 hW3 hH3 hv3 hp3 hq3;go_wp2_with fail
   go_still_tail 7,(by kernel_rfl)
   obtain⟨x5,hx50⟩:∃y,y=y4.drew:=⟨_,rfl⟩;change wpList _ _ _ _ _ y4.drew;rw[←hx50]
   have hd:Below y4.heap.size y4 x5:=by rw[hx50];exact(Below.refl _ y4).drew
   have hq3:=Za (hq2.out.below hd);have hI3:=Za (hk.keep _ y4 x5 hI2.out hd);have hW3:=Za (hW2.out.trans (Writes.of_below hd M));clear hx50 hd r4 qv ql hH2 hv2 hI2 hW2 hq2;go_wp2_with fail;refine(jX hk hk2 m q x5 _ vq hq3.out hI3.out).mono ?_;rintro e y5 ⟨rfl,hI4,hW4⟩;have hI5:=Za hI4;have hW5:=Za (hW3.out.trans hW4);clear hI4 hW4 hI3 hW3 hq3;go_wp2_with fail;go_end0;exact⟨rfl,by rw[hx2.out];exact hI5.out,hW5.out⟩
structure Tst (m:Nat) (K:List UInt8→Nat) (r o:Nat) (b:Bool) (w:World):Prop where
 km:eX w m K
 hr:Holds w r 86 #[.map (some m)]
 ho:Holds w o 4 #[.bool b]
 ro:r<o
 mo:m<o
theorem Tst.below {m r o:Nat} {K:List UInt8→Nat} {b:Bool} {w w':World} (h:Tst m K r o b w) (hb:Below w.heap.size w w'):Tst m K r o b w':=
 ⟨h.km.below hb,h.hr.below hb h.hr.lt,h.ho.below hb h.ho.lt,h.ro,h.mo⟩
theorem Tst.put {m r o:Nat} {K:List UInt8→Nat} {b:Bool} {w:World} (h:Tst m K r o b w) (b':Bool):Tst m K r o b' (w.setCell ⟨o,0,none⟩ (.bool b')):=by
 have hW:Writes [some o] w (w.setCell ⟨o,0,none⟩ (.bool b')):=Writes.store w (by simp) _;have h1:=h.ro;have h2:=h.mo;refine⟨h.km.writes hW (by simp;omega),hW.holds h.hr (by simp;omega),?_,h.ro,h.mo⟩;have:=h.ho.store 0 (.bool b');simpa using this
theorem Bz (m r o:Nat) (K:List UInt8→Nat) (b:Bool) (x:List UInt8) (w:World) (hx:x.length≤4096) (h:Tst m K r o b w):
  Calls Tryz.prog 138 #[.string (ay x),.pointer (some ⟨r,0,none⟩),.pointer (some ⟨o,0,none⟩)] w fun e w'=>e= .returned (.tuple #[])∧Tst m K r o (b&&(K x !=2)) w'∧Writes [some o] w w':=by
 have qr:=h.hr.cell 0;simp at qr;have h':=Za h;clear h;go_enter Tryz.func138,Tryz.ntmps138;go_wp2_with fail;refine(bM w m K h'.out.km x hx).mono ?_;rintro e w1 ⟨rfl,hb⟩;have h1:=h'.out.below hb;have hW:=Writes.of_below hb [some o];by_cases hk:K x=2
 ·have e1:(K x==2)=true:=by simp[hk]
  have e2:Hid ((b&&(K x !=2))=false):=Za (by simp[hk]);rw[e1];have q0:=h1.ho.cell 0;have ql:=h1.ho.lt;have qz:=h1.ho.frozen 0;simp at q0;have h2:=Za (h1.put false);have hW2:=Za (hW.trans (Writes.store w1 (M:= [some o]) (p:=⟨o,0,none⟩) (by simp) (.bool false)));clear hb h1 hW h';go_wp2_with fail;go_end0;exact⟨rfl,by rw[e2.out];exact h2.out,hW2.out⟩
 ·have e1:(K x==2)=false:=by simp[hk]
  have e2:Hid ((b&&(K x !=2))=b):=Za (by simp[hk]);rw[e1];have h2:=Za h1;have hW2:=Za hW;clear hb h1 hW h';go_wp2_with fail;go_end0;exact⟨rfl,by rw[e2.out];exact h2.out,hW2.out⟩
theorem Bv (m r o:Nat) (K:List UInt8→Nat):Snk 138 #[] #[.pointer (some ⟨r,0,none⟩),.pointer (some ⟨o,0,none⟩)] [some o] (Tst m K r o) (fun b x=>b&&(K x !=2)):=
 ⟨enters_of Tryz.func138 (by kernel_rfl) rfl,fun b x w hx h=>Bz m r o K b x w hx h,fun _ _ _ h hb=>h.below hb,fun _ _ g h hg=>by simp at hg;subst hg;exact h.ho.lt⟩
theorem yK (m r o:Nat) (K:List UInt8→Nat) (b:Bool) (x:List UInt8) (w:World) (hx:x.length≤4096) (h:Tst m K r o b w):
  Calls Tryz.prog 139 #[.string (ay x),.pointer (some ⟨r,0,none⟩),.pointer (some ⟨o,0,none⟩)] w fun e w'=>e= .returned (.tuple #[])∧Tst m K r o (b&&(K x !=2)) w'∧Writes [some o] w w':=by
 have qr:=h.hr.cell 0;simp at qr;have h':=Za h;clear h;go_enter Tryz.func139,Tryz.ntmps139;go_wp2_with fail;refine(bM w m K h'.out.km x hx).mono ?_;rintro e w1 ⟨rfl,hb⟩;have h1:=h'.out.below hb;have hW:=Writes.of_below hb [some o];by_cases hk:K x=2
 ·have e1:(K x==2)=true:=by simp[hk]
  have e2:Hid ((b&&(K x !=2))=false):=Za (by simp[hk]);rw[e1];have q0:=h1.ho.cell 0;have ql:=h1.ho.lt;have qz:=h1.ho.frozen 0;simp at q0;have h2:=Za (h1.put false);have hW2:=Za (hW.trans (Writes.store w1 (M:= [some o]) (p:=⟨o,0,none⟩) (by simp) (.bool false)));clear hb h1 hW h';go_wp2_with fail;go_end0;exact⟨rfl,by rw[e2.out];exact h2.out,hW2.out⟩
 ·have e1:(K x==2)=false:=by simp[hk]
  have e2:Hid ((b&&(K x !=2))=b):=Za (by simp[hk]);rw[e1];have h2:=Za h1;have hW2:=Za hW;clear hb h1 hW h';go_wp2_with fail;go_end0;exact⟨rfl,by rw[e2.out];exact h2.out,hW2.out⟩
theorem yJ (m r o:Nat) (K:List UInt8→Nat):Snk 139 #[] #[.pointer (some ⟨r,0,none⟩),.pointer (some ⟨o,0,none⟩)] [some o] (Tst m K r o) (fun b x=>b&&(K x !=2)):=
 ⟨enters_of Tryz.func139 (by kernel_rfl) rfl,fun b x w hx h=>yK m r o K b x w hx h,fun _ _ _ h hb=>h.below hb,fun _ _ g h hg=>by simp at hg;subst hg;exact h.ho.lt⟩
theorem yI (m r o:Nat) (K:List UInt8→Nat) (b:Bool) (x:List UInt8) (w:World) (hx:x.length≤4096) (h:Tst m K r o b w):
  Calls Tryz.prog 140 #[.string (ay x),.pointer (some ⟨r,0,none⟩),.pointer (some ⟨o,0,none⟩)] w fun e w'=>e= .returned (.tuple #[])∧Tst m K r o (b&&(K x==2)) w'∧Writes [some o] w w':=by
 have qr:=h.hr.cell 0;simp at qr;have h':=Za h;clear h;go_enter Tryz.func140,Tryz.ntmps140;go_wp2_with fail;refine(bM w m K h'.out.km x hx).mono ?_;rintro e w1 ⟨rfl,hb⟩;have h1:=h'.out.below hb;have hW:=Writes.of_below hb [some o];by_cases hk:K x=2
 ·have e1:(K x==2)=true:=by simp[hk]
  have e2:Hid ((b&&(K x==2))=b):=Za (by simp[hk]);rw[e1];have h2:=Za h1;have hW2:=Za hW;clear hb h1 hW h';go_wp2_with fail;go_end0;exact⟨rfl,by rw[e2.out];exact h2.out,hW2.out⟩
 ·have e1:(K x==2)=false:=by simp[hk]
  have e2:Hid ((b&&(K x==2))=false):=Za (by simp[hk]);rw[e1];have q0:=h1.ho.cell 0;have ql:=h1.ho.lt;have qz:=h1.ho.frozen 0;simp at q0;have h2:=Za (h1.put false);have hW2:=Za (hW.trans (Writes.store w1 (M:= [some o]) (p:=⟨o,0,none⟩) (by simp) (.bool false)));clear hb h1 hW h';go_wp2_with fail;go_end0;exact⟨rfl,by rw[e2.out];exact h2.out,hW2.out⟩
theorem yH (m r o:Nat) (K:List UInt8→Nat):Snk 140 #[] #[.pointer (some ⟨r,0,none⟩),.pointer (some ⟨o,0,none⟩)] [some o] (Tst m K r o) (fun b x=>b&&(K x==2)):=
 ⟨enters_of Tryz.func140 (by kernel_rfl) rfl,fun b x w hx h=>yI m r o K b x w hx h,fun _ _ _ h hb=>h.below hb,fun _ _ g h hg=>by simp at hg;subst hg;exact h.ho.lt⟩
def Evr (_:Nat):Prop:=True
theorem lQ (K:List UInt8→Nat):∀(e:Ex) (b:Bool),exN (fun b x=>b&&(K x !=2)) b e=(b&&bQ K e)
 | .nil,b=>by simp[exN,bQ]
 | .mk k n x a c,b=>by
  unfold exN bQ;rw[lQ K a,lQ K c];by_cases h:k=1
  ·simp[h,Bool.and_assoc]
  ·have h2:(k !=1)=true:=by simpa using h
   simp[h,h2,Bool.and_assoc]
theorem rY (K:List UInt8→Nat):∀(e:Cn) (b:Bool),cnN (fun b x=>b&&(K x !=2)) (fun b x=>b&&(K x==2)) b e=(b&&kG K e)
 | .nil,b=>by simp[cnN,kG]
 | .mk k x y p q nm,b=>by
  unfold cnN kG;rw[rY K p,rY K q,lQ,lQ];by_cases h:k=9
  ·simp[h,Bool.and_assoc]
  ·have h2:(k !=9)=true:=by simpa using h
   simp[h,h2,Bool.and_assoc]
def kM (w:World) (es:List Ex) (A:Option Addr):Prop:=∃vs,vs.length=es.length∧bI w Evr A vs∧∀i (h:i<es.length),∃v,vs[i]? =some v∧aJ w Evr es[i] v
theorem kM.at_ {w:World} {es:List Ex} {A:Option Addr} (h:kM w es A) {k:Nat} (hk:k<es.length):∃b off v,A=some ⟨b,off,none⟩∧b<w.heap.size∧w.cell? ⟨b,off+k,none⟩=some v∧aJ w Evr es[k] v:=by
 obtain⟨vs,hl,hr,hi⟩:=h;obtain⟨v,hv,he⟩:=hi k hk
 have hne:vs≠[]:=fun e=>by rw[e]at hv;cases hv
 obtain⟨b,off,e,-,hc⟩:=hr hne;exact⟨b,off,v,e,hr.lt hne e,hc k v hv,he⟩
theorem aJ.apart {w:World} {e:Ex} {v:Value} {o:Nat} (h:aJ w Evr e v) (ho:w.heap.size≤o):aJ w (bF [some o]) e v:=
 h.mono fun x hx _=>by unfold bF;simp;omega
theorem bC.apart {w:World} {e:Cn} {v:Value} {o:Nat} (h:bC w Evr e v) (ho:w.heap.size≤o):bC w (bF [some o]) e v:=
 h.mono fun x hx _=>by unfold bF;simp;omega
theorem jZ (w:World) (m:Nat) (K:List UInt8→Nat) (h:eX w m K) (es:List Ex) (A:Option Addr) (c:Nat) (hn:es.length≤100) (hE:kM w es A):
  Calls Tryz.prog 87 #[.agg #[.map (some m)],.slice A es.length c] w fun e w'=>e= .returned (.bool (es.all (bQ K)))∧Below w.heap.size w w':=by
 obtain⟨w1,hw1⟩:∃y,y=w.alloc (.cells #[.map (some m)] 86):=⟨_,rfl⟩;obtain⟨w2,hw2⟩:∃y,y=w1.alloc (.cells #[.bool true] 4):=⟨_,rfl⟩;obtain⟨r,hr⟩:∃y,y=w.heap.size:=⟨_,rfl⟩
 have hsz1:w1.heap.size=w.heap.size+1:=by rw[hw1];simp
 have hb1:Below w.heap.size w w1:=by rw[hw1];exact aA w _
 have hb2:Below w1.heap.size w1 w2:=by rw[hw2];exact aA w1 _
 have hr1:Holds w1 r 86 #[.map (some m)]:=by rw[hw1,hr];exact Holds.new w _ _
 have ho2:Holds w2 (r+1) 4 #[.bool true]:=by rw[hw2,hr,←hsz1];exact Holds.new w1 _ _
 have hB2:Below w.heap.size w w2:=hb1.trans (hb2.mono (by omega));have hm:=h.lt;have hT2:Hid (Tst m K r (r+1) true w2):=Za ⟨h.below hB2,hr1.below hb2 hr1.lt,ho2,by omega,by omega⟩;have hB2':=Za hB2;have hE':=Za hE;have hfold:Hid ((w.alloc (.cells #[.map (some m)] 86)).alloc (.cells #[.bool true] 4)=w2):=Za (by rw[hw2,hw1]);have hr':=Za hr;obtain⟨n,hn'⟩:∃y,y=es.length:=⟨_,rfl⟩;rw[←hn']at hn⊢;have hn2:=Za hn';clear hw1 hw2 hb1 hb2 hr1 ho2 hB2 hE hn' hsz1 hm hr;go_enter Tryz.func87,Tryz.ntmps87;go_upto_region 2 with(fail);rw[←hr'.out,hfold.out];clear hfold;go_wp2_with fail;go_loopw [7,10] (fun _ i wl=>∃k:Nat,k≤n∧i= .int .i64 k∧Hid (Tst m K r (r+1) ((es.take k).all (bQ K)) wl)∧Hid (Below w.heap.size w wl)) (fun _ i _=>n-(intOf i).toNat)
 case atStart=>exact⟨0,by omega,rfl,Za (by simpa using hT2.out),hB2'⟩
 clear hT2 hB2';obtain⟨k,hk,rfl,hT,hB⟩:=hrel;rename World=>wl;by_cases hkn:k<n
 ·have hkl:k<es.length:=by rw[←hn2.out];exact hkn
  obtain⟨b,off,v,rfl,hb,hc,hx⟩:=hE'.out.at_ hkl;have qc:=(hB.out.cell (p:=⟨b,off+k,none⟩) hb).trans hc;have qr:=hT.out.hr.cell 0;simp at qr;have hx2:=Za ((hx.apart (o:=r+1) (by have:=hr'.out;omega)).below hB.out);have hst:Hid ((es.take (k+1)).all (bQ K)=((es.take k).all (bQ K)&&bQ K es[k])):=Za (by rw[List.take_add_one,List.getElem?_eq_getElem hkl,Option.toList_some,List.all_append,List.all_cons,List.all_nil,Bool.and_true]);obtain⟨p,rfl⟩:=hx.vp;clear hb hc hx;generalize es[k]=ek at hx2 hst;go_wp2_with fail;refine(iq (Bv m r (r+1) K) (some m) ek wl _ _ hx2.out hT.out).mono ?_;rintro e w3 ⟨rfl,hT3,hW3⟩;rw[lQ]at hT3;have hT4:=Za hT3;have hB4:=Za (hB.out.trans (hW3.below hB.out.size (fun j hj=>by simp at hj;have:=hr'.out;omega)));clear hT3 hW3;go_wp2_with fail;exact⟨⟨k+1,by omega,by simp,Za (by rw[hst.out];exact hT4.out),hB4⟩,by simp[intOf];omega⟩
 ·obtain rfl:k=n:=by omega
  have qo:=hT.out.ho.cell 0;simp at qo;have hal:Hid (es.take k=es):=Za (List.take_of_length_le (by rw[←hn2.out];exact Nat.le_refl _));have hB3:=hB;clear hT hB;go_wp2_with fail;go_ret;exact⟨by rw[hal.out];rfl,hB3.out⟩
theorem oN (w:World) (m:Nat) (K:List UInt8→Nat) (h:eX w m K) (c:Cn) (v:Value) (hC:bC w Evr c v):
  Calls Tryz.prog 90 #[.agg #[.map (some m)],v] w fun e w'=>e= .returned (.bool (kG K c))∧Below w.heap.size w w':=by
 obtain⟨w1,hw1⟩:∃y,y=w.alloc (.cells #[.map (some m)] 86):=⟨_,rfl⟩;obtain⟨w2,hw2⟩:∃y,y=w1.alloc (.cells #[.bool true] 4):=⟨_,rfl⟩;obtain⟨r,hr⟩:∃y,y=w.heap.size:=⟨_,rfl⟩
 have hsz1:w1.heap.size=w.heap.size+1:=by rw[hw1];simp
 have hb1:Below w.heap.size w w1:=by rw[hw1];exact aA w _
 have hb2:Below w1.heap.size w1 w2:=by rw[hw2];exact aA w1 _
 have hr1:Holds w1 r 86 #[.map (some m)]:=by rw[hw1,hr];exact Holds.new w _ _
 have ho2:Holds w2 (r+1) 4 #[.bool true]:=by rw[hw2,hr,←hsz1];exact Holds.new w1 _ _
 have hB2:Below w.heap.size w w2:=hb1.trans (hb2.mono (by omega));have hm:=h.lt;have hT2:Hid (Tst m K r (r+1) true w2):=Za ⟨h.below hB2,hr1.below hb2 hr1.lt,ho2,by omega,by omega⟩;have qr:=hT2.out.hr.cell 0;simp at qr;have hB2':=Za hB2;have hC2:=Za ((hC.apart (o:=r+1) (by omega)).below hB2);have hfold:Hid ((w.alloc (.cells #[.map (some m)] 86)).alloc (.cells #[.bool true] 4)=w2):=Za (by rw[hw2,hw1]);have hr':=Za hr;clear hw1 hw2 hb1 hb2 hr1 ho2 hB2 hC hsz1 hm hr;go_enter Tryz.func90,Tryz.ntmps90;go_upto_region 2 with(fail);rw[←hr'.out,hfold.out];clear hfold;go_wp2_with fail;refine(jX (yJ m r (r+1) K) (yH m r (r+1) K) (some m) c w2 _ _ hC2.out hT2.out).mono ?_;rintro e w3 ⟨rfl,hT3,hW3⟩;rw[rY]at hT3;have qo:=hT3.ho.cell 0;simp at qo;have hB4:=Za (hB2'.out.trans (hW3.below hB2'.out.size (fun j hj=>by simp at hj;have:=hr'.out;omega)));clear hT3 hW3 hT2 hB2' hC2 qr;go_wp2_with fail;go_ret;exact⟨rfl,hB4.out⟩
def fM (K:List UInt8→Nat) (e:Ex):List UInt8:=if dN K e then e.name else []
theorem kU (w:World) (m:Nat) (K:List UInt8→Nat) (h:eX w m K) (e:Ex) (v:Value) (hE:aJ w Evr e v):
  Calls Tryz.prog 86 #[.agg #[.map (some m)],v] w fun e' w'=>e'= .returned (.tuple #[.string (ay (fM K e)),.bool (dN K e)])∧Below w.heap.size w w':=by
 obtain⟨w1,hw1⟩:∃y,y=w.alloc (.cells #[.map (some m)] 86):=⟨_,rfl⟩
 have hb1:Below w.heap.size w w1:=by rw[hw1];exact aA w _
 have hv1:Holds w1 w.heap.size 86 #[.map (some m)]:=by rw[hw1];exact Holds.new w _ _
 obtain⟨r,hr⟩:∃y,y=w.heap.size:=⟨_,rfl⟩;rw[←hr]at hv1;have qr:=hv1.cell 0;simp at qr;have hm1:=Za (h.below hb1);have hB1:=Za hb1;have hr':=Za hr;have hfold:=Za hw1
 cases e with
 |nil=>
  obtain rfl:v= .pointer none:=hE;have hF:Hid (dN K .nil=false∧fM K .nil= []):=Za ⟨rfl,rfl⟩;clear hw1 hb1 hv1 hr;go_enter Tryz.func86,Tryz.ntmps86;go_upto_region 1 with(fail);rw[←hr'.out,←hfold.out];go_wp2_with fail;go_quiet (fail);have hB2:=Za (below_drewN hB1.out nq);go_wp2_with fail
  go_ret2
  exact⟨by rw[hF.out.1,hF.out.2];rfl,hB2.out⟩
 |mk k n x a b=>
  obtain⟨g,va,vb,rfl,hS,hx,hk7,hH,ha,hb⟩:=hE;have hH1:=hH.below hb1 hH.lt;have q0:=hH1.cell 0;have q2:=hH1.cell 2;simp at q0 q2;have ql:=hH1.lt;clear hw1 hb1 hv1 hr hH ha hb;by_cases hk1:k=1
  ·subst hk1;have hF:Hid (dN K (.mk 1 n x a b)=(K x==2)):=Za (by unfold dN;simp);have hF2:Hid (fM K (.mk 1 n x a b)=if K x==2 then x else []):=Za (by unfold fM;rw[hF.out];rfl);go_enter Tryz.func86,Tryz.ntmps86;go_upto_region 1 with(fail);rw[←hr'.out,←hfold.out];go_wp2_with fail
   go_still_tail 16,(by kernel_rfl)
   obtain⟨w2,hw2⟩:∃y,y=w1.drew:=⟨_,rfl⟩;change wpList _ _ _ _ _ w1.drew;rw[←hw2]
   have hd:Below w1.heap.size w1 w2:=by rw[hw2];exact(Below.refl _ w1).drew
   have hm2:=Za (hm1.out.below hd);have hB2:=Za (hB1.out.trans (hd.mono hB1.out.size));have hH2:=Za (hH1.below hd hH1.lt);clear hw2 hd q0 q2 ql qr hH1 hm1 hB1 hfold;go_wp2_with fail;refine(bM w2 m K hm2.out x hx).mono ?_;rintro e w3 ⟨rfl,hb3⟩;have hH3:=hH2.out.below hb3 hH2.out.lt;have q2:=hH3.cell 2;simp at q2;have ql:=hH3.lt;have hB3:=Za (hB2.out.trans (hb3.mono hB2.out.size));clear hb3 hH3 hH2 hB2 hm2
   cases hkx:(K x==2)with
   |true=>
    have hF3:Hid (dN K (.mk 1 n x a b)=true∧fM K (.mk 1 n x a b)=x):=Za ⟨by rw[hF.out];exact hkx,by rw[hF2.out,if_pos hkx]⟩;clear hF hF2 hkx;go_wp2_with fail
    go_ret2
    exact⟨by rw[hF3.out.1,hF3.out.2];rfl,hB3.out⟩
   |false=>
    have hF3:Hid (dN K (.mk 1 n x a b)=false∧fM K (.mk 1 n x a b)= []):=Za ⟨by rw[hF.out];exact hkx,by rw[hF2.out,if_neg (by rw[hkx];simp)]⟩;clear hF hF2 hkx;go_wp2_with fail
    go_ret2
    exact⟨by rw[hF3.out.1,hF3.out.2];rfl,hB3.out⟩
  ·have hkn:((k:Int) !=1)=true:=by simp;omega
   have hF:Hid (dN K (.mk k n x a b)=false∧fM K (.mk k n x a b)= []):=Za (by
    have h1:dN K (.mk k n x a b)=false:=by unfold dN;simp[hk1]
    exact⟨h1,by unfold fM;rw[h1];rfl⟩)
   go_enter Tryz.func86,Tryz.ntmps86;go_upto_region 1 with(fail);rw[←hr'.out,←hfold.out];go_wp2_with fail;go_quiet (fail);have hB2:=Za (below_drewN hB1.out nq);go_wp2_with fail
   go_ret2
   exact⟨by rw[hF.out.1,hF.out.2];rfl,hB2.out⟩
end Go.Proofs.YtpndglghpojjkaaGreat
