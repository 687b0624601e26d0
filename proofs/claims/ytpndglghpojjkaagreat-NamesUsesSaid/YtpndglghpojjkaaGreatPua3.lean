/-
  2 texts of the proof, in one file: no condition.
-/
import Derived.Deep.DeepCutAuto
import Derived.Test.YtpndglghpojjkaaGreatPua2
set_option maxRecDepth 1000000
set_option maxHeartbeats 8000000
namespace Go.Proofs.YtpndglghpojjkaaGreat
open Go.RowKit Go.Deep
theorem Fa {C:PC} {sum:PS→Ex×PS} {t:List UInt8} {s:PS} (h:isF C t s=false) (a:Ex) (k:Nat) (l:List (List UInt8)) (_u:Unit):pW C sum a k (t::l) s=pW C sum a (k+1) l s:=by
 conv=>lhs;unfold pW
 rw[if_neg (by rw[h];simp)]
theorem F9 (k:Nat) (hk:k<6):(#[.string ⟨#[61,61]⟩,.string ⟨#[33,61]⟩,.string ⟨#[60]⟩,.string ⟨#[60,61]⟩,.string ⟨#[62]⟩,.string ⟨#[62,61]⟩]:Array Value)[k]? =some (.string ⟨(vY[k]'hk).toArray⟩):=by
 match k,hk with
 |0,_=>rfl
 |1,_=>rfl
 |2,_=>rfl
 |3,_=>rfl
 |4,_=>rfl
 |5,_=>rfl
theorem xk (m:Nat) (sum:PC→PS→Ex×PS) (cond not_:PC→PS→Cn×PS) (hsum:dG 130 m sum) (hcond:dL 131 (m+1) cond) (hnot:dL 192 (m+1) not_)
  (hs0:∀C s,Stp C s (sum C s).2) (hs1:∀C s,Stp C s (cond C s).2) (hs2:∀C s,Stp C s (not_ C s).2):dL 192 m (fun C=>nG C (sum C) (cond C) (not_ C)):=by
 intro C Z w s hP hm;have hM:=Za (Moved.refl hP);have hlt0:=hP.lt;obtain⟨b1,b2,b3,b4,b5,b6,b7⟩:=hP.bounds;show Calls _ _ _ _ (f_ C Z (nG C (sum C) (cond C) (not_ C) s) w);obtain⟨R,hR⟩:∃x,x=nG C (sum C) (cond C) (not_ C) s:=⟨_,rfl⟩;rw[←hR]
 cases h33:isF C [33] s with
 |true=>
  cases ho:(aV C s).1 with
  |false=>
   have hF:Hid (R=(.nil,(aV C s).2)):=Za (by rw[hR];unfold nG;simp only[h33,ho];rfl);have ho':=Za (iV ho);replace h33:=Za h33;clear hP hR ho;go_enter Tryz.func192,Tryz.ntmps192;go_wp2_with fail;refine(aG hM.out [33] h33.out).mono ?_;rintro e w1 ⟨rfl,h1,-⟩;have h1:=Za h1;go_wp2_with fail;refine(eu h1.out ho'.out).mono ?_;rintro e w2 ⟨rfl,h2,-⟩;have h2:=Za h2;go_wp2_with fail;go_ret;rw[hF.out];exact f_.of h2.out (bC.nil_ _ _)
  |true=>
   obtain⟨e1,_,hlt⟩:=iK ho;have hi:=dD h33;obtain⟨s2,hs2'⟩:∃x,x=(aV C s).2:=⟨_,rfl⟩;obtain⟨r,hr⟩:∃x,x=not_ C s2.next:=⟨_,rfl⟩;have hF:Hid (R=(.mk 8 .nil .nil r.1 .nil [],r.2.shut)):=Za (by rw[hR,hr,hs2'];unfold nG;simp only[h33,ho];rfl);have ho':Hid (aV C s=(true,s2)):=Za (by rw[hs2'];exact iV ho)
   have hi3:s2.i<C.tk.length:=by rw[hs2',e1];exact hi
   have hdp:m+1≤s2.next.deep:=by rw[hs2',e1];simp only[PS.next];omega
   have hd1:1≤r.2.deep:=by rw[hr,(hs2 C s2.next).dp];omega
   replace hr:=Za hr;replace h33:=Za h33;clear hP hR ho e1 hs2';go_enter Tryz.func192,Tryz.ntmps192;go_wp2_with fail;refine(aG hM.out [33] h33.out).mono ?_;rintro e w1 ⟨rfl,h1,-⟩;have h1:=Za h1;go_wp2_with fail;refine(eu h1.out ho'.out).mono ?_;rintro e w2 ⟨rfl,h2,-⟩;obtain⟨a0,d0,d1,d2,d3,d4,d5,d6,dfz⟩:=h2.facts;have h2:=Za h2;have hw1:=dh (i:=s2.i) (by omega);go_wp2_with fail;refine(hnot.from_ (h2.out.next hi3) hdp hr.out.symm).mono ?_;rintro e w3 ⟨p,rfl,h3,hE,-⟩;clear a0 d0 d1 d2 d3 d4 d5 d6 dfz hw1 h2 h1;obtain⟨c1,c2,c3,c4,c5,c6,c7⟩:=h3.bounds;obtain⟨a0,d0,d1,d2,d3,d4,d5,d6,dfz⟩:=h3.facts;have h3:=Za h3;have hE:=Za hE;have hw1:=lK hd1 (by omega);go_wp2_with fail;go_ret;rw[hF.out];have h4:=h3.out.shut hd1;have hst:Writes [some Z.g] w3 (w3.setCell ⟨Z.g,5,none⟩ (.int .i64 ((r.2.deep:Int)-1))):=Writes.store w3 (by simp) _;exact f_.of (h4.below (aA _ _)) (bC.new 8 [] (by decide) (by simp) (Nat.le_trans h3.out.wr.size hst.size) (gV _ _ _).symm (aJ.nil_ _ _) (aJ.nil_ _ _) (hE.out.pw hst hlt0) (bC.nil_ _ _))
 |false=>
  cases h40:isF C [40] s with
  |true=>
   cases ho:(aV C s).1 with
   |false=>
    have hF:Hid (R=(.nil,(aV C s).2)):=Za (by rw[hR];unfold nG;simp only[h33,h40,ho];rfl);have ho':=Za (iV ho);replace h33:=Za h33;replace h40:=Za h40;clear hP hR ho;go_enter Tryz.func192,Tryz.ntmps192;go_wp2_with fail;refine(aG hM.out [33] h33.out).mono ?_;rintro e w1 ⟨rfl,h1,-⟩;have h1:=Za h1;go_wp2_with fail;refine(aG h1.out [40] h40.out).mono ?_;rintro e w2 ⟨rfl,h2,-⟩;have h2:=Za h2;go_wp2_with fail;refine(eu h2.out ho'.out).mono ?_;rintro e w3 ⟨rfl,h3,-⟩;have h3:=Za h3;go_wp2_with fail;go_ret;rw[hF.out];exact f_.of h3.out (bC.nil_ _ _)
   |true=>
    obtain⟨e1,_,hlt⟩:=iK ho;have hi:=dD h40;obtain⟨s2,hs2'⟩:∃x,x=(aV C s).2:=⟨_,rfl⟩;obtain⟨r,hr⟩:∃x,x=cond C s2.next:=⟨_,rfl⟩;obtain⟨s3,hs3⟩:∃x,x=aY C [41] r.2:=⟨_,rfl⟩;have hF:Hid (R=(r.1,s3.shut)):=Za (by rw[hR,hs3,hr,hs2'];unfold nG;simp only[h33,h40,ho];rfl);have ho':Hid (aV C s=(true,s2)):=Za (by rw[hs2'];exact iV ho)
    have hi3:s2.i<C.tk.length:=by rw[hs2',e1];exact hi
    have hdp:m+1≤s2.next.deep:=by rw[hs2',e1];simp only[PS.next];omega
    have hd1:1≤s3.deep:=by rw[hs3,(Stp.want [41] r.2).dp,hr,(hs1 C s2.next).dp];omega
    replace hr:=Za hr;replace hs3:=Za hs3;replace h33:=Za h33;replace h40:=Za h40;clear hP hR ho e1 hs2';go_enter Tryz.func192,Tryz.ntmps192;go_wp2_with fail;refine(aG hM.out [33] h33.out).mono ?_;rintro e w1 ⟨rfl,h1,-⟩;have h1:=Za h1;go_wp2_with fail;refine(aG h1.out [40] h40.out).mono ?_;rintro e w2 ⟨rfl,h2,-⟩;have h2:=Za h2;go_wp2_with fail;refine(eu h2.out ho'.out).mono ?_;rintro e w3 ⟨rfl,h3,-⟩;obtain⟨a0,d0,d1,d2,d3,d4,d5,d6,dfz⟩:=h3.facts;have h3:=Za h3;have hw1:=dh (i:=s2.i) (by omega);go_wp2_with fail;refine(hcond.from_ (h3.out.next hi3) hdp hr.out.symm).mono ?_;rintro e w4 ⟨p,rfl,h4,hE,-⟩;clear a0 d0 d1 d2 d3 d4 d5 d6 dfz hw1 h2 h1 h3;have h4:=Za h4;have hE:=Za hE;go_wp2_with fail;refine(bf h4.out [41] hs3.out.symm).mono ?_;rintro e w5 ⟨rfl,h5,hW5⟩;have hE5:=Za (hE.out.pw hW5 hlt0);clear hW5 hE h4;obtain⟨c1,c2,c3,c4,c5,c6,c7⟩:=h5.bounds;obtain⟨a0,d0,d1,d2,d3,d4,d5,d6,dfz⟩:=h5.facts;have h5:=Za h5;have hw1:=lK hd1 (by omega);go_wp2_with fail;go_ret;rw[hF.out];have h6:=h5.out.shut hd1
    have hst:Writes [some Z.g] w5 (w5.setCell ⟨Z.g,5,none⟩ (.int .i64 ((s3.deep:Int)-1))):=Writes.store w5 (by simp) _;exact f_.of h6 (hE5.out.pw hst hlt0)
  |false=>
   have ng:zM C s=(cu C s&&(decide (s.i+2<C.tk.length)&&(fB C (s.i+2)== [110,117,108,108]&&(fB C (s.i+1)== [61,61]||fB C (s.i+1)== [33,61])))):=rfl;obtain⟨nf,hnf⟩:∃x,x=zM C s:=⟨_,rfl⟩;rw[←hnf]at ng;have rQ:=hP;replace h33:=Za h33;replace h40:=Za h40;replace hR:=Za hR;replace rQ:=Za rQ;replace ng:=Za ng;replace hnf:=Za hnf;clear hP;go_enter Tryz.func192,Tryz.ntmps192;go_wp2_with fail;refine(aG hM.out [33] h33.out).mono ?_;rintro e w1 ⟨rfl,h1,-⟩;replace h1:=Za h1;go_wp2_with fail;refine(aG h1.out [40] h40.out).mono ?_;rintro e w2 ⟨rfl,hgo,-⟩;replace hgo:=Za hgo;clear h1;go_upto_region 16 with(fail);go_cut [118] (fun bv wc=>bv= .bool nf∧Hid (Moved C Z s w wc))
   case first=>
    have hw1:IntKind.i64.wrap ((s.i:Int)+2)=(s.i:Int)+2:=IntWalk.i64_in _ (by omega);have hw2:=dh (i:=s.i) (by omega)
    have p1:(0:Int)≤(s.i:Int)+1:=by omega
    have p2:(0:Int)≤(s.i:Int)+2:=by omega
    have p3:((s.i:Int)+1).toNat=s.i+1:=by omega
    have p4:((s.i:Int)+2).toNat=s.i+2:=by omega
    cases hn:cu C s with
    |false=>
     have hN2:Hid (nf=false):=Za (by rw[ng.out,hn];rfl);replace hn:=Za hn;refine aC ((eqv (.pointer (some ⟨Z.g,0,none⟩)))::(eqv (.bool false))::(eqv (.bool false))::eud::eud::eud::eud::eud::eud::eud::eud::eud::eud::eud::(eqv (.bool false))::(eqv (.bool false))::eud::eud::eud::eud::eud::eud::eud::eud::eud::eud::eud::eud::eud::(eqv (.bool false))::(eqv (.bool false))::eud::eud::eud::eud::eud::eud::eud::eud::eud::eud::eud::eud::eud::eud::eud::eud::eud::eud::eud::eud::eud::eud::eud::eud::eud::eud::eud::eud::(eqv (.bool false))::[])
      ((rn1 0)::(rd1 59 0)::(rd1 60 1)::(rq1 0 61 2)::(rg1 62 3 61 2)::(rg1 63 4 61 2)::(rg1 64 5 61 2)::(rg1 65 6 61 2)::(rq1 0 61 2)::(rg1 67 8 61 2)::(rg1 68 9 61 2)::(rg1 69 10 61 2)::(rg1 70 11 61 2)::⟨[(66,some 7),(71,some 12),(61,some 2)],61,[]⟩::⟨[(61,some 2),(72,some 13)],0,[]⟩::(rd1 73 14)::(rq1 0 74 15)::(rg1 75 16 74 15)::(rg1 76 17 74 15)::(rg1 77 18 74 15)::(rq1 0 74 15)::(rg1 79 20 74 15)::(rg1 80 21 74 15)::(rg1 81 22 74 15)::(rg1 82 23 74 15)::⟨[(78,some 19),(83,some 24),(74,some 15)],74,[]⟩::(rg1 84 25 74 15)::(rg1 85 26 74 15)::(rg1 86 27 74 15)::⟨[(74,some 15),(87,some 28)],0,[]⟩::(rd1 88 29)::(rq1 0 89 30)::(rg1 90 31 89 30)::(rg1 91 32 89 30)::(rg1 92 33 89 30)::(rq1 0 89 30)::(rg1 94 35 89 30)::(rg1 95 36 89 30)::(rg1 96 37 89 30)::(rg1 97 38 89 30)::⟨[(93,some 34),(98,some 39),(89,some 30)],89,[]⟩::(rg1 99 40 89 30)::(rg1 100 41 89 30)::(rg1 101 42 89 30)::(rg1 102 43 89 30)::(rq1 0 103 44)::(rg1 104 45 103 44)::(rg1 105 46 103 44)::(rg1 106 47 103 44)::(rq1 0 103 44)::(rg1 108 49 103 44)::(rg1 109 50 103 44)::(rg1 110 51 103 44)::(rg1 111 52 103 44)::⟨[(107,some 48),(112,some 53),(103,some 44)],103,[]⟩::(rg1 113 54 103 44)::(rg1 114 55 103 44)::(rg1 115 56 103 44)::⟨[(103,some 44),(116,some 57),(89,some 30)],89,[]⟩::⟨[(89,some 30),(117,some 58)],0,[]⟩::[])
      (no::no::no::no::no::no::no::no::no::no::no::no::no::no::no::no::no::no::no::no::no::no::no::no::no::no::no::no::no::no::no::no::no::no::no::no::no::no::no::no::no::no::no::no::no::no::no::no::no::no::no::no::no::no::no::no::no::no::no::so 0::so 1::so 2::so 3::so 4::so 5::so 6::so 7::so 8::so 9::so 10::so 11::so 12::so 13::so 14::so 15::so 16::so 17::so 18::so 19::so 20::so 21::so 22::so 23::so 24::so 25::so 26::so 27::so 28::so 29::so 30::so 31::so 32::so 33::so 34::so 35::so 36::so 37::so 38::so 39::so 40::so 41::so 42::so 43::so 44::so 45::so 46::so 47::so 48::so 49::so 50::so 51::so 52::so 53::so 54::so 55::so 56::so 57::so 58::so 59::[])
      (fun _ w'=>Moved C Z s w w') (fun _ _ _=>True) ?mixK16f ?okK16f ?tabK16f ?frK16f ?inK16f ?keptK16f ?startK16f ?eachK16f ?finK16f
     case mixK16f|okK16f|tabK16f|frK16f=>kernel_rfl
     case inK16f=>rfl
     case keptK16f=>((repeat refine⟨fun _ _ _ _ _ _ _ _ _ _ _ h=>h,?_⟩);exact trivial)
     case startK16f=>exact hgo.out.below (Below.refl _ _).drew
     case eachK16f=>
      repeat' first|exact trivial|refine And.intro ?_ ?_
      ·intro w L f hC hLi hLd hLn ⟨d,_⟩;refine au.live rfl ?_;exact aj (v:=f 0) rfl (hC) (trivial) d
      ·intro w L f hC hLi hLd hLn ⟨a,_⟩;change _=_ at a;refine au.live rfl ?_;obtain⟨ev,ec,ef⟩:=evs f;refine aF (f:=64) (args:= #[.pointer (some ⟨Z.g,0,none⟩)]) (w:=w) (by go_simp) (aX hC hn.out) ?_;rintro e w1 ⟨he,h1,-⟩;exact⟨_,he,h1,trivial,rfl⟩
      ·intro w L f hC hLi hLd hLn ⟨d,_⟩;refine au.live rfl ?_;exact aj (v:=f 60) rfl (hC) (trivial) d
      iterate 10 (intro w L f hC hLi hLd hLn ⟨_,d,_⟩;refine aI.dead (show ak _ (f 61)=false by rw[show f 61=_ from d];rfl) (hC) ?_ (trivial);exact rfl)
      ·intro w L f hC hLi hLd hLn ⟨_,_,d,_⟩;refine aI.dead (show ak _ (f 61)=false by rw[show f 61=_ from d];rfl) (hC) ?_ (trivial);exact rfl
      ·intro w L f hC hLi hLd hLn ⟨a,b,_⟩;change _=_ at a b;refine au.live rfl ?_;obtain⟨u0,u1,u2,u3,u4,u5,u6,u7,ufz⟩:=hC.facts;obtain⟨ev,ec,ef⟩:=evs f;refine aj ?_ hC trivial rfl;go_simp
      ·intro w L f hC hLi hLd hLn ⟨d,_⟩;refine au.live rfl ?_;exact aj (v:=f 73) rfl (hC) (trivial) d
      iterate 9 (intro w L f hC hLi hLd hLn ⟨_,d,_⟩;refine aI.dead (show ak _ (f 74)=false by rw[show f 74=_ from d];rfl) (hC) ?_ (trivial);exact rfl)
      ·intro w L f hC hLi hLd hLn ⟨_,_,d,_⟩;refine aI.dead (show ak _ (f 74)=false by rw[show f 74=_ from d];rfl) (hC) ?_ (trivial);exact rfl
      iterate 3 (intro w L f hC hLi hLd hLn ⟨_,d,_⟩;refine aI.dead (show ak _ (f 74)=false by rw[show f 74=_ from d];rfl) (hC) ?_ (trivial);exact rfl)
      ·intro w L f hC hLi hLd hLn ⟨a,b,_⟩;change _=_ at a b;refine au.live rfl ?_;obtain⟨u0,u1,u2,u3,u4,u5,u6,u7,ufz⟩:=hC.facts;obtain⟨ev,ec,ef⟩:=evs f;refine aj ?_ hC trivial rfl;go_simp
      ·intro w L f hC hLi hLd hLn ⟨d,_⟩;refine au.live rfl ?_;exact aj (v:=f 88) rfl (hC) (trivial) d
      iterate 9 (intro w L f hC hLi hLd hLn ⟨_,d,_⟩;refine aI.dead (show ak _ (f 89)=false by rw[show f 89=_ from d];rfl) (hC) ?_ (trivial);exact rfl)
      ·intro w L f hC hLi hLd hLn ⟨_,_,d,_⟩;refine aI.dead (show ak _ (f 89)=false by rw[show f 89=_ from d];rfl) (hC) ?_ (trivial);exact rfl
      iterate 4 (intro w L f hC hLi hLd hLn ⟨_,d,_⟩;refine aI.dead (show ak _ (f 89)=false by rw[show f 89=_ from d];rfl) (hC) ?_ (trivial);exact rfl)
      iterate 9 (intro w L f hC hLi hLd hLn ⟨_,d,_⟩;refine aI.dead (show ak _ (f 103)=false by rw[show f 103=_ from d];rfl) (hC) ?_ (trivial);exact rfl)
      ·intro w L f hC hLi hLd hLn ⟨_,_,d,_⟩;refine aI.dead (show ak _ (f 103)=false by rw[show f 103=_ from d];rfl) (hC) ?_ (trivial);exact rfl
      iterate 3 (intro w L f hC hLi hLd hLn ⟨_,d,_⟩;refine aI.dead (show ak _ (f 103)=false by rw[show f 103=_ from d];rfl) (hC) ?_ (trivial);exact rfl)
      ·intro w L f hC hLi hLd hLn ⟨_,_,d,_⟩;refine aI.dead (show ak _ (f 89)=false by rw[show f 89=_ from d];rfl) (hC) ?_ (trivial);exact rfl
      ·intro w L f hC hLi hLd hLn ⟨a,b,_⟩;change _=_ at a b;refine au.live rfl ?_;obtain⟨u0,u1,u2,u3,u4,u5,u6,u7,ufz⟩:=hC.facts;obtain⟨ev,ec,ef⟩:=evs f;refine aj ?_ hC trivial rfl;go_simp
     intro x w' hC hV
     have e0:x 59= .bool nf:=(hV 59 _ rfl rfl).trans (by rw[hN2.out]);clear hV;simp only[framed];rw[e0];have hC:=Za hC;go_wp2_with fail
     go_meet
     case rel=>exact⟨rfl,hC⟩
    |true=>
     by_cases hi2:s.i+2<C.tk.length
     case neg=>
      have hi2':¬((s.i:Int)+2<(C.tk.length:Int)):=by omega
      have hN2:Hid (nf=false):=Za (by rw[ng.out,decide_eq_false hi2];simp);replace hn:=Za hn;refine aC ((eqv (.pointer (some ⟨Z.g,0,none⟩)))::(eqv (.bool true))::(eqv (.bool true))::(eqv (.pointer (some ⟨Z.g,0,none⟩)))::(eqv (.pointer (some ⟨Z.g,0,none⟩)))::(eqv (.pointer (some ⟨Z.g,1,none⟩)))::(eqv (.int .i64 ((s.i:Int))))::(eqv (.int .i64 ((s.i:Int)+2)))::(eqv (.pointer (some ⟨Z.g,0,none⟩)))::(eqv (.pointer (some ⟨Z.g,0,none⟩)))::(eqv (.pointer (some ⟨Z.g,0,none⟩)))::(eqv (.slice Z.A C.tk.length Z.c))::(eqv (.int .i64 ((C.tk.length:Int))))::(eqv (.bool false))::(eqv (.bool false))::(eqv (.bool false))::eud::eud::eud::eud::eud::eud::eud::eud::eud::eud::eud::eud::eud::(eqv (.bool false))::(eqv (.bool false))::eud::eud::eud::eud::eud::eud::eud::eud::eud::eud::eud::eud::eud::eud::eud::eud::eud::eud::eud::eud::eud::eud::eud::eud::eud::eud::eud::eud::(eqv (.bool false))::[])
       ((rn1 0)::(rd1 59 0)::(rd1 60 1)::(rq1 0 61 2)::(rg1 62 3 61 2)::(rg1 63 4 61 2)::(rg1 64 5 61 2)::(rg1 65 6 61 2)::(rq1 0 61 2)::(rg1 67 8 61 2)::(rg1 68 9 61 2)::(rg1 69 10 61 2)::(rg1 70 11 61 2)::⟨[(66,some 7),(71,some 12),(61,some 2)],61,[]⟩::⟨[(61,some 2),(72,some 13)],0,[]⟩::(rd1 73 14)::(rq1 0 74 15)::(rg1 75 16 74 15)::(rg1 76 17 74 15)::(rg1 77 18 74 15)::(rq1 0 74 15)::(rg1 79 20 74 15)::(rg1 80 21 74 15)::(rg1 81 22 74 15)::(rg1 82 23 74 15)::⟨[(78,some 19),(83,some 24),(74,some 15)],74,[]⟩::(rg1 84 25 74 15)::(rg1 85 26 74 15)::(rg1 86 27 74 15)::⟨[(74,some 15),(87,some 28)],0,[]⟩::(rd1 88 29)::(rq1 0 89 30)::(rg1 90 31 89 30)::(rg1 91 32 89 30)::(rg1 92 33 89 30)::(rq1 0 89 30)::(rg1 94 35 89 30)::(rg1 95 36 89 30)::(rg1 96 37 89 30)::(rg1 97 38 89 30)::⟨[(93,some 34),(98,some 39),(89,some 30)],89,[]⟩::(rg1 99 40 89 30)::(rg1 100 41 89 30)::(rg1 101 42 89 30)::(rg1 102 43 89 30)::(rq1 0 103 44)::(rg1 104 45 103 44)::(rg1 105 46 103 44)::(rg1 106 47 103 44)::(rq1 0 103 44)::(rg1 108 49 103 44)::(rg1 109 50 103 44)::(rg1 110 51 103 44)::(rg1 111 52 103 44)::⟨[(107,some 48),(112,some 53),(103,some 44)],103,[]⟩::(rg1 113 54 103 44)::(rg1 114 55 103 44)::(rg1 115 56 103 44)::⟨[(103,some 44),(116,some 57),(89,some 30)],89,[]⟩::⟨[(89,some 30),(117,some 58)],0,[]⟩::[])
       (no::no::no::no::no::no::no::no::no::no::no::no::no::no::no::no::no::no::no::no::no::no::no::no::no::no::no::no::no::no::no::no::no::no::no::no::no::no::no::no::no::no::no::no::no::no::no::no::no::no::no::no::no::no::no::no::no::no::no::so 0::so 1::so 2::so 3::so 4::so 5::so 6::so 7::so 8::so 9::so 10::so 11::so 12::so 13::so 14::so 15::so 16::so 17::so 18::so 19::so 20::so 21::so 22::so 23::so 24::so 25::so 26::so 27::so 28::so 29::so 30::so 31::so 32::so 33::so 34::so 35::so 36::so 37::so 38::so 39::so 40::so 41::so 42::so 43::so 44::so 45::so 46::so 47::so 48::so 49::so 50::so 51::so 52::so 53::so 54::so 55::so 56::so 57::so 58::so 59::[])
       (fun _ w'=>Moved C Z s w w') (fun _ _ _=>True) ?mixK16tf ?okK16tf ?tabK16tf ?frK16tf ?inK16tf ?keptK16tf ?startK16tf ?eachK16tf ?finK16tf
      case mixK16tf|okK16tf|tabK16tf|frK16tf=>kernel_rfl
      case inK16tf=>rfl
      case keptK16tf=>((repeat refine⟨fun _ _ _ _ _ _ _ _ _ _ _ h=>h,?_⟩);exact trivial)
      case startK16tf=>exact hgo.out.below (Below.refl _ _).drew
      case eachK16tf=>
       repeat' first|exact trivial|refine And.intro ?_ ?_
       ·intro w L f hC hLi hLd hLn ⟨d,_⟩;refine au.live rfl ?_;exact aj (v:=f 0) rfl (hC) (trivial) d
       ·intro w L f hC hLi hLd hLn ⟨a,_⟩;change _=_ at a;refine au.live rfl ?_;obtain⟨ev,ec,ef⟩:=evs f;refine aF (f:=64) (args:= #[.pointer (some ⟨Z.g,0,none⟩)]) (w:=w) (by go_simp) (aX hC hn.out) ?_;rintro e w1 ⟨he,h1,-⟩;exact⟨_,he,h1,trivial,rfl⟩
       ·intro w L f hC hLi hLd hLn ⟨d,_⟩;refine au.live rfl ?_;exact aj (v:=f 60) rfl (hC) (trivial) d
       ·intro w L f hC hLi hLd hLn ⟨d0,d61,_⟩;change _=_ at d0 d61;refine au.live (show ak _ (f 61)=true by rw[d61];rfl) ?_;exact aj (v:=f 0) rfl (hC) (trivial) d0
       iterate 4 (intro w L f hC hLi hLd hLn ⟨a,d61,_⟩;change _=_ at a d61;refine au.live (show ak _ (f 61)=true by rw[d61];rfl) ?_;obtain⟨u0,u1,u2,u3,u4,u5,u6,u7,ufz⟩:=hC.facts;obtain⟨ev,ec,ef⟩:=evs f;refine aj ?_ hC trivial rfl;go_simp)
       ·intro w L f hC hLi hLd hLn ⟨d0,d61,_⟩;change _=_ at d0 d61;refine au.live (show ak _ (f 61)=true by rw[d61];rfl) ?_;exact aj (v:=f 0) rfl (hC) (trivial) d0
       iterate 4 (intro w L f hC hLi hLd hLn ⟨a,d61,_⟩;change _=_ at a d61;refine au.live (show ak _ (f 61)=true by rw[d61];rfl) ?_;obtain⟨u0,u1,u2,u3,u4,u5,u6,u7,ufz⟩:=hC.facts;obtain⟨ev,ec,ef⟩:=evs f;refine aj ?_ hC trivial rfl;go_simp)
       ·intro w L f hC hLi hLd hLn ⟨a,b,d61,_⟩;change _=_ at a b d61;refine au.live (show ak _ (f 61)=true by rw[d61];rfl) ?_;obtain⟨u0,u1,u2,u3,u4,u5,u6,u7,ufz⟩:=hC.facts;obtain⟨ev,ec,ef⟩:=evs f;refine aj ?_ hC trivial rfl;go_simp
       ·intro w L f hC hLi hLd hLn ⟨a,b,_⟩;change _=_ at a b;refine au.live rfl ?_;obtain⟨u0,u1,u2,u3,u4,u5,u6,u7,ufz⟩:=hC.facts;obtain⟨ev,ec,ef⟩:=evs f;refine aj ?_ hC trivial rfl;go_simp
       ·intro w L f hC hLi hLd hLn ⟨d,_⟩;refine au.live rfl ?_;exact aj (v:=f 73) rfl (hC) (trivial) d
       iterate 9 (intro w L f hC hLi hLd hLn ⟨_,d,_⟩;refine aI.dead (show ak _ (f 74)=false by rw[show f 74=_ from d];rfl) (hC) ?_ (trivial);exact rfl)
       ·intro w L f hC hLi hLd hLn ⟨_,_,d,_⟩;refine aI.dead (show ak _ (f 74)=false by rw[show f 74=_ from d];rfl) (hC) ?_ (trivial);exact rfl
       iterate 3 (intro w L f hC hLi hLd hLn ⟨_,d,_⟩;refine aI.dead (show ak _ (f 74)=false by rw[show f 74=_ from d];rfl) (hC) ?_ (trivial);exact rfl)
       ·intro w L f hC hLi hLd hLn ⟨a,b,_⟩;change _=_ at a b;refine au.live rfl ?_;obtain⟨u0,u1,u2,u3,u4,u5,u6,u7,ufz⟩:=hC.facts;obtain⟨ev,ec,ef⟩:=evs f;refine aj ?_ hC trivial rfl;go_simp
       ·intro w L f hC hLi hLd hLn ⟨d,_⟩;refine au.live rfl ?_;exact aj (v:=f 88) rfl (hC) (trivial) d
       iterate 9 (intro w L f hC hLi hLd hLn ⟨_,d,_⟩;refine aI.dead (show ak _ (f 89)=false by rw[show f 89=_ from d];rfl) (hC) ?_ (trivial);exact rfl)
       ·intro w L f hC hLi hLd hLn ⟨_,_,d,_⟩;refine aI.dead (show ak _ (f 89)=false by rw[show f 89=_ from d];rfl) (hC) ?_ (trivial);exact rfl
       iterate 4 (intro w L f hC hLi hLd hLn ⟨_,d,_⟩;refine aI.dead (show ak _ (f 89)=false by rw[show f 89=_ from d];rfl) (hC) ?_ (trivial);exact rfl)
       iterate 9 (intro w L f hC hLi hLd hLn ⟨_,d,_⟩;refine aI.dead (show ak _ (f 103)=false by rw[show f 103=_ from d];rfl) (hC) ?_ (trivial);exact rfl)
       ·intro w L f hC hLi hLd hLn ⟨_,_,d,_⟩;refine aI.dead (show ak _ (f 103)=false by rw[show f 103=_ from d];rfl) (hC) ?_ (trivial);exact rfl
       iterate 3 (intro w L f hC hLi hLd hLn ⟨_,d,_⟩;refine aI.dead (show ak _ (f 103)=false by rw[show f 103=_ from d];rfl) (hC) ?_ (trivial);exact rfl)
       ·intro w L f hC hLi hLd hLn ⟨_,_,d,_⟩;refine aI.dead (show ak _ (f 89)=false by rw[show f 89=_ from d];rfl) (hC) ?_ (trivial);exact rfl
       ·intro w L f hC hLi hLd hLn ⟨a,b,_⟩;change _=_ at a b;refine au.live rfl ?_;obtain⟨u0,u1,u2,u3,u4,u5,u6,u7,ufz⟩:=hC.facts;obtain⟨ev,ec,ef⟩:=evs f;refine aj ?_ hC trivial rfl;go_simp
      intro x w' hC hV
      have e0:x 59= .bool nf:=(hV 59 _ rfl rfl).trans (by rw[hN2.out]);clear hV;simp only[framed];rw[e0];have hC:=Za hC;go_wp2_with fail
      go_meet
      case rel=>exact⟨rfl,hC⟩
     case pos=>
      obtain⟨x2,hx2⟩:∃x,C.tk[s.i+2]? =some x:=⟨_,List.getElem?_eq_getElem hi2⟩;obtain⟨x1,hx1⟩:∃x,C.tk[s.i+1]? =some x:=⟨_,List.getElem?_eq_getElem (by omega)⟩;obtain⟨b,off,hA,hbg,_⟩:=rQ.out.tok (k:=s.i) (by omega)
      have hT2:fB C (s.i+2)=x2.t:=by unfold fB;rw[hx2]
      have hT1:fB C (s.i+1)=x1.t:=by unfold fB;rw[hx1]
      have hN:nf=((x2.t== [110,117,108,108])&&((x1.t== [61,61])|| (x1.t== [33,61]))):=by rw[ng.out,hn,hT1,hT2,decide_eq_true hi2];rfl
      have hi2':((s.i:Int)+2<(C.tk.length:Int)):=by omega
      have p5:(s.i:Int)+1<(C.tk.length:Int):=by omega
      clear hT1 hT2;replace hn:=Za hn;replace hx2:=Za hx2;replace hx1:=Za hx1;by_cases q2:x2.t= [110,117,108,108]
      case neg=>
       have k2:((ay x2.t).toList== [110,117,108,108])=false:=by rw[aH];simpa using q2
       have hN2:Hid (nf=false):=Za (by rw[hN,show(x2.t== [110,117,108,108])=false by simpa using q2];rfl);clear hN q2
       refine aC ((eqv (.pointer (some ⟨Z.g,0,none⟩)))::(eqv (.bool true))::(eqv (.bool true))::(eqv (.pointer (some ⟨Z.g,0,none⟩)))::(eqv (.pointer (some ⟨Z.g,0,none⟩)))::(eqv (.pointer (some ⟨Z.g,1,none⟩)))::(eqv (.int .i64 ((s.i:Int))))::(eqv (.int .i64 ((s.i:Int)+2)))::(eqv (.pointer (some ⟨Z.g,0,none⟩)))::(eqv (.pointer (some ⟨Z.g,0,none⟩)))::(eqv (.pointer (some ⟨Z.g,0,none⟩)))::(eqv (.slice (some ⟨b,off,none⟩) C.tk.length Z.c))::(eqv (.int .i64 ((C.tk.length:Int))))::(eqv (.bool true))::(eqv (.bool true))::(eqv (.bool true))::(eqv (.pointer (some ⟨Z.g,0,none⟩)))::(eqv (.pointer (some ⟨Z.g,0,none⟩)))::(eqv (.pointer (some ⟨Z.g,0,none⟩)))::(eqv (.slice (some ⟨b,off,none⟩) C.tk.length Z.c))::(eqv (.pointer (some ⟨Z.g,0,none⟩)))::(eqv (.pointer (some ⟨Z.g,0,none⟩)))::(eqv (.pointer (some ⟨Z.g,1,none⟩)))::(eqv (.int .i64 ((s.i:Int))))::(eqv (.int .i64 ((s.i:Int)+2)))::(eqv (.pointer (some ⟨b,off+(s.i+2)*3,none⟩)))::(eqv (.pointer (some ⟨b,off+(s.i+2)*3+1,none⟩)))::(eqv (.string (ay x2.t)))::(eqv (.bool false))::(eqv (.bool false))::(eqv (.bool false))::eud::eud::eud::eud::eud::eud::eud::eud::eud::eud::eud::eud::eud::eud::eud::eud::eud::eud::eud::eud::eud::eud::eud::eud::eud::eud::eud::eud::(eqv (.bool false))::[])
        ((rn1 0)::(rd1 59 0)::(rd1 60 1)::(rq1 0 61 2)::(rg1 62 3 61 2)::(rg1 63 4 61 2)::(rg1 64 5 61 2)::(rg1 65 6 61 2)::(rq1 0 61 2)::(rg1 67 8 61 2)::(rg1 68 9 61 2)::(rg1 69 10 61 2)::(rg1 70 11 61 2)::⟨[(66,some 7),(71,some 12),(61,some 2)],61,[]⟩::⟨[(61,some 2),(72,some 13)],0,[]⟩::(rd1 73 14)::(rq1 0 74 15)::(rg1 75 16 74 15)::(rg1 76 17 74 15)::(rg1 77 18 74 15)::(rq1 0 74 15)::(rg1 79 20 74 15)::(rg1 80 21 74 15)::(rg1 81 22 74 15)::(rg1 82 23 74 15)::⟨[(78,some 19),(83,some 24),(74,some 15)],74,[]⟩::(rg1 84 25 74 15)::(rg1 85 26 74 15)::(rg1 86 27 74 15)::⟨[(74,some 15),(87,some 28)],0,[]⟩::(rd1 88 29)::(rq1 0 89 30)::(rg1 90 31 89 30)::(rg1 91 32 89 30)::(rg1 92 33 89 30)::(rq1 0 89 30)::(rg1 94 35 89 30)::(rg1 95 36 89 30)::(rg1 96 37 89 30)::(rg1 97 38 89 30)::⟨[(93,some 34),(98,some 39),(89,some 30)],89,[]⟩::(rg1 99 40 89 30)::(rg1 100 41 89 30)::(rg1 101 42 89 30)::(rg1 102 43 89 30)::(rq1 0 103 44)::(rg1 104 45 103 44)::(rg1 105 46 103 44)::(rg1 106 47 103 44)::(rq1 0 103 44)::(rg1 108 49 103 44)::(rg1 109 50 103 44)::(rg1 110 51 103 44)::(rg1 111 52 103 44)::⟨[(107,some 48),(112,some 53),(103,some 44)],103,[]⟩::(rg1 113 54 103 44)::(rg1 114 55 103 44)::(rg1 115 56 103 44)::⟨[(103,some 44),(116,some 57),(89,some 30)],89,[]⟩::⟨[(89,some 30),(117,some 58)],0,[]⟩::[])
        (no::no::no::no::no::no::no::no::no::no::no::no::no::no::no::no::no::no::no::no::no::no::no::no::no::no::no::no::no::no::no::no::no::no::no::no::no::no::no::no::no::no::no::no::no::no::no::no::no::no::no::no::no::no::no::no::no::no::no::so 0::so 1::so 2::so 3::so 4::so 5::so 6::so 7::so 8::so 9::so 10::so 11::so 12::so 13::so 14::so 15::so 16::so 17::so 18::so 19::so 20::so 21::so 22::so 23::so 24::so 25::so 26::so 27::so 28::so 29::so 30::so 31::so 32::so 33::so 34::so 35::so 36::so 37::so 38::so 39::so 40::so 41::so 42::so 43::so 44::so 45::so 46::so 47::so 48::so 49::so 50::so 51::so 52::so 53::so 54::so 55::so 56::so 57::so 58::so 59::[])
        (fun _ w'=>Moved C Z s w w') (fun _ _ _=>True) ?mixK16ttf ?okK16ttf ?tabK16ttf ?frK16ttf ?inK16ttf ?keptK16ttf ?startK16ttf ?eachK16ttf ?finK16ttf
       case mixK16ttf|okK16ttf|tabK16ttf|frK16ttf=>kernel_rfl
       case inK16ttf=>rfl
       case keptK16ttf=>((repeat refine⟨fun _ _ _ _ _ _ _ _ _ _ _ h=>h,?_⟩);exact trivial)
       case startK16ttf=>exact hgo.out.below (Below.refl _ _).drew
       case eachK16ttf=>
        repeat' first|exact trivial|refine And.intro ?_ ?_
        ·intro w L f hC hLi hLd hLn ⟨d,_⟩;refine au.live rfl ?_;exact aj (v:=f 0) rfl (hC) (trivial) d
        ·intro w L f hC hLi hLd hLn ⟨a,_⟩;change _=_ at a;refine au.live rfl ?_;obtain⟨ev,ec,ef⟩:=evs f;refine aF (f:=64) (args:= #[.pointer (some ⟨Z.g,0,none⟩)]) (w:=w) (by go_simp) (aX hC hn.out) ?_;rintro e w1 ⟨he,h1,-⟩;exact⟨_,he,h1,trivial,rfl⟩
        ·intro w L f hC hLi hLd hLn ⟨d,_⟩;refine au.live rfl ?_;exact aj (v:=f 60) rfl (hC) (trivial) d
        ·intro w L f hC hLi hLd hLn ⟨d0,d61,_⟩;change _=_ at d0 d61;refine au.live (show ak _ (f 61)=true by rw[d61];rfl) ?_;exact aj (v:=f 0) rfl (hC) (trivial) d0
        iterate 4 (intro w L f hC hLi hLd hLn ⟨a,d61,_⟩;change _=_ at a d61;refine au.live (show ak _ (f 61)=true by rw[d61];rfl) ?_;obtain⟨u0,u1,u2,u3,u4,u5,u6,u7,ufz⟩:=hC.facts;obtain⟨ev,ec,ef⟩:=evs f;refine aj ?_ hC trivial rfl;go_simp)
        ·intro w L f hC hLi hLd hLn ⟨d0,d61,_⟩;change _=_ at d0 d61;refine au.live (show ak _ (f 61)=true by rw[d61];rfl) ?_;exact aj (v:=f 0) rfl (hC) (trivial) d0
        iterate 4 (intro w L f hC hLi hLd hLn ⟨a,d61,_⟩;change _=_ at a d61;refine au.live (show ak _ (f 61)=true by rw[d61];rfl) ?_;obtain⟨u0,u1,u2,u3,u4,u5,u6,u7,ufz⟩:=hC.facts;obtain⟨ev,ec,ef⟩:=evs f;refine aj ?_ hC trivial rfl;go_simp)
        ·intro w L f hC hLi hLd hLn ⟨a,b,d61,_⟩;change _=_ at a b d61;refine au.live (show ak _ (f 61)=true by rw[d61];rfl) ?_;obtain⟨u0,u1,u2,u3,u4,u5,u6,u7,ufz⟩:=hC.facts;obtain⟨ev,ec,ef⟩:=evs f;refine aj ?_ hC trivial rfl;go_simp
        ·intro w L f hC hLi hLd hLn ⟨a,b,_⟩;change _=_ at a b;refine au.live rfl ?_;obtain⟨u0,u1,u2,u3,u4,u5,u6,u7,ufz⟩:=hC.facts;obtain⟨ev,ec,ef⟩:=evs f;refine aj ?_ hC trivial rfl;go_simp
        ·intro w L f hC hLi hLd hLn ⟨d,_⟩;refine au.live rfl ?_;exact aj (v:=f 73) rfl (hC) (trivial) d
        ·intro w L f hC hLi hLd hLn ⟨d0,d74,_⟩;change _=_ at d0 d74;refine au.live (show ak _ (f 74)=true by rw[d74];rfl) ?_;exact aj (v:=f 0) rfl (hC) (trivial) d0
        iterate 3 (intro w L f hC hLi hLd hLn ⟨a,d74,_⟩;change _=_ at a d74;refine au.live (show ak _ (f 74)=true by rw[d74];rfl) ?_;obtain⟨u0,u1,u2,u3,u4,u5,u6,u7,ufz⟩:=hC.facts;obtain⟨ev,ec,ef⟩:=evs f;refine aj ?_ hC trivial rfl;go_simp)
        ·intro w L f hC hLi hLd hLn ⟨d0,d74,_⟩;change _=_ at d0 d74;refine au.live (show ak _ (f 74)=true by rw[d74];rfl) ?_;exact aj (v:=f 0) rfl (hC) (trivial) d0
        iterate 4 (intro w L f hC hLi hLd hLn ⟨a,d74,_⟩;change _=_ at a d74;refine au.live (show ak _ (f 74)=true by rw[d74];rfl) ?_;obtain⟨u0,u1,u2,u3,u4,u5,u6,u7,ufz⟩:=hC.facts;obtain⟨ev,ec,ef⟩:=evs f;refine aj ?_ hC trivial rfl;go_simp)
        ·intro w L f hC hLi hLd hLn ⟨a,b,d74,_⟩;change _=_ at a b d74;refine au.live (show ak _ (f 74)=true by rw[d74];rfl) ?_;obtain⟨u0,u1,u2,u3,u4,u5,u6,u7,ufz⟩:=hC.facts;obtain⟨ev,ec,ef⟩:=evs f;refine aj ?_ hC trivial rfl;go_simp
        ·intro w L f hC hLi hLd hLn ⟨a,d74,_⟩;change _=_ at a d74;refine au.live (show ak _ (f 74)=true by rw[d74];rfl) ?_;obtain⟨u0,u1,u2,u3,u4,u5,u6,u7,ufz⟩:=hC.facts;obtain⟨ev,ec,ef⟩:=evs f;refine aj ?_ hC trivial rfl;go_simp
        ·intro w L f hC hLi hLd hLn ⟨a,d74,_⟩;change _=_ at a d74;refine au.live (show ak _ (f 74)=true by rw[d74];rfl) ?_;obtain⟨u0,u1,u2⟩:=hC.tok hx2.out hA;obtain⟨ev,ec,ef⟩:=evs f;refine aj ?_ hC trivial rfl;go_simp
        ·intro w L f hC hLi hLd hLn ⟨a,d74,_⟩;change _=_ at a d74;refine au.live (show ak _ (f 74)=true by rw[d74];rfl) ?_;obtain⟨u0,u1,u2,u3,u4,u5,u6,u7,ufz⟩:=hC.facts;obtain⟨ev,ec,ef⟩:=evs f;refine aj ?_ hC trivial rfl;go_simp
        ·intro w L f hC hLi hLd hLn ⟨a,b,_⟩;change _=_ at a b;refine au.live rfl ?_;obtain⟨u0,u1,u2,u3,u4,u5,u6,u7,ufz⟩:=hC.facts;obtain⟨ev,ec,ef⟩:=evs f;refine aj ?_ hC trivial rfl;go_simp
        ·intro w L f hC hLi hLd hLn ⟨d,_⟩;refine au.live rfl ?_;exact aj (v:=f 88) rfl (hC) (trivial) d
        iterate 9 (intro w L f hC hLi hLd hLn ⟨_,d,_⟩;refine aI.dead (show ak _ (f 89)=false by rw[show f 89=_ from d];rfl) (hC) ?_ (trivial);exact rfl)
        ·intro w L f hC hLi hLd hLn ⟨_,_,d,_⟩;refine aI.dead (show ak _ (f 89)=false by rw[show f 89=_ from d];rfl) (hC) ?_ (trivial);exact rfl
        iterate 4 (intro w L f hC hLi hLd hLn ⟨_,d,_⟩;refine aI.dead (show ak _ (f 89)=false by rw[show f 89=_ from d];rfl) (hC) ?_ (trivial);exact rfl)
        iterate 9 (intro w L f hC hLi hLd hLn ⟨_,d,_⟩;refine aI.dead (show ak _ (f 103)=false by rw[show f 103=_ from d];rfl) (hC) ?_ (trivial);exact rfl)
        ·intro w L f hC hLi hLd hLn ⟨_,_,d,_⟩;refine aI.dead (show ak _ (f 103)=false by rw[show f 103=_ from d];rfl) (hC) ?_ (trivial);exact rfl
        iterate 3 (intro w L f hC hLi hLd hLn ⟨_,d,_⟩;refine aI.dead (show ak _ (f 103)=false by rw[show f 103=_ from d];rfl) (hC) ?_ (trivial);exact rfl)
        ·intro w L f hC hLi hLd hLn ⟨_,_,d,_⟩;refine aI.dead (show ak _ (f 89)=false by rw[show f 89=_ from d];rfl) (hC) ?_ (trivial);exact rfl
        ·intro w L f hC hLi hLd hLn ⟨a,b,_⟩;change _=_ at a b;refine au.live rfl ?_;obtain⟨u0,u1,u2,u3,u4,u5,u6,u7,ufz⟩:=hC.facts;obtain⟨ev,ec,ef⟩:=evs f;refine aj ?_ hC trivial rfl;go_simp
       intro x w' hC hV
       have e0:x 59= .bool nf:=(hV 59 _ rfl rfl).trans (by rw[hN2.out]);clear hV;simp only[framed];rw[e0];have hC:=Za hC;go_wp2_with fail
       go_meet
       case rel=>exact⟨rfl,hC⟩
      case pos=>
       have k2:((ay x2.t).toList== [110,117,108,108])=true:=by rw[aH,q2];rfl
       by_cases q1:x1.t= [61,61]
       case pos=>
        have k1:((ay x1.t).toList== [61,61])=true:=by rw[aH,q1];rfl
        have hN2:Hid (nf=true):=Za (by rw[hN,q1,q2];rfl);clear hN q2 q1
        refine aC ((eqv (.pointer (some ⟨Z.g,0,none⟩)))::(eqv (.bool true))::(eqv (.bool true))::(eqv (.pointer (some ⟨Z.g,0,none⟩)))::(eqv (.pointer (some ⟨Z.g,0,none⟩)))::(eqv (.pointer (some ⟨Z.g,1,none⟩)))::(eqv (.int .i64 ((s.i:Int))))::(eqv (.int .i64 ((s.i:Int)+2)))::(eqv (.pointer (some ⟨Z.g,0,none⟩)))::(eqv (.pointer (some ⟨Z.g,0,none⟩)))::(eqv (.pointer (some ⟨Z.g,0,none⟩)))::(eqv (.slice (some ⟨b,off,none⟩) C.tk.length Z.c))::(eqv (.int .i64 ((C.tk.length:Int))))::(eqv (.bool true))::(eqv (.bool true))::(eqv (.bool true))::(eqv (.pointer (some ⟨Z.g,0,none⟩)))::(eqv (.pointer (some ⟨Z.g,0,none⟩)))::(eqv (.pointer (some ⟨Z.g,0,none⟩)))::(eqv (.slice (some ⟨b,off,none⟩) C.tk.length Z.c))::(eqv (.pointer (some ⟨Z.g,0,none⟩)))::(eqv (.pointer (some ⟨Z.g,0,none⟩)))::(eqv (.pointer (some ⟨Z.g,1,none⟩)))::(eqv (.int .i64 ((s.i:Int))))::(eqv (.int .i64 ((s.i:Int)+2)))::(eqv (.pointer (some ⟨b,off+(s.i+2)*3,none⟩)))::(eqv (.pointer (some ⟨b,off+(s.i+2)*3+1,none⟩)))::(eqv (.string (ay x2.t)))::(eqv (.bool true))::(eqv (.bool true))::(eqv (.bool true))::(eqv (.pointer (some ⟨Z.g,0,none⟩)))::(eqv (.pointer (some ⟨Z.g,0,none⟩)))::(eqv (.pointer (some ⟨Z.g,0,none⟩)))::(eqv (.slice (some ⟨b,off,none⟩) C.tk.length Z.c))::(eqv (.pointer (some ⟨Z.g,0,none⟩)))::(eqv (.pointer (some ⟨Z.g,0,none⟩)))::(eqv (.pointer (some ⟨Z.g,1,none⟩)))::(eqv (.int .i64 ((s.i:Int))))::(eqv (.int .i64 ((s.i:Int)+1)))::(eqv (.pointer (some ⟨b,off+(s.i+1)*3,none⟩)))::(eqv (.pointer (some ⟨b,off+(s.i+1)*3+1,none⟩)))::(eqv (.string (ay x1.t)))::(eqv (.bool true))::(eqv (.bool true))::eud::eud::eud::eud::eud::eud::eud::eud::eud::eud::eud::eud::eud::(eqv (.bool true))::(eqv (.bool true))::[])
         ((rn1 0)::(rd1 59 0)::(rd1 60 1)::(rq1 0 61 2)::(rg1 62 3 61 2)::(rg1 63 4 61 2)::(rg1 64 5 61 2)::(rg1 65 6 61 2)::(rq1 0 61 2)::(rg1 67 8 61 2)::(rg1 68 9 61 2)::(rg1 69 10 61 2)::(rg1 70 11 61 2)::⟨[(66,some 7),(71,some 12),(61,some 2)],61,[]⟩::⟨[(61,some 2),(72,some 13)],0,[]⟩::(rd1 73 14)::(rq1 0 74 15)::(rg1 75 16 74 15)::(rg1 76 17 74 15)::(rg1 77 18 74 15)::(rq1 0 74 15)::(rg1 79 20 74 15)::(rg1 80 21 74 15)::(rg1 81 22 74 15)::(rg1 82 23 74 15)::⟨[(78,some 19),(83,some 24),(74,some 15)],74,[]⟩::(rg1 84 25 74 15)::(rg1 85 26 74 15)::(rg1 86 27 74 15)::⟨[(74,some 15),(87,some 28)],0,[]⟩::(rd1 88 29)::(rq1 0 89 30)::(rg1 90 31 89 30)::(rg1 91 32 89 30)::(rg1 92 33 89 30)::(rq1 0 89 30)::(rg1 94 35 89 30)::(rg1 95 36 89 30)::(rg1 96 37 89 30)::(rg1 97 38 89 30)::⟨[(93,some 34),(98,some 39),(89,some 30)],89,[]⟩::(rg1 99 40 89 30)::(rg1 100 41 89 30)::(rg1 101 42 89 30)::(rg1 102 43 89 30)::(rq1 0 103 44)::(rg1 104 45 103 44)::(rg1 105 46 103 44)::(rg1 106 47 103 44)::(rq1 0 103 44)::(rg1 108 49 103 44)::(rg1 109 50 103 44)::(rg1 110 51 103 44)::(rg1 111 52 103 44)::⟨[(107,some 48),(112,some 53),(103,some 44)],103,[]⟩::(rg1 113 54 103 44)::(rg1 114 55 103 44)::(rg1 115 56 103 44)::⟨[(103,some 44),(116,some 57),(89,some 30)],89,[]⟩::⟨[(89,some 30),(117,some 58)],0,[]⟩::[])
         (no::no::no::no::no::no::no::no::no::no::no::no::no::no::no::no::no::no::no::no::no::no::no::no::no::no::no::no::no::no::no::no::no::no::no::no::no::no::no::no::no::no::no::no::no::no::no::no::no::no::no::no::no::no::no::no::no::no::no::so 0::so 1::so 2::so 3::so 4::so 5::so 6::so 7::so 8::so 9::so 10::so 11::so 12::so 13::so 14::so 15::so 16::so 17::so 18::so 19::so 20::so 21::so 22::so 23::so 24::so 25::so 26::so 27::so 28::so 29::so 30::so 31::so 32::so 33::so 34::so 35::so 36::so 37::so 38::so 39::so 40::so 41::so 42::so 43::so 44::so 45::so 46::so 47::so 48::so 49::so 50::so 51::so 52::so 53::so 54::so 55::so 56::so 57::so 58::so 59::[])
         (fun _ w'=>Moved C Z s w w') (fun _ _ _=>True) ?mixK16tttt ?okK16tttt ?tabK16tttt ?frK16tttt ?inK16tttt ?keptK16tttt ?startK16tttt ?eachK16tttt ?finK16tttt
        case mixK16tttt|okK16tttt|tabK16tttt|frK16tttt=>kernel_rfl
        case inK16tttt=>rfl
        case keptK16tttt=>((repeat refine⟨fun _ _ _ _ _ _ _ _ _ _ _ h=>h,?_⟩);exact trivial)
        case startK16tttt=>exact hgo.out.below (Below.refl _ _).drew
        case eachK16tttt=>
         repeat' first|exact trivial|refine And.intro ?_ ?_
         ·intro w L f hC hLi hLd hLn ⟨d,_⟩;refine au.live rfl ?_;exact aj (v:=f 0) rfl (hC) (trivial) d
         ·intro w L f hC hLi hLd hLn ⟨a,_⟩;change _=_ at a;refine au.live rfl ?_;obtain⟨ev,ec,ef⟩:=evs f;refine aF (f:=64) (args:= #[.pointer (some ⟨Z.g,0,none⟩)]) (w:=w) (by go_simp) (aX hC hn.out) ?_;rintro e w1 ⟨he,h1,-⟩;exact⟨_,he,h1,trivial,rfl⟩
         ·intro w L f hC hLi hLd hLn ⟨d,_⟩;refine au.live rfl ?_;exact aj (v:=f 60) rfl (hC) (trivial) d
         ·intro w L f hC hLi hLd hLn ⟨d0,d61,_⟩;change _=_ at d0 d61;refine au.live (show ak _ (f 61)=true by rw[d61];rfl) ?_;exact aj (v:=f 0) rfl (hC) (trivial) d0
         iterate 4 (intro w L f hC hLi hLd hLn ⟨a,d61,_⟩;change _=_ at a d61;refine au.live (show ak _ (f 61)=true by rw[d61];rfl) ?_;obtain⟨u0,u1,u2,u3,u4,u5,u6,u7,ufz⟩:=hC.facts;obtain⟨ev,ec,ef⟩:=evs f;refine aj ?_ hC trivial rfl;go_simp)
         ·intro w L f hC hLi hLd hLn ⟨d0,d61,_⟩;change _=_ at d0 d61;refine au.live (show ak _ (f 61)=true by rw[d61];rfl) ?_;exact aj (v:=f 0) rfl (hC) (trivial) d0
         iterate 4 (intro w L f hC hLi hLd hLn ⟨a,d61,_⟩;change _=_ at a d61;refine au.live (show ak _ (f 61)=true by rw[d61];rfl) ?_;obtain⟨u0,u1,u2,u3,u4,u5,u6,u7,ufz⟩:=hC.facts;obtain⟨ev,ec,ef⟩:=evs f;refine aj ?_ hC trivial rfl;go_simp)
         ·intro w L f hC hLi hLd hLn ⟨a,b,d61,_⟩;change _=_ at a b d61;refine au.live (show ak _ (f 61)=true by rw[d61];rfl) ?_;obtain⟨u0,u1,u2,u3,u4,u5,u6,u7,ufz⟩:=hC.facts;obtain⟨ev,ec,ef⟩:=evs f;refine aj ?_ hC trivial rfl;go_simp
         ·intro w L f hC hLi hLd hLn ⟨a,b,_⟩;change _=_ at a b;refine au.live rfl ?_;obtain⟨u0,u1,u2,u3,u4,u5,u6,u7,ufz⟩:=hC.facts;obtain⟨ev,ec,ef⟩:=evs f;refine aj ?_ hC trivial rfl;go_simp
         ·intro w L f hC hLi hLd hLn ⟨d,_⟩;refine au.live rfl ?_;exact aj (v:=f 73) rfl (hC) (trivial) d
         ·intro w L f hC hLi hLd hLn ⟨d0,d74,_⟩;change _=_ at d0 d74;refine au.live (show ak _ (f 74)=true by rw[d74];rfl) ?_;exact aj (v:=f 0) rfl (hC) (trivial) d0
         iterate 3 (intro w L f hC hLi hLd hLn ⟨a,d74,_⟩;change _=_ at a d74;refine au.live (show ak _ (f 74)=true by rw[d74];rfl) ?_;obtain⟨u0,u1,u2,u3,u4,u5,u6,u7,ufz⟩:=hC.facts;obtain⟨ev,ec,ef⟩:=evs f;refine aj ?_ hC trivial rfl;go_simp)
         ·intro w L f hC hLi hLd hLn ⟨d0,d74,_⟩;change _=_ at d0 d74;refine au.live (show ak _ (f 74)=true by rw[d74];rfl) ?_;exact aj (v:=f 0) rfl (hC) (trivial) d0
         iterate 4 (intro w L f hC hLi hLd hLn ⟨a,d74,_⟩;change _=_ at a d74;refine au.live (show ak _ (f 74)=true by rw[d74];rfl) ?_;obtain⟨u0,u1,u2,u3,u4,u5,u6,u7,ufz⟩:=hC.facts;obtain⟨ev,ec,ef⟩:=evs f;refine aj ?_ hC trivial rfl;go_simp)
         ·intro w L f hC hLi hLd hLn ⟨a,b,d74,_⟩;change _=_ at a b d74;refine au.live (show ak _ (f 74)=true by rw[d74];rfl) ?_;obtain⟨u0,u1,u2,u3,u4,u5,u6,u7,ufz⟩:=hC.facts;obtain⟨ev,ec,ef⟩:=evs f;refine aj ?_ hC trivial rfl;go_simp
         ·intro w L f hC hLi hLd hLn ⟨a,d74,_⟩;change _=_ at a d74;refine au.live (show ak _ (f 74)=true by rw[d74];rfl) ?_;obtain⟨u0,u1,u2,u3,u4,u5,u6,u7,ufz⟩:=hC.facts;obtain⟨ev,ec,ef⟩:=evs f;refine aj ?_ hC trivial rfl;go_simp
         ·intro w L f hC hLi hLd hLn ⟨a,d74,_⟩;change _=_ at a d74;refine au.live (show ak _ (f 74)=true by rw[d74];rfl) ?_;obtain⟨u0,u1,u2⟩:=hC.tok hx2.out hA;obtain⟨ev,ec,ef⟩:=evs f;refine aj ?_ hC trivial rfl;go_simp
         ·intro w L f hC hLi hLd hLn ⟨a,d74,_⟩;change _=_ at a d74;refine au.live (show ak _ (f 74)=true by rw[d74];rfl) ?_;obtain⟨u0,u1,u2,u3,u4,u5,u6,u7,ufz⟩:=hC.facts;obtain⟨ev,ec,ef⟩:=evs f;refine aj ?_ hC trivial rfl;go_simp
         ·intro w L f hC hLi hLd hLn ⟨a,b,_⟩;change _=_ at a b;refine au.live rfl ?_;obtain⟨u0,u1,u2,u3,u4,u5,u6,u7,ufz⟩:=hC.facts;obtain⟨ev,ec,ef⟩:=evs f;refine aj ?_ hC trivial rfl;go_simp
         ·intro w L f hC hLi hLd hLn ⟨d,_⟩;refine au.live rfl ?_;exact aj (v:=f 88) rfl (hC) (trivial) d
         ·intro w L f hC hLi hLd hLn ⟨d0,d89,_⟩;change _=_ at d0 d89;refine au.live (show ak _ (f 89)=true by rw[d89];rfl) ?_;exact aj (v:=f 0) rfl (hC) (trivial) d0
         iterate 3 (intro w L f hC hLi hLd hLn ⟨a,d89,_⟩;change _=_ at a d89;refine au.live (show ak _ (f 89)=true by rw[d89];rfl) ?_;obtain⟨u0,u1,u2,u3,u4,u5,u6,u7,ufz⟩:=hC.facts;obtain⟨ev,ec,ef⟩:=evs f;refine aj ?_ hC trivial rfl;go_simp)
         ·intro w L f hC hLi hLd hLn ⟨d0,d89,_⟩;change _=_ at d0 d89;refine au.live (show ak _ (f 89)=true by rw[d89];rfl) ?_;exact aj (v:=f 0) rfl (hC) (trivial) d0
         iterate 4 (intro w L f hC hLi hLd hLn ⟨a,d89,_⟩;change _=_ at a d89;refine au.live (show ak _ (f 89)=true by rw[d89];rfl) ?_;obtain⟨u0,u1,u2,u3,u4,u5,u6,u7,ufz⟩:=hC.facts;obtain⟨ev,ec,ef⟩:=evs f;refine aj ?_ hC trivial rfl;go_simp)
         ·intro w L f hC hLi hLd hLn ⟨a,b,d89,_⟩;change _=_ at a b d89;refine au.live (show ak _ (f 89)=true by rw[d89];rfl) ?_;obtain⟨u0,u1,u2,u3,u4,u5,u6,u7,ufz⟩:=hC.facts;obtain⟨ev,ec,ef⟩:=evs f;refine aj ?_ hC trivial rfl;go_simp
         ·intro w L f hC hLi hLd hLn ⟨a,d89,_⟩;change _=_ at a d89;refine au.live (show ak _ (f 89)=true by rw[d89];rfl) ?_;obtain⟨u0,u1,u2,u3,u4,u5,u6,u7,ufz⟩:=hC.facts;obtain⟨ev,ec,ef⟩:=evs f;refine aj ?_ hC trivial rfl;go_simp
         ·intro w L f hC hLi hLd hLn ⟨a,d89,_⟩;change _=_ at a d89;refine au.live (show ak _ (f 89)=true by rw[d89];rfl) ?_;obtain⟨u0,u1,u2⟩:=hC.tok hx1.out hA;obtain⟨ev,ec,ef⟩:=evs f;refine aj ?_ hC trivial rfl;go_simp
         ·intro w L f hC hLi hLd hLn ⟨a,d89,_⟩;change _=_ at a d89;refine au.live (show ak _ (f 89)=true by rw[d89];rfl) ?_;obtain⟨u0,u1,u2,u3,u4,u5,u6,u7,ufz⟩:=hC.facts;obtain⟨ev,ec,ef⟩:=evs f;refine aj ?_ hC trivial rfl;go_simp
         ·intro w L f hC hLi hLd hLn ⟨d102,d89,_⟩;change _=_ at d102 d89;refine au.live (show ak _ (f 89)=true by rw[d89];rfl) ?_;exact aj (v:=f 102) rfl (hC) (trivial) d102
         iterate 9 (intro w L f hC hLi hLd hLn ⟨_,d,_⟩;refine aI.dead (show ak _ (f 103)=false by rw[show f 103=_ from d];rfl) (hC) ?_ (trivial);exact rfl)
         ·intro w L f hC hLi hLd hLn ⟨_,_,d,_⟩;refine aI.dead (show ak _ (f 103)=false by rw[show f 103=_ from d];rfl) (hC) ?_ (trivial);exact rfl
         iterate 3 (intro w L f hC hLi hLd hLn ⟨_,d,_⟩;refine aI.dead (show ak _ (f 103)=false by rw[show f 103=_ from d];rfl) (hC) ?_ (trivial);exact rfl)
         ·intro w L f hC hLi hLd hLn ⟨a,b,d89,_⟩;change _=_ at a b d89;refine au.live (show ak _ (f 89)=true by rw[d89];rfl) ?_;obtain⟨u0,u1,u2,u3,u4,u5,u6,u7,ufz⟩:=hC.facts;obtain⟨ev,ec,ef⟩:=evs f;refine aj ?_ hC trivial rfl;go_simp
         ·intro w L f hC hLi hLd hLn ⟨a,b,_⟩;change _=_ at a b;refine au.live rfl ?_;obtain⟨u0,u1,u2,u3,u4,u5,u6,u7,ufz⟩:=hC.facts;obtain⟨ev,ec,ef⟩:=evs f;refine aj ?_ hC trivial rfl;go_simp
        intro x w' hC hV
        have e0:x 59= .bool nf:=(hV 59 _ rfl rfl).trans (by rw[hN2.out]);clear hV;simp only[framed];rw[e0];have hC:=Za hC;go_wp2_with fail
        go_meet
        case rel=>exact⟨rfl,hC⟩
       case neg=>
        have k1:((ay x1.t).toList== [61,61])=false:=by rw[aH];simpa using q1
        by_cases q3:x1.t= [33,61]
        case pos=>
         have k3:((ay x1.t).toList== [33,61])=true:=by rw[aH,q3];rfl
         have hN2:Hid (nf=true):=Za (by rw[hN,q3,q2];rfl);clear hN q2 q1 q3
         refine aC ((eqv (.pointer (some ⟨Z.g,0,none⟩)))::(eqv (.bool true))::(eqv (.bool true))::(eqv (.pointer (some ⟨Z.g,0,none⟩)))::(eqv (.pointer (some ⟨Z.g,0,none⟩)))::(eqv (.pointer (some ⟨Z.g,1,none⟩)))::(eqv (.int .i64 ((s.i:Int))))::(eqv (.int .i64 ((s.i:Int)+2)))::(eqv (.pointer (some ⟨Z.g,0,none⟩)))::(eqv (.pointer (some ⟨Z.g,0,none⟩)))::(eqv (.pointer (some ⟨Z.g,0,none⟩)))::(eqv (.slice (some ⟨b,off,none⟩) C.tk.length Z.c))::(eqv (.int .i64 ((C.tk.length:Int))))::(eqv (.bool true))::(eqv (.bool true))::(eqv (.bool true))::(eqv (.pointer (some ⟨Z.g,0,none⟩)))::(eqv (.pointer (some ⟨Z.g,0,none⟩)))::(eqv (.pointer (some ⟨Z.g,0,none⟩)))::(eqv (.slice (some ⟨b,off,none⟩) C.tk.length Z.c))::(eqv (.pointer (some ⟨Z.g,0,none⟩)))::(eqv (.pointer (some ⟨Z.g,0,none⟩)))::(eqv (.pointer (some ⟨Z.g,1,none⟩)))::(eqv (.int .i64 ((s.i:Int))))::(eqv (.int .i64 ((s.i:Int)+2)))::(eqv (.pointer (some ⟨b,off+(s.i+2)*3,none⟩)))::(eqv (.pointer (some ⟨b,off+(s.i+2)*3+1,none⟩)))::(eqv (.string (ay x2.t)))::(eqv (.bool true))::(eqv (.bool true))::(eqv (.bool true))::(eqv (.pointer (some ⟨Z.g,0,none⟩)))::(eqv (.pointer (some ⟨Z.g,0,none⟩)))::(eqv (.pointer (some ⟨Z.g,0,none⟩)))::(eqv (.slice (some ⟨b,off,none⟩) C.tk.length Z.c))::(eqv (.pointer (some ⟨Z.g,0,none⟩)))::(eqv (.pointer (some ⟨Z.g,0,none⟩)))::(eqv (.pointer (some ⟨Z.g,1,none⟩)))::(eqv (.int .i64 ((s.i:Int))))::(eqv (.int .i64 ((s.i:Int)+1)))::(eqv (.pointer (some ⟨b,off+(s.i+1)*3,none⟩)))::(eqv (.pointer (some ⟨b,off+(s.i+1)*3+1,none⟩)))::(eqv (.string (ay x1.t)))::(eqv (.bool false))::(eqv (.bool false))::(eqv (.pointer (some ⟨Z.g,0,none⟩)))::(eqv (.pointer (some ⟨Z.g,0,none⟩)))::(eqv (.pointer (some ⟨Z.g,0,none⟩)))::(eqv (.slice (some ⟨b,off,none⟩) C.tk.length Z.c))::(eqv (.pointer (some ⟨Z.g,0,none⟩)))::(eqv (.pointer (some ⟨Z.g,0,none⟩)))::(eqv (.pointer (some ⟨Z.g,1,none⟩)))::(eqv (.int .i64 ((s.i:Int))))::(eqv (.int .i64 ((s.i:Int)+1)))::(eqv (.pointer (some ⟨b,off+(s.i+1)*3,none⟩)))::(eqv (.pointer (some ⟨b,off+(s.i+1)*3+1,none⟩)))::(eqv (.string (ay x1.t)))::(eqv (.bool true))::(eqv (.bool true))::(eqv (.bool true))::[])
          ((rn1 0)::(rd1 59 0)::(rd1 60 1)::(rq1 0 61 2)::(rg1 62 3 61 2)::(rg1 63 4 61 2)::(rg1 64 5 61 2)::(rg1 65 6 61 2)::(rq1 0 61 2)::(rg1 67 8 61 2)::(rg1 68 9 61 2)::(rg1 69 10 61 2)::(rg1 70 11 61 2)::⟨[(66,some 7),(71,some 12),(61,some 2)],61,[]⟩::⟨[(61,some 2),(72,some 13)],0,[]⟩::(rd1 73 14)::(rq1 0 74 15)::(rg1 75 16 74 15)::(rg1 76 17 74 15)::(rg1 77 18 74 15)::(rq1 0 74 15)::(rg1 79 20 74 15)::(rg1 80 21 74 15)::(rg1 81 22 74 15)::(rg1 82 23 74 15)::⟨[(78,some 19),(83,some 24),(74,some 15)],74,[]⟩::(rg1 84 25 74 15)::(rg1 85 26 74 15)::(rg1 86 27 74 15)::⟨[(74,some 15),(87,some 28)],0,[]⟩::(rd1 88 29)::(rq1 0 89 30)::(rg1 90 31 89 30)::(rg1 91 32 89 30)::(rg1 92 33 89 30)::(rq1 0 89 30)::(rg1 94 35 89 30)::(rg1 95 36 89 30)::(rg1 96 37 89 30)::(rg1 97 38 89 30)::⟨[(93,some 34),(98,some 39),(89,some 30)],89,[]⟩::(rg1 99 40 89 30)::(rg1 100 41 89 30)::(rg1 101 42 89 30)::(rg1 102 43 89 30)::(rq1 0 103 44)::(rg1 104 45 103 44)::(rg1 105 46 103 44)::(rg1 106 47 103 44)::(rq1 0 103 44)::(rg1 108 49 103 44)::(rg1 109 50 103 44)::(rg1 110 51 103 44)::(rg1 111 52 103 44)::⟨[(107,some 48),(112,some 53),(103,some 44)],103,[]⟩::(rg1 113 54 103 44)::(rg1 114 55 103 44)::(rg1 115 56 103 44)::⟨[(103,some 44),(116,some 57),(89,some 30)],89,[]⟩::⟨[(89,some 30),(117,some 58)],0,[]⟩::[])
          (no::no::no::no::no::no::no::no::no::no::no::no::no::no::no::no::no::no::no::no::no::no::no::no::no::no::no::no::no::no::no::no::no::no::no::no::no::no::no::no::no::no::no::no::no::no::no::no::no::no::no::no::no::no::no::no::no::no::no::so 0::so 1::so 2::so 3::so 4::so 5::so 6::so 7::so 8::so 9::so 10::so 11::so 12::so 13::so 14::so 15::so 16::so 17::so 18::so 19::so 20::so 21::so 22::so 23::so 24::so 25::so 26::so 27::so 28::so 29::so 30::so 31::so 32::so 33::so 34::so 35::so 36::so 37::so 38::so 39::so 40::so 41::so 42::so 43::so 44::so 45::so 46::so 47::so 48::so 49::so 50::so 51::so 52::so 53::so 54::so 55::so 56::so 57::so 58::so 59::[])
          (fun _ w'=>Moved C Z s w w') (fun _ _ _=>True) ?mixK16tttft ?okK16tttft ?tabK16tttft ?frK16tttft ?inK16tttft ?keptK16tttft ?startK16tttft ?eachK16tttft ?finK16tttft
         case mixK16tttft|okK16tttft|tabK16tttft|frK16tttft=>kernel_rfl
         case inK16tttft=>rfl
         case keptK16tttft=>((repeat refine⟨fun _ _ _ _ _ _ _ _ _ _ _ h=>h,?_⟩);exact trivial)
         case startK16tttft=>exact hgo.out.below (Below.refl _ _).drew
         case eachK16tttft=>
          repeat' first|exact trivial|refine And.intro ?_ ?_
          ·intro w L f hC hLi hLd hLn ⟨d,_⟩;refine au.live rfl ?_;exact aj (v:=f 0) rfl (hC) (trivial) d
          ·intro w L f hC hLi hLd hLn ⟨a,_⟩;change _=_ at a;refine au.live rfl ?_;obtain⟨ev,ec,ef⟩:=evs f;refine aF (f:=64) (args:= #[.pointer (some ⟨Z.g,0,none⟩)]) (w:=w) (by go_simp) (aX hC hn.out) ?_;rintro e w1 ⟨he,h1,-⟩;exact⟨_,he,h1,trivial,rfl⟩
          ·intro w L f hC hLi hLd hLn ⟨d,_⟩;refine au.live rfl ?_;exact aj (v:=f 60) rfl (hC) (trivial) d
          ·intro w L f hC hLi hLd hLn ⟨d0,d61,_⟩;change _=_ at d0 d61;refine au.live (show ak _ (f 61)=true by rw[d61];rfl) ?_;exact aj (v:=f 0) rfl (hC) (trivial) d0
          iterate 4 (intro w L f hC hLi hLd hLn ⟨a,d61,_⟩;change _=_ at a d61;refine au.live (show ak _ (f 61)=true by rw[d61];rfl) ?_;obtain⟨u0,u1,u2,u3,u4,u5,u6,u7,ufz⟩:=hC.facts;obtain⟨ev,ec,ef⟩:=evs f;refine aj ?_ hC trivial rfl;go_simp)
          ·intro w L f hC hLi hLd hLn ⟨d0,d61,_⟩;change _=_ at d0 d61;refine au.live (show ak _ (f 61)=true by rw[d61];rfl) ?_;exact aj (v:=f 0) rfl (hC) (trivial) d0
          iterate 4 (intro w L f hC hLi hLd hLn ⟨a,d61,_⟩;change _=_ at a d61;refine au.live (show ak _ (f 61)=true by rw[d61];rfl) ?_;obtain⟨u0,u1,u2,u3,u4,u5,u6,u7,ufz⟩:=hC.facts;obtain⟨ev,ec,ef⟩:=evs f;refine aj ?_ hC trivial rfl;go_simp)
          ·intro w L f hC hLi hLd hLn ⟨a,b,d61,_⟩;change _=_ at a b d61;refine au.live (show ak _ (f 61)=true by rw[d61];rfl) ?_;obtain⟨u0,u1,u2,u3,u4,u5,u6,u7,ufz⟩:=hC.facts;obtain⟨ev,ec,ef⟩:=evs f;refine aj ?_ hC trivial rfl;go_simp
          ·intro w L f hC hLi hLd hLn ⟨a,b,_⟩;change _=_ at a b;refine au.live rfl ?_;obtain⟨u0,u1,u2,u3,u4,u5,u6,u7,ufz⟩:=hC.facts;obtain⟨ev,ec,ef⟩:=evs f;refine aj ?_ hC trivial rfl;go_simp
          ·intro w L f hC hLi hLd hLn ⟨d,_⟩;refine au.live rfl ?_;exact aj (v:=f 73) rfl (hC) (trivial) d
          ·intro w L f hC hLi hLd hLn ⟨d0,d74,_⟩;change _=_ at d0 d74;refine au.live (show ak _ (f 74)=true by rw[d74];rfl) ?_;exact aj (v:=f 0) rfl (hC) (trivial) d0
          iterate 3 (intro w L f hC hLi hLd hLn ⟨a,d74,_⟩;change _=_ at a d74;refine au.live (show ak _ (f 74)=true by rw[d74];rfl) ?_;obtain⟨u0,u1,u2,u3,u4,u5,u6,u7,ufz⟩:=hC.facts;obtain⟨ev,ec,ef⟩:=evs f;refine aj ?_ hC trivial rfl;go_simp)
          ·intro w L f hC hLi hLd hLn ⟨d0,d74,_⟩;change _=_ at d0 d74;refine au.live (show ak _ (f 74)=true by rw[d74];rfl) ?_;exact aj (v:=f 0) rfl (hC) (trivial) d0
          iterate 4 (intro w L f hC hLi hLd hLn ⟨a,d74,_⟩;change _=_ at a d74;refine au.live (show ak _ (f 74)=true by rw[d74];rfl) ?_;obtain⟨u0,u1,u2,u3,u4,u5,u6,u7,ufz⟩:=hC.facts;obtain⟨ev,ec,ef⟩:=evs f;refine aj ?_ hC trivial rfl;go_simp)
          ·intro w L f hC hLi hLd hLn ⟨a,b,d74,_⟩;change _=_ at a b d74;refine au.live (show ak _ (f 74)=true by rw[d74];rfl) ?_;obtain⟨u0,u1,u2,u3,u4,u5,u6,u7,ufz⟩:=hC.facts;obtain⟨ev,ec,ef⟩:=evs f;refine aj ?_ hC trivial rfl;go_simp
          ·intro w L f hC hLi hLd hLn ⟨a,d74,_⟩;change _=_ at a d74;refine au.live (show ak _ (f 74)=true by rw[d74];rfl) ?_;obtain⟨u0,u1,u2,u3,u4,u5,u6,u7,ufz⟩:=hC.facts;obtain⟨ev,ec,ef⟩:=evs f;refine aj ?_ hC trivial rfl;go_simp
          ·intro w L f hC hLi hLd hLn ⟨a,d74,_⟩;change _=_ at a d74;refine au.live (show ak _ (f 74)=true by rw[d74];rfl) ?_;obtain⟨u0,u1,u2⟩:=hC.tok hx2.out hA;obtain⟨ev,ec,ef⟩:=evs f;refine aj ?_ hC trivial rfl;go_simp
          ·intro w L f hC hLi hLd hLn ⟨a,d74,_⟩;change _=_ at a d74;refine au.live (show ak _ (f 74)=true by rw[d74];rfl) ?_;obtain⟨u0,u1,u2,u3,u4,u5,u6,u7,ufz⟩:=hC.facts;obtain⟨ev,ec,ef⟩:=evs f;refine aj ?_ hC trivial rfl;go_simp
          ·intro w L f hC hLi hLd hLn ⟨a,b,_⟩;change _=_ at a b;refine au.live rfl ?_;obtain⟨u0,u1,u2,u3,u4,u5,u6,u7,ufz⟩:=hC.facts;obtain⟨ev,ec,ef⟩:=evs f;refine aj ?_ hC trivial rfl;go_simp
          ·intro w L f hC hLi hLd hLn ⟨d,_⟩;refine au.live rfl ?_;exact aj (v:=f 88) rfl (hC) (trivial) d
          ·intro w L f hC hLi hLd hLn ⟨d0,d89,_⟩;change _=_ at d0 d89;refine au.live (show ak _ (f 89)=true by rw[d89];rfl) ?_;exact aj (v:=f 0) rfl (hC) (trivial) d0
          iterate 3 (intro w L f hC hLi hLd hLn ⟨a,d89,_⟩;change _=_ at a d89;refine au.live (show ak _ (f 89)=true by rw[d89];rfl) ?_;obtain⟨u0,u1,u2,u3,u4,u5,u6,u7,ufz⟩:=hC.facts;obtain⟨ev,ec,ef⟩:=evs f;refine aj ?_ hC trivial rfl;go_simp)
          ·intro w L f hC hLi hLd hLn ⟨d0,d89,_⟩;change _=_ at d0 d89;refine au.live (show ak _ (f 89)=true by rw[d89];rfl) ?_;exact aj (v:=f 0) rfl (hC) (trivial) d0
          iterate 4 (intro w L f hC hLi hLd hLn ⟨a,d89,_⟩;change _=_ at a d89;refine au.live (show ak _ (f 89)=true by rw[d89];rfl) ?_;obtain⟨u0,u1,u2,u3,u4,u5,u6,u7,ufz⟩:=hC.facts;obtain⟨ev,ec,ef⟩:=evs f;refine aj ?_ hC trivial rfl;go_simp)
          ·intro w L f hC hLi hLd hLn ⟨a,b,d89,_⟩;change _=_ at a b d89;refine au.live (show ak _ (f 89)=true by rw[d89];rfl) ?_;obtain⟨u0,u1,u2,u3,u4,u5,u6,u7,ufz⟩:=hC.facts;obtain⟨ev,ec,ef⟩:=evs f;refine aj ?_ hC trivial rfl;go_simp
          ·intro w L f hC hLi hLd hLn ⟨a,d89,_⟩;change _=_ at a d89;refine au.live (show ak _ (f 89)=true by rw[d89];rfl) ?_;obtain⟨u0,u1,u2,u3,u4,u5,u6,u7,ufz⟩:=hC.facts;obtain⟨ev,ec,ef⟩:=evs f;refine aj ?_ hC trivial rfl;go_simp
          ·intro w L f hC hLi hLd hLn ⟨a,d89,_⟩;change _=_ at a d89;refine au.live (show ak _ (f 89)=true by rw[d89];rfl) ?_;obtain⟨u0,u1,u2⟩:=hC.tok hx1.out hA;obtain⟨ev,ec,ef⟩:=evs f;refine aj ?_ hC trivial rfl;go_simp
          ·intro w L f hC hLi hLd hLn ⟨a,d89,_⟩;change _=_ at a d89;refine au.live (show ak _ (f 89)=true by rw[d89];rfl) ?_;obtain⟨u0,u1,u2,u3,u4,u5,u6,u7,ufz⟩:=hC.facts;obtain⟨ev,ec,ef⟩:=evs f;refine aj ?_ hC trivial rfl;go_simp
          ·intro w L f hC hLi hLd hLn ⟨d102,d89,_⟩;change _=_ at d102 d89;refine au.live (show ak _ (f 89)=true by rw[d89];rfl) ?_;exact aj (v:=f 102) rfl (hC) (trivial) d102
          ·intro w L f hC hLi hLd hLn ⟨d0,d103,_⟩;change _=_ at d0 d103;refine au.live (show ak _ (f 103)=true by rw[d103];rfl) ?_;exact aj (v:=f 0) rfl (hC) (trivial) d0
          iterate 3 (intro w L f hC hLi hLd hLn ⟨a,d103,_⟩;change _=_ at a d103;refine au.live (show ak _ (f 103)=true by rw[d103];rfl) ?_;obtain⟨u0,u1,u2,u3,u4,u5,u6,u7,ufz⟩:=hC.facts;obtain⟨ev,ec,ef⟩:=evs f;refine aj ?_ hC trivial rfl;go_simp)
          ·intro w L f hC hLi hLd hLn ⟨d0,d103,_⟩;change _=_ at d0 d103;refine au.live (show ak _ (f 103)=true by rw[d103];rfl) ?_;exact aj (v:=f 0) rfl (hC) (trivial) d0
          iterate 4 (intro w L f hC hLi hLd hLn ⟨a,d103,_⟩;change _=_ at a d103;refine au.live (show ak _ (f 103)=true by rw[d103];rfl) ?_;obtain⟨u0,u1,u2,u3,u4,u5,u6,u7,ufz⟩:=hC.facts;obtain⟨ev,ec,ef⟩:=evs f;refine aj ?_ hC trivial rfl;go_simp)
          ·intro w L f hC hLi hLd hLn ⟨a,b,d103,_⟩;change _=_ at a b d103;refine au.live (show ak _ (f 103)=true by rw[d103];rfl) ?_;obtain⟨u0,u1,u2,u3,u4,u5,u6,u7,ufz⟩:=hC.facts;obtain⟨ev,ec,ef⟩:=evs f;refine aj ?_ hC trivial rfl;go_simp
          ·intro w L f hC hLi hLd hLn ⟨a,d103,_⟩;change _=_ at a d103;refine au.live (show ak _ (f 103)=true by rw[d103];rfl) ?_;obtain⟨u0,u1,u2,u3,u4,u5,u6,u7,ufz⟩:=hC.facts;obtain⟨ev,ec,ef⟩:=evs f;refine aj ?_ hC trivial rfl;go_simp
          ·intro w L f hC hLi hLd hLn ⟨a,d103,_⟩;change _=_ at a d103;refine au.live (show ak _ (f 103)=true by rw[d103];rfl) ?_;obtain⟨u0,u1,u2⟩:=hC.tok hx1.out hA;obtain⟨ev,ec,ef⟩:=evs f;refine aj ?_ hC trivial rfl;go_simp
          ·intro w L f hC hLi hLd hLn ⟨a,d103,_⟩;change _=_ at a d103;refine au.live (show ak _ (f 103)=true by rw[d103];rfl) ?_;obtain⟨u0,u1,u2,u3,u4,u5,u6,u7,ufz⟩:=hC.facts;obtain⟨ev,ec,ef⟩:=evs f;refine aj ?_ hC trivial rfl;go_simp
          ·intro w L f hC hLi hLd hLn ⟨a,b,d89,_⟩;change _=_ at a b d89;refine au.live (show ak _ (f 89)=true by rw[d89];rfl) ?_;obtain⟨u0,u1,u2,u3,u4,u5,u6,u7,ufz⟩:=hC.facts;obtain⟨ev,ec,ef⟩:=evs f;refine aj ?_ hC trivial rfl;go_simp
          ·intro w L f hC hLi hLd hLn ⟨a,b,_⟩;change _=_ at a b;refine au.live rfl ?_;obtain⟨u0,u1,u2,u3,u4,u5,u6,u7,ufz⟩:=hC.facts;obtain⟨ev,ec,ef⟩:=evs f;refine aj ?_ hC trivial rfl;go_simp
         intro x w' hC hV
         have e0:x 59= .bool nf:=(hV 59 _ rfl rfl).trans (by rw[hN2.out]);clear hV;simp only[framed];rw[e0];have hC:=Za hC;go_wp2_with fail
         go_meet
         case rel=>exact⟨rfl,hC⟩
        case neg=>
         have k3:((ay x1.t).toList== [33,61])=false:=by rw[aH];simpa using q3
         have hN2:Hid (nf=false):=Za (by rw[hN,show(x1.t== [61,61])=false by simpa using q1,show(x1.t== [33,61])=false by simpa using q3];simp);clear hN q2 q1 q3
         refine aC ((eqv (.pointer (some ⟨Z.g,0,none⟩)))::(eqv (.bool true))::(eqv (.bool true))::(eqv (.pointer (some ⟨Z.g,0,none⟩)))::(eqv (.pointer (some ⟨Z.g,0,none⟩)))::(eqv (.pointer (some ⟨Z.g,1,none⟩)))::(eqv (.int .i64 ((s.i:Int))))::(eqv (.int .i64 ((s.i:Int)+2)))::(eqv (.pointer (some ⟨Z.g,0,none⟩)))::(eqv (.pointer (some ⟨Z.g,0,none⟩)))::(eqv (.pointer (some ⟨Z.g,0,none⟩)))::(eqv (.slice (some ⟨b,off,none⟩) C.tk.length Z.c))::(eqv (.int .i64 ((C.tk.length:Int))))::(eqv (.bool true))::(eqv (.bool true))::(eqv (.bool true))::(eqv (.pointer (some ⟨Z.g,0,none⟩)))::(eqv (.pointer (some ⟨Z.g,0,none⟩)))::(eqv (.pointer (some ⟨Z.g,0,none⟩)))::(eqv (.slice (some ⟨b,off,none⟩) C.tk.length Z.c))::(eqv (.pointer (some ⟨Z.g,0,none⟩)))::(eqv (.pointer (some ⟨Z.g,0,none⟩)))::(eqv (.pointer (some ⟨Z.g,1,none⟩)))::(eqv (.int .i64 ((s.i:Int))))::(eqv (.int .i64 ((s.i:Int)+2)))::(eqv (.pointer (some ⟨b,off+(s.i+2)*3,none⟩)))::(eqv (.pointer (some ⟨b,off+(s.i+2)*3+1,none⟩)))::(eqv (.string (ay x2.t)))::(eqv (.bool true))::(eqv (.bool true))::(eqv (.bool true))::(eqv (.pointer (some ⟨Z.g,0,none⟩)))::(eqv (.pointer (some ⟨Z.g,0,none⟩)))::(eqv (.pointer (some ⟨Z.g,0,none⟩)))::(eqv (.slice (some ⟨b,off,none⟩) C.tk.length Z.c))::(eqv (.pointer (some ⟨Z.g,0,none⟩)))::(eqv (.pointer (some ⟨Z.g,0,none⟩)))::(eqv (.pointer (some ⟨Z.g,1,none⟩)))::(eqv (.int .i64 ((s.i:Int))))::(eqv (.int .i64 ((s.i:Int)+1)))::(eqv (.pointer (some ⟨b,off+(s.i+1)*3,none⟩)))::(eqv (.pointer (some ⟨b,off+(s.i+1)*3+1,none⟩)))::(eqv (.string (ay x1.t)))::(eqv (.bool false))::(eqv (.bool false))::(eqv (.pointer (some ⟨Z.g,0,none⟩)))::(eqv (.pointer (some ⟨Z.g,0,none⟩)))::(eqv (.pointer (some ⟨Z.g,0,none⟩)))::(eqv (.slice (some ⟨b,off,none⟩) C.tk.length Z.c))::(eqv (.pointer (some ⟨Z.g,0,none⟩)))::(eqv (.pointer (some ⟨Z.g,0,none⟩)))::(eqv (.pointer (some ⟨Z.g,1,none⟩)))::(eqv (.int .i64 ((s.i:Int))))::(eqv (.int .i64 ((s.i:Int)+1)))::(eqv (.pointer (some ⟨b,off+(s.i+1)*3,none⟩)))::(eqv (.pointer (some ⟨b,off+(s.i+1)*3+1,none⟩)))::(eqv (.string (ay x1.t)))::(eqv (.bool false))::(eqv (.bool false))::(eqv (.bool false))::[])
          ((rn1 0)::(rd1 59 0)::(rd1 60 1)::(rq1 0 61 2)::(rg1 62 3 61 2)::(rg1 63 4 61 2)::(rg1 64 5 61 2)::(rg1 65 6 61 2)::(rq1 0 61 2)::(rg1 67 8 61 2)::(rg1 68 9 61 2)::(rg1 69 10 61 2)::(rg1 70 11 61 2)::⟨[(66,some 7),(71,some 12),(61,some 2)],61,[]⟩::⟨[(61,some 2),(72,some 13)],0,[]⟩::(rd1 73 14)::(rq1 0 74 15)::(rg1 75 16 74 15)::(rg1 76 17 74 15)::(rg1 77 18 74 15)::(rq1 0 74 15)::(rg1 79 20 74 15)::(rg1 80 21 74 15)::(rg1 81 22 74 15)::(rg1 82 23 74 15)::⟨[(78,some 19),(83,some 24),(74,some 15)],74,[]⟩::(rg1 84 25 74 15)::(rg1 85 26 74 15)::(rg1 86 27 74 15)::⟨[(74,some 15),(87,some 28)],0,[]⟩::(rd1 88 29)::(rq1 0 89 30)::(rg1 90 31 89 30)::(rg1 91 32 89 30)::(rg1 92 33 89 30)::(rq1 0 89 30)::(rg1 94 35 89 30)::(rg1 95 36 89 30)::(rg1 96 37 89 30)::(rg1 97 38 89 30)::⟨[(93,some 34),(98,some 39),(89,some 30)],89,[]⟩::(rg1 99 40 89 30)::(rg1 100 41 89 30)::(rg1 101 42 89 30)::(rg1 102 43 89 30)::(rq1 0 103 44)::(rg1 104 45 103 44)::(rg1 105 46 103 44)::(rg1 106 47 103 44)::(rq1 0 103 44)::(rg1 108 49 103 44)::(rg1 109 50 103 44)::(rg1 110 51 103 44)::(rg1 111 52 103 44)::⟨[(107,some 48),(112,some 53),(103,some 44)],103,[]⟩::(rg1 113 54 103 44)::(rg1 114 55 103 44)::(rg1 115 56 103 44)::⟨[(103,some 44),(116,some 57),(89,some 30)],89,[]⟩::⟨[(89,some 30),(117,some 58)],0,[]⟩::[])
          (no::no::no::no::no::no::no::no::no::no::no::no::no::no::no::no::no::no::no::no::no::no::no::no::no::no::no::no::no::no::no::no::no::no::no::no::no::no::no::no::no::no::no::no::no::no::no::no::no::no::no::no::no::no::no::no::no::no::no::so 0::so 1::so 2::so 3::so 4::so 5::so 6::so 7::so 8::so 9::so 10::so 11::so 12::so 13::so 14::so 15::so 16::so 17::so 18::so 19::so 20::so 21::so 22::so 23::so 24::so 25::so 26::so 27::so 28::so 29::so 30::so 31::so 32::so 33::so 34::so 35::so 36::so 37::so 38::so 39::so 40::so 41::so 42::so 43::so 44::so 45::so 46::so 47::so 48::so 49::so 50::so 51::so 52::so 53::so 54::so 55::so 56::so 57::so 58::so 59::[])
          (fun _ w'=>Moved C Z s w w') (fun _ _ _=>True) ?mixK16tttff ?okK16tttff ?tabK16tttff ?frK16tttff ?inK16tttff ?keptK16tttff ?startK16tttff ?eachK16tttff ?finK16tttff
         case mixK16tttff|okK16tttff|tabK16tttff|frK16tttff=>kernel_rfl
         case inK16tttff=>rfl
         case keptK16tttff=>((repeat refine⟨fun _ _ _ _ _ _ _ _ _ _ _ h=>h,?_⟩);exact trivial)
         case startK16tttff=>exact hgo.out.below (Below.refl _ _).drew
         case eachK16tttff=>
          repeat' first|exact trivial|refine And.intro ?_ ?_
          ·intro w L f hC hLi hLd hLn ⟨d,_⟩;refine au.live rfl ?_;exact aj (v:=f 0) rfl (hC) (trivial) d
          ·intro w L f hC hLi hLd hLn ⟨a,_⟩;change _=_ at a;refine au.live rfl ?_;obtain⟨ev,ec,ef⟩:=evs f;refine aF (f:=64) (args:= #[.pointer (some ⟨Z.g,0,none⟩)]) (w:=w) (by go_simp) (aX hC hn.out) ?_;rintro e w1 ⟨he,h1,-⟩;exact⟨_,he,h1,trivial,rfl⟩
          ·intro w L f hC hLi hLd hLn ⟨d,_⟩;refine au.live rfl ?_;exact aj (v:=f 60) rfl (hC) (trivial) d
          ·intro w L f hC hLi hLd hLn ⟨d0,d61,_⟩;change _=_ at d0 d61;refine au.live (show ak _ (f 61)=true by rw[d61];rfl) ?_;exact aj (v:=f 0) rfl (hC) (trivial) d0
          iterate 4 (intro w L f hC hLi hLd hLn ⟨a,d61,_⟩;change _=_ at a d61;refine au.live (show ak _ (f 61)=true by rw[d61];rfl) ?_;obtain⟨u0,u1,u2,u3,u4,u5,u6,u7,ufz⟩:=hC.facts;obtain⟨ev,ec,ef⟩:=evs f;refine aj ?_ hC trivial rfl;go_simp)
          ·intro w L f hC hLi hLd hLn ⟨d0,d61,_⟩;change _=_ at d0 d61;refine au.live (show ak _ (f 61)=true by rw[d61];rfl) ?_;exact aj (v:=f 0) rfl (hC) (trivial) d0
          iterate 4 (intro w L f hC hLi hLd hLn ⟨a,d61,_⟩;change _=_ at a d61;refine au.live (show ak _ (f 61)=true by rw[d61];rfl) ?_;obtain⟨u0,u1,u2,u3,u4,u5,u6,u7,ufz⟩:=hC.facts;obtain⟨ev,ec,ef⟩:=evs f;refine aj ?_ hC trivial rfl;go_simp)
          ·intro w L f hC hLi hLd hLn ⟨a,b,d61,_⟩;change _=_ at a b d61;refine au.live (show ak _ (f 61)=true by rw[d61];rfl) ?_;obtain⟨u0,u1,u2,u3,u4,u5,u6,u7,ufz⟩:=hC.facts;obtain⟨ev,ec,ef⟩:=evs f;refine aj ?_ hC trivial rfl;go_simp
          ·intro w L f hC hLi hLd hLn ⟨a,b,_⟩;change _=_ at a b;refine au.live rfl ?_;obtain⟨u0,u1,u2,u3,u4,u5,u6,u7,ufz⟩:=hC.facts;obtain⟨ev,ec,ef⟩:=evs f;refine aj ?_ hC trivial rfl;go_simp
          ·intro w L f hC hLi hLd hLn ⟨d,_⟩;refine au.live rfl ?_;exact aj (v:=f 73) rfl (hC) (trivial) d
          ·intro w L f hC hLi hLd hLn ⟨d0,d74,_⟩;change _=_ at d0 d74;refine au.live (show ak _ (f 74)=true by rw[d74];rfl) ?_;exact aj (v:=f 0) rfl (hC) (trivial) d0
          iterate 3 (intro w L f hC hLi hLd hLn ⟨a,d74,_⟩;change _=_ at a d74;refine au.live (show ak _ (f 74)=true by rw[d74];rfl) ?_;obtain⟨u0,u1,u2,u3,u4,u5,u6,u7,ufz⟩:=hC.facts;obtain⟨ev,ec,ef⟩:=evs f;refine aj ?_ hC trivial rfl;go_simp)
          ·intro w L f hC hLi hLd hLn ⟨d0,d74,_⟩;change _=_ at d0 d74;refine au.live (show ak _ (f 74)=true by rw[d74];rfl) ?_;exact aj (v:=f 0) rfl (hC) (trivial) d0
          iterate 4 (intro w L f hC hLi hLd hLn ⟨a,d74,_⟩;change _=_ at a d74;refine au.live (show ak _ (f 74)=true by rw[d74];rfl) ?_;obtain⟨u0,u1,u2,u3,u4,u5,u6,u7,ufz⟩:=hC.facts;obtain⟨ev,ec,ef⟩:=evs f;refine aj ?_ hC trivial rfl;go_simp)
          ·intro w L f hC hLi hLd hLn ⟨a,b,d74,_⟩;change _=_ at a b d74;refine au.live (show ak _ (f 74)=true by rw[d74];rfl) ?_;obtain⟨u0,u1,u2,u3,u4,u5,u6,u7,ufz⟩:=hC.facts;obtain⟨ev,ec,ef⟩:=evs f;refine aj ?_ hC trivial rfl;go_simp
          ·intro w L f hC hLi hLd hLn ⟨a,d74,_⟩;change _=_ at a d74;refine au.live (show ak _ (f 74)=true by rw[d74];rfl) ?_;obtain⟨u0,u1,u2,u3,u4,u5,u6,u7,ufz⟩:=hC.facts;obtain⟨ev,ec,ef⟩:=evs f;refine aj ?_ hC trivial rfl;go_simp
          ·intro w L f hC hLi hLd hLn ⟨a,d74,_⟩;change _=_ at a d74;refine au.live (show ak _ (f 74)=true by rw[d74];rfl) ?_;obtain⟨u0,u1,u2⟩:=hC.tok hx2.out hA;obtain⟨ev,ec,ef⟩:=evs f;refine aj ?_ hC trivial rfl;go_simp
          ·intro w L f hC hLi hLd hLn ⟨a,d74,_⟩;change _=_ at a d74;refine au.live (show ak _ (f 74)=true by rw[d74];rfl) ?_;obtain⟨u0,u1,u2,u3,u4,u5,u6,u7,ufz⟩:=hC.facts;obtain⟨ev,ec,ef⟩:=evs f;refine aj ?_ hC trivial rfl;go_simp
          ·intro w L f hC hLi hLd hLn ⟨a,b,_⟩;change _=_ at a b;refine au.live rfl ?_;obtain⟨u0,u1,u2,u3,u4,u5,u6,u7,ufz⟩:=hC.facts;obtain⟨ev,ec,ef⟩:=evs f;refine aj ?_ hC trivial rfl;go_simp
          ·intro w L f hC hLi hLd hLn ⟨d,_⟩;refine au.live rfl ?_;exact aj (v:=f 88) rfl (hC) (trivial) d
          ·intro w L f hC hLi hLd hLn ⟨d0,d89,_⟩;change _=_ at d0 d89;refine au.live (show ak _ (f 89)=true by rw[d89];rfl) ?_;exact aj (v:=f 0) rfl (hC) (trivial) d0
          iterate 3 (intro w L f hC hLi hLd hLn ⟨a,d89,_⟩;change _=_ at a d89;refine au.live (show ak _ (f 89)=true by rw[d89];rfl) ?_;obtain⟨u0,u1,u2,u3,u4,u5,u6,u7,ufz⟩:=hC.facts;obtain⟨ev,ec,ef⟩:=evs f;refine aj ?_ hC trivial rfl;go_simp)
          ·intro w L f hC hLi hLd hLn ⟨d0,d89,_⟩;change _=_ at d0 d89;refine au.live (show ak _ (f 89)=true by rw[d89];rfl) ?_;exact aj (v:=f 0) rfl (hC) (trivial) d0
          iterate 4 (intro w L f hC hLi hLd hLn ⟨a,d89,_⟩;change _=_ at a d89;refine au.live (show ak _ (f 89)=true by rw[d89];rfl) ?_;obtain⟨u0,u1,u2,u3,u4,u5,u6,u7,ufz⟩:=hC.facts;obtain⟨ev,ec,ef⟩:=evs f;refine aj ?_ hC trivial rfl;go_simp)
          ·intro w L f hC hLi hLd hLn ⟨a,b,d89,_⟩;change _=_ at a b d89;refine au.live (show ak _ (f 89)=true by rw[d89];rfl) ?_;obtain⟨u0,u1,u2,u3,u4,u5,u6,u7,ufz⟩:=hC.facts;obtain⟨ev,ec,ef⟩:=evs f;refine aj ?_ hC trivial rfl;go_simp
          ·intro w L f hC hLi hLd hLn ⟨a,d89,_⟩;change _=_ at a d89;refine au.live (show ak _ (f 89)=true by rw[d89];rfl) ?_;obtain⟨u0,u1,u2,u3,u4,u5,u6,u7,ufz⟩:=hC.facts;obtain⟨ev,ec,ef⟩:=evs f;refine aj ?_ hC trivial rfl;go_simp
          ·intro w L f hC hLi hLd hLn ⟨a,d89,_⟩;change _=_ at a d89;refine au.live (show ak _ (f 89)=true by rw[d89];rfl) ?_;obtain⟨u0,u1,u2⟩:=hC.tok hx1.out hA;obtain⟨ev,ec,ef⟩:=evs f;refine aj ?_ hC trivial rfl;go_simp
          ·intro w L f hC hLi hLd hLn ⟨a,d89,_⟩;change _=_ at a d89;refine au.live (show ak _ (f 89)=true by rw[d89];rfl) ?_;obtain⟨u0,u1,u2,u3,u4,u5,u6,u7,ufz⟩:=hC.facts;obtain⟨ev,ec,ef⟩:=evs f;refine aj ?_ hC trivial rfl;go_simp
          ·intro w L f hC hLi hLd hLn ⟨d102,d89,_⟩;change _=_ at d102 d89;refine au.live (show ak _ (f 89)=true by rw[d89];rfl) ?_;exact aj (v:=f 102) rfl (hC) (trivial) d102
          ·intro w L f hC hLi hLd hLn ⟨d0,d103,_⟩;change _=_ at d0 d103;refine au.live (show ak _ (f 103)=true by rw[d103];rfl) ?_;exact aj (v:=f 0) rfl (hC) (trivial) d0
          iterate 3 (intro w L f hC hLi hLd hLn ⟨a,d103,_⟩;change _=_ at a d103;refine au.live (show ak _ (f 103)=true by rw[d103];rfl) ?_;obtain⟨u0,u1,u2,u3,u4,u5,u6,u7,ufz⟩:=hC.facts;obtain⟨ev,ec,ef⟩:=evs f;refine aj ?_ hC trivial rfl;go_simp)
          ·intro w L f hC hLi hLd hLn ⟨d0,d103,_⟩;change _=_ at d0 d103;refine au.live (show ak _ (f 103)=true by rw[d103];rfl) ?_;exact aj (v:=f 0) rfl (hC) (trivial) d0
          iterate 4 (intro w L f hC hLi hLd hLn ⟨a,d103,_⟩;change _=_ at a d103;refine au.live (show ak _ (f 103)=true by rw[d103];rfl) ?_;obtain⟨u0,u1,u2,u3,u4,u5,u6,u7,ufz⟩:=hC.facts;obtain⟨ev,ec,ef⟩:=evs f;refine aj ?_ hC trivial rfl;go_simp)
          ·intro w L f hC hLi hLd hLn ⟨a,b,d103,_⟩;change _=_ at a b d103;refine au.live (show ak _ (f 103)=true by rw[d103];rfl) ?_;obtain⟨u0,u1,u2,u3,u4,u5,u6,u7,ufz⟩:=hC.facts;obtain⟨ev,ec,ef⟩:=evs f;refine aj ?_ hC trivial rfl;go_simp
          ·intro w L f hC hLi hLd hLn ⟨a,d103,_⟩;change _=_ at a d103;refine au.live (show ak _ (f 103)=true by rw[d103];rfl) ?_;obtain⟨u0,u1,u2,u3,u4,u5,u6,u7,ufz⟩:=hC.facts;obtain⟨ev,ec,ef⟩:=evs f;refine aj ?_ hC trivial rfl;go_simp
          ·intro w L f hC hLi hLd hLn ⟨a,d103,_⟩;change _=_ at a d103;refine au.live (show ak _ (f 103)=true by rw[d103];rfl) ?_;obtain⟨u0,u1,u2⟩:=hC.tok hx1.out hA;obtain⟨ev,ec,ef⟩:=evs f;refine aj ?_ hC trivial rfl;go_simp
          ·intro w L f hC hLi hLd hLn ⟨a,d103,_⟩;change _=_ at a d103;refine au.live (show ak _ (f 103)=true by rw[d103];rfl) ?_;obtain⟨u0,u1,u2,u3,u4,u5,u6,u7,ufz⟩:=hC.facts;obtain⟨ev,ec,ef⟩:=evs f;refine aj ?_ hC trivial rfl;go_simp
          ·intro w L f hC hLi hLd hLn ⟨a,b,d89,_⟩;change _=_ at a b d89;refine au.live (show ak _ (f 89)=true by rw[d89];rfl) ?_;obtain⟨u0,u1,u2,u3,u4,u5,u6,u7,ufz⟩:=hC.facts;obtain⟨ev,ec,ef⟩:=evs f;refine aj ?_ hC trivial rfl;go_simp
          ·intro w L f hC hLi hLd hLn ⟨a,b,_⟩;change _=_ at a b;refine au.live rfl ?_;obtain⟨u0,u1,u2,u3,u4,u5,u6,u7,ufz⟩:=hC.facts;obtain⟨ev,ec,ef⟩:=evs f;refine aj ?_ hC trivial rfl;go_simp
         intro x w' hC hV
         have e0:x 59= .bool nf:=(hV 59 _ rfl rfl).trans (by rw[hN2.out]);clear hV;simp only[framed];rw[e0];have hC:=Za hC;go_wp2_with fail
         go_meet
         case rel=>exact⟨rfl,hC⟩
   case rest=>
    obtain⟨rfl,h3⟩:=hcut;clear hgo
    cases hnv:nf with
    |true=>
     rw[hnv]at ng hnf;have hNv:=ng.out;simp only[Bool.true_eq,Bool.and_eq_true,decide_eq_true_eq]at hNv;obtain⟨hn,hi2,q2,q1⟩:=hNv;obtain⟨x1,hx1⟩:∃x,C.tk[s.i+1]? =some x:=⟨_,List.getElem?_eq_getElem (by omega)⟩;obtain⟨x0,hx0⟩:∃x,C.tk[s.i]? =some x:=⟨_,List.getElem?_eq_getElem (by omega)⟩;obtain⟨b,off,hA,hbg,_⟩:=rQ.out.tok (k:=s.i) (by omega)
     have hT0:fB C s.i=x0.t:=by unfold fB;rw[hx0]
     have hT1:fB C (s.i+1)=x1.t:=by unfold fB;rw[hx1]
     have hl0:=(rQ.out.fit.txt x0 (List.mem_of_getElem? hx0)).1
     have hF:R=((if x1.t== [33,61]then .mk 8 .nil .nil (.mk 9 .nil .nil .nil .nil x0.t) .nil []else .mk 9 .nil .nil .nil .nil x0.t),{s with i:=s.i+3}):=by rw[hR.out];unfold nG;rw[h33.out,h40.out,←hnf.out,hT0,hT1];rfl
     have hok3:PS.Ok C {s with i:=s.i+3}:=⟨by simp only;omega,rQ.out.ok.n,rQ.out.ok.at_,rQ.out.ok.e,rQ.out.ok.deep⟩;replace hok3:=Za hok3;replace hx1:=Za hx1;replace hx0:=Za hx0;replace hn:=Za hn;replace h3:=Za h3.out;clear ng hnf hnv hT0 hT1 q1 q2 hR rQ;have hw2:=dh (i:=s.i) (by omega);have hw3:IntKind.i64.wrap ((s.i:Int)+3)=(s.i:Int)+3:=IntWalk.i64_in _ (by omega)
     have p1:(0:Int)≤(s.i:Int)+1:=by omega
     have p3:((s.i:Int)+1).toNat=s.i+1:=by omega
     have p5:(s.i:Int)+1<(C.tk.length:Int):=by omega
     obtain⟨a0,d0,d1,d2,d3,d4,d5,d6,dfz⟩:=h3.out.facts;obtain⟨t0,t1,t2⟩:=h3.out.tok hx0.out hA
     have hlt:s.i<C.tk.length:=by omega
     go_wp2_with fail
     go_still_tail 11,(by kernel_rfl)
     have h4:=Za (h3.out.below (Below.refl _ wc).drew);change wpList _ _ _ _ _ wc.drew;obtain⟨w5,hw5⟩:∃x,x=wc.drew:=⟨_,rfl⟩;rw[←hw5]at h4⊢;clear hw5 a0 d0 d1 d2 d3 d4 d5 d6 dfz t0 t1 t2 h3;have h5:=h4.out.below (aA w5 (.cells #[.int .i64 9,.pointer none,.pointer none,.pointer none,.pointer none,.string (ay x0.t)] 213))
     have hT5:bC (w5.alloc (.cells #[.int .i64 9,.pointer none,.pointer none,.pointer none,.pointer none,.string (ay x0.t)] 213)) (Ge w.heap.size) (.mk 9 .nil .nil .nil .nil x0.t) (.pointer (some ⟨w5.heap.size,0,none⟩)):=
      bC.new 9 x0.t (by decide) hl0 h4.out.wr.size rfl (aJ.nil_ _ _) (aJ.nil_ _ _) (bC.nil_ _ _) (bC.nil_ _ _)
     obtain⟨w6,hw6⟩:∃x,x=w5.alloc (.cells #[.int .i64 9,.pointer none,.pointer none,.pointer none,.pointer none,.string (ay x0.t)] 213):=⟨_,rfl⟩;rw[←hw6]at h5 hT5;obtain⟨g5,hg5⟩:∃x,x=w5.heap.size:=⟨_,rfl⟩;rw[←hg5]at hT5;go_wp2_with fail;rw[←hw6,←hg5];clear hw6 hg5 h4;obtain⟨a0,d0,d1,d2,d3,d4,d5,d6,dfz⟩:=h5.facts;obtain⟨t0,t1,t2⟩:=h5.tok hx1.out hA;replace h5:=Za h5;replace hT5:=Za hT5;by_cases q1:x1.t= [33,61]
     ·have k1:((ay x1.t).toList== [33,61])=true:=by rw[aH,q1];rfl
      replace hF:Hid (R=(.mk 8 .nil .nil (.mk 9 .nil .nil .nil .nil x0.t) .nil [],{s with i:=s.i+3})):=Za (by rw[hF,q1];rfl);clear q1;go_quiet (fail);have h6:=h5.out.below (below_drewN (Below.refl _ w6) nq);have hT6:=hT5.out.below (below_drewN (Below.refl _ w6) nq);obtain⟨w7,hw7⟩:∃x,x=w6.drewN nq:=⟨_,rfl⟩;rw[←hw7]at h6 hT6⊢;clear hw7 a0 d0 d1 d2 d3 d4 d5 d6 dfz t0 t1 t2 h5 hT5;obtain⟨a0,d0,d1,d2,d3,d4,d5,d6,dfz⟩:=h6.facts;replace h6:=Za h6;replace hT6:=Za hT6;go_wp2_with fail;go_ret;have hS:=h6.out.store (s2:={s with i:=s.i+3}) 1 (.int .i64 ((s.i:Int)+3)) (by simp[PS.cells]) hok3.out;have hst:Writes [some Z.g] w7 (w7.setCell ⟨Z.g,1,none⟩ (.int .i64 ((s.i:Int)+3))):=Writes.store w7 (by simp) _;rw[hF.out];exact f_.of (hS.below (aA _ _)) (bC.new 8 [] (by decide) (by simp) (Nat.le_trans h6.out.wr.size hst.size) (gV _ _ _).symm (aJ.nil_ _ _) (aJ.nil_ _ _) (hT6.out.pw hst hlt0) (bC.nil_ _ _))
     ·have k1:((ay x1.t).toList== [33,61])=false:=by rw[aH];simpa using q1
      replace hF:Hid (R=(.mk 9 .nil .nil .nil .nil x0.t,{s with i:=s.i+3})):=Za (by rw[hF,show(x1.t== [33,61])=false by simpa using q1];rfl);clear q1;go_quiet (fail);have h8:=h5.out.below (below_drewN (Below.refl _ w6) nq);have hT8:=hT5.out.below (below_drewN (Below.refl _ w6) nq);obtain⟨w8,hw8⟩:∃x,x=w6.drewN nq:=⟨_,rfl⟩;rw[←hw8]at h8 hT8⊢;clear hw8 a0 d0 d1 d2 d3 d4 d5 d6 dfz t0 t1 t2 h5 hT5;obtain⟨a0,d0,d1,d2,d3,d4,d5,d6,dfz⟩:=h8.facts;replace h8:=Za h8;replace hT8:=Za hT8;go_wp2_with fail;go_ret;have hS:=h8.out.store (s2:={s with i:=s.i+3}) 1 (.int .i64 ((s.i:Int)+3)) (by simp[PS.cells]) hok3.out;have hst:Writes [some Z.g] w8 (w8.setCell ⟨Z.g,1,none⟩ (.int .i64 ((s.i:Int)+3))):=Writes.store w8 (by simp) _;rw[hF.out];exact f_.of hS (hT8.out.pw hst hlt0)
    |false=>
     rw[hnv]at hnf;obtain⟨r,hr⟩:∃x,x=sum C s:=⟨_,rfl⟩;have hd:=(hs0 C s).dp;rw[←hr]at hd;have hF:Hid (pW C (sum C) r.1 0 vY r.2=R):=Za (by rw[hR.out,hr];unfold nG;rw[h33.out,h40.out,←hnf.out];rfl)
     have hdm:m≤r.2.deep:=by omega
     replace hr:=Za hr;clear ng hnf hnv hR rQ hd;go_wp2_with fail;refine(hsum.from_ h3.out hm hr.out.symm).mono ?_;rintro e w4 ⟨p,rfl,h4,hE,-⟩;have hHn:=Holds.new w4 9 #[.string ⟨#[61,61]⟩,.string ⟨#[33,61]⟩,.string ⟨#[60]⟩,.string ⟨#[60,61]⟩,.string ⟨#[62]⟩,.string ⟨#[62,61]⟩];have hbn:=aA w4 (.cells #[.string ⟨#[61,61]⟩,.string ⟨#[33,61]⟩,.string ⟨#[60]⟩,.string ⟨#[60,61]⟩,.string ⟨#[62]⟩,.string ⟨#[62,61]⟩] 9);have h5:=h4.below hbn;have hE5:=hE.below hbn;obtain⟨w5,hw5⟩:∃x,x=w4.alloc (.cells #[.string ⟨#[61,61]⟩,.string ⟨#[33,61]⟩,.string ⟨#[60]⟩,.string ⟨#[60,61]⟩,.string ⟨#[62]⟩,.string ⟨#[62,61]⟩] 9):=⟨_,rfl⟩;obtain⟨g5,hg5⟩:∃x,x=w4.heap.size:=⟨_,rfl⟩;have hgz:Hid (Z.g<g5):=Za (by rw[hg5];exact h4.at_.lt);rw[←hw5]at hHn h5 hE5;rw[←hg5]at hHn;have hH5:=Za hHn;replace h5:=Za h5;replace hE5:=Za hE5;clear h4 hE hbn hHn h3 hr;go_wp2_with fail;rw[←hw5,←hg5];clear hw5 hg5
     go_loopw [8] (fun kv wr=>∃k:Nat,k≤6∧kv= .int .i64 k∧Hid (pW C (sum C) r.1 k (vY.drop k) r.2=R)∧Hid (Moved C Z r.2 w wr∧aJ wr (Ge w.heap.size) r.1 (.pointer p)∧Holds wr g5 9 #[.string ⟨#[61,61]⟩,.string ⟨#[33,61]⟩,.string ⟨#[60]⟩,.string ⟨#[60,61]⟩,.string ⟨#[62]⟩,.string ⟨#[62,61]⟩])) (fun kv _=>6-(intOf kv).toNat)
     case atStart=>exact⟨0,by omega,rfl,hF,Za ⟨h5.out,hE5.out,hH5.out⟩⟩
     clear hF h5 hE5 hH5;obtain⟨k,hk,rfl,hF,xP⟩:=hrel;rename World=>wl;by_cases hk6:k<6
     ·have hk6':(k:Int)<6:=by omega
      have hlen6:k<vY.length:=hk6;obtain⟨t,ht⟩:∃x,x=vY[k]:=⟨_,rfl⟩
      have hdk:vY.drop k=t::vY.drop (k+1):=by rw[ht];exact List.drop_eq_getElem_cons hlen6
      have hcell:wl.cell? ⟨g5,k,none⟩=some (.string ⟨t.toArray⟩):=by rw[xP.out.2.2.cell,ht];exact F9 k hk6
      have hgl:=xP.out.2.2.lt
      cases hi:isF C t r.2 with
      |true=>
       obtain⟨r2,hr2⟩:∃x,x=sum C r.2.next:=⟨_,rfl⟩;have hF2:Hid (R=(.mk k r.1 r2.1 .nil .nil [],r2.2)):=Za (by rw[←hF.out,hdk,hr2];unfold pW;rw[if_pos hi]);replace hr2:=Za hr2;replace hi:=Za hi;clear hF hdk ht;go_wp2_with fail;refine(dH xP.out.1 t hi.out rfl).mono ?_;rintro e w6 ⟨rfl,h6,hW6⟩;have hE6:=Za (xP.out.2.1.pw hW6 hlt0);replace h6:=Za h6;clear hcell hgl hW6;go_wp2_with fail;refine(hsum.from_ h6.out (by simpa[PS.next]using hdm) hr2.out.symm).mono ?_;rintro e w7 ⟨p2,rfl,h7,hE7,hW7⟩;have hE8:=Za (hE6.out.pw hW7 hlt0);replace h7:=Za h7;replace hE7:=Za hE7;clear hW7;go_wp2_with fail;go_ret;rw[hF2.out];exact f_.of (h7.out.below (aA _ _)) (bC.new k [] (by omega) (by simp) h7.out.wr.size rfl hE8.out hE7.out (bC.nil_ _ _) (bC.nil_ _ _))
      |false=>
       have hF2:Hid (pW C (sum C) r.1 (k+1) (vY.drop (k+1)) r.2=R):=Za (by rw[←hF.out,hdk];exact(Fa hi _ _ _ ()).symm);replace hi:=Za hi;clear hF hdk ht;go_wp2_with fail;refine(bg xP.out.1 t hi.out).mono ?_;rintro e w6 ⟨rfl,h6,hW6⟩;have hA6:=Za (show Moved C Z r.2 w w6∧aJ w6 (Ge w.heap.size) r.1 (.pointer p)∧Holds w6 g5 9 #[.string ⟨#[61,61]⟩,.string ⟨#[33,61]⟩,.string ⟨#[60]⟩,.string ⟨#[60,61]⟩,.string ⟨#[62]⟩,.string ⟨#[62,61]⟩]from⟨h6,xP.out.2.1.pw hW6 hlt0,hW6.holds xP.out.2.2 (by have:=hgz.out;simp;omega)⟩);clear hcell hgl hW6 h6;go_wp2_with fail;go_roundw
       case rel=>exact⟨k+1,by omega,by go_num,hF2,hA6⟩
       case measure=>simp[intOf];omega
     ·obtain rfl:k=6:=by omega
      have hF2:Hid (R=(.nil,bT C 51 r.2)):=Za (by rw[←hF.out];rfl);go_wp2_with fail;refine(fF xP.out.1 51 (by decide) rfl).mono ?_;rintro e w6 ⟨rfl,h6,-⟩;replace h6:=Za h6;go_wp2_with fail;go_ret;rw[hF2.out];exact f_.of h6.out (bC.nil_ _ _)
theorem pV:∀d,d≤40→dL 192 (40-d) (fun C=>qI C d)∧dL 167 (40-d) (fun C=>BR C d)∧dL 131 (40-d) (fun C=>uT C d)
 |0,_=>by
  have h1:dL 192 40 (fun C=>qI C 0):=xk 40 (fun C=>sS C 0) (fun _ s=>(.nil,s)) (fun _ s=>(.nil,s)) (j_ 0 (by omega)).2.2 (dL.vac _ _) (dL.vac _ _) (fun C s=>fK 0 s) (fun _ s=>Stp.refl s) (fun _ s=>Stp.refl s);have h2:dL 167 40 (fun C=>BR C 0):=yj 40 (fun C=>qI C 0) h1 (fun C s=>jw 0 s);exact⟨h1,h2,uQ 40 (fun C=>BR C 0) h2 (fun C s=>yt 0 s)⟩
 |d+1,hd=>by
  obtain⟨i1,i2,i3⟩:=pV d (by omega)
  have e:40-d=40-(d+1)+1:=by omega
  rw[e]at i1 i2 i3;have h1:dL 192 (40-(d+1)) (fun C=>qI C (d+1)):=xk _ (fun C=>sS C (d+1)) (fun C=>uT C d) (fun C=>qI C d) (j_ (d+1) hd).2.2 i3 i1 (fun C s=>fK (d+1) s) (fun C s=>iT d s) (fun C s=>jw d s);have h2:dL 167 (40-(d+1)) (fun C=>BR C (d+1)):=yj _ (fun C=>qI C (d+1)) h1 (fun C s=>jw (d+1) s);exact⟨h1,h2,uQ _ (fun C=>BR C (d+1)) h2 (fun C s=>yt (d+1) s)⟩
def aW (w:World) (S:Nat→Prop):List Ag→List Value→Prop
 | [],vs=>vs= []
 |a::l,vs=>∃ve vs',vs= .bool a.ptr:: .string (ay a.nm)::ve::vs'∧a.nm.length≤4096∧aJ w S a.e ve∧aW w S l vs'
section
variable {w w':World} {S S':Nat→Prop}
theorem aW.keep (hk:∀x,x<w.heap.size→S x→w'.heap[x]? =w.heap[x]?):∀{l:List Ag} {vs:List Value},aW w S l vs→aW w' S l vs
 | [],_,h=>h
 |_::_,_,h=>by obtain⟨ve,vs',e,hn,h1,h2⟩:=h;exact⟨ve,vs',e,hn,h1.keep hk,aW.keep hk h2⟩
theorem aW.mono (hk:∀x,x<w.heap.size→S x→S' x):∀{l:List Ag} {vs:List Value},aW w S l vs→aW w S' l vs
 | [],_,h=>h
 |_::_,_,h=>by obtain⟨ve,vs',e,hn,h1,h2⟩:=h;exact⟨ve,vs',e,hn,h1.mono hk,aW.mono hk h2⟩
theorem aW.length:∀{l:List Ag} {vs:List Value},aW w S l vs→vs.length=l.length*3
 | [],_,h=>by rw[show _= []from h];rfl
 |_::l,_,h=>by obtain⟨ve,vs',rfl,hn,h1,h2⟩:=h;have:=aW.length h2;simp only[List.length_cons,this];omega
theorem aW.snoc:∀{l:List Ag} {vs:List Value},aW w S l vs→∀{a:Ag} {ve:Value},a.nm.length≤4096→aJ w S a.e ve→aW w S (l++ [a]) (vs++ [.bool a.ptr,.string (ay a.nm),ve])
 | [],_,h,a,ve,hn,he=>by rw[show _= []from h];exact⟨ve,[],rfl,hn,he,rfl⟩
 |_::_,_,h,a,ve,hn,he=>by obtain⟨v1,vs',rfl,hn1,h1,h2⟩:=h;exact⟨v1,vs'++ [.bool a.ptr,.string (ay a.nm),ve],rfl,hn1,h1,aW.snoc h2 hn he⟩
end
def bI (w:World) (S:Nat→Prop) (A:Option Addr) (vs:List Value):Prop:=
 vs≠[]→∃b off,A=some ⟨b,off,none⟩∧S b∧∀j u,vs[j]? =some u→w.cell? ⟨b,off+j,none⟩=some u
section
variable {w w':World} {S S':Nat→Prop} {A:Option Addr} {vs:List Value}
theorem bI.nil_ (w:World) (S:Nat→Prop) (A:Option Addr):bI w S A []:=fun h=>absurd rfl h
theorem bI.lt (h:bI w S A vs) (hn:vs≠[]) {b off:Nat} (hA:A=some ⟨b,off,none⟩):b<w.heap.size:=by
 obtain⟨b',off',e,hS,hc⟩:=h hn;rw[hA]at e;injection e with e;injection e with e1 e2;subst e1 e2;rcases vs with _| ⟨u,r⟩
 ·exact absurd rfl hn
 ·rcases Nat.lt_or_ge b w.heap.size with h1|h1
  ·exact h1
  ·have:=hc 0 u rfl;simp[World.cell?,Array.getElem?_eq_none h1]at this
theorem bI.keep (hk:∀x,x<w.heap.size→S x→w'.heap[x]? =w.heap[x]?) (h:bI w S A vs):bI w' S A vs:=fun hn=>by
 obtain⟨b,off,e,hS,hc⟩:=h hn;exact⟨b,off,e,hS,fun j u hu=>(World.cell?_of_block (hk b (h.lt hn e) hS)).trans (hc j u hu)⟩
theorem bI.mono (hk:∀x,x<w.heap.size→S x→S' x) (h:bI w S A vs):bI w S' A vs:=fun hn=>by
 obtain⟨b,off,e,hS,hc⟩:=h hn;exact⟨b,off,e,hk b (h.lt hn e) hS,hc⟩
theorem bI.row {B:Nat} (h:bI w (fun x=>x<B) A vs):Row w B A vs:=h
theorem bI.own {base:Nat} {e:TypeId} {k n:Nat} {v:Value} (h:w.ownsRow base e k v n vs) (hS:∀g,v.ownBlock=some g→S g):∃A c,v= .slice A n c∧bI w S A vs∧(n≤c):=by
 have hl:=h.1;rcases h.2 with⟨rfl,rfl⟩| ⟨g,cap,cur,rfl,hg,hh,hn,_⟩
 ·have:vs= []:=List.eq_nil_of_length_eq_zero (by simpa using hl);subst this;exact⟨none,0,rfl,bI.nil_ _ _ _,Nat.le_refl _⟩
 ·refine⟨_,cap,rfl,fun _=>⟨g,0,rfl,hS g (by simp[Value.ownBlock]),fun j u hu=> ?_⟩,hn⟩;have:=h.cells (g:=g) rfl j u hu
  have hadd:(⟨g,0,none⟩:Addr).add j=⟨g,0+j,none⟩:=by unfold Addr.add;split<;>simp_all
  rw[←hadd];exact this
end
def aZ (w:World) (S:Nat→Prop) (l:List Ag) (v:Value):Prop:=∃A c vs,v= .slice A l.length c∧l.length≤100000∧l.length≤c∧bI w S A vs∧aW w S l vs
section
variable {w w':World} {S S':Nat→Prop} {l:List Ag} {v:Value}
theorem aZ.keep (hk:∀x,x<w.heap.size→S x→w'.heap[x]? =w.heap[x]?) (h:aZ w S l v):aZ w' S l v:=by
 obtain⟨A,c,vs,e,h1,hc,h2,h3⟩:=h;exact⟨A,c,vs,e,h1,hc,h2.keep hk,h3.keep hk⟩
theorem aZ.mono (hk:∀x,x<w.heap.size→S x→S' x) (h:aZ w S l v):aZ w S' l v:=by
 obtain⟨A,c,vs,e,h1,hc,h2,h3⟩:=h;exact⟨A,c,vs,e,h1,hc,h2.mono hk,h3.mono hk⟩
theorem aZ.below (h:aZ w S l v) (hb:Below w.heap.size w w'):aZ w' S l v:=h.keep fun x hx _=>hb.block x hx
theorem aZ.pw {B g:Nat} (h:aZ w (Ge B) l v) (hW:Writes [some g] w w') (hg:g<B):aZ w' (Ge B) l v:=
 h.keep fun x hx hS=>hW.block x hx (fun e=>by simp at e;subst e;exact absurd hS (Nat.not_le_of_lt hg))
theorem aZ.ge {B B':Nat} (h:aZ w (Ge B') l v) (hB:B≤B'):aZ w (Ge B) l v:=h.mono fun _ _ h=>Nat.le_trans hB h
theorem aZ.nil_ (w:World) (S:Nat→Prop):aZ w S [] (.slice none 0 0):=⟨none,0,[],rfl,by simp,by simp,bI.nil_ _ _ _,rfl⟩
end
def Gi (C:PC) (L:PL) (r:List Ag×PS) (w:World) (e:Ending) (w':World):Prop:=∃v,e= .returned v∧Moved C L r.2 w w'∧aZ w' (Ge w.heap.size) r.1 v
def dB (B:Nat) (v:Value) (x:Nat):Prop:=B≤x∧v.ownBlock≠some x
structure sQ (C:PC) (L:PL) (sum:PS→Ex×PS) (m:Nat) (R:List Ag×PS) (f:Nat) (l:List Ag) (s:PS) (v:Value) (w0 w:World):Prop where
 eq:lg C sum f l s=R
 fuel:s.e=0→C.tk.length<s.i+f∧l.length≤s.i
 dp:m≤s.deep
 mv:Moved C L s w0 w
 own:∃vs,w.ownsRow w0.heap.size 168 3 v l.length vs∧aW w (dB w0.heap.size v) l vs
theorem bD {w:World} {base:Nat} {e:TypeId} {sz:Nat} {v:Value} {n:Nat} {xs:List Value} (h:w.ownsRow base e sz v n xs) {k:Nat} (hk:v.ownBlock=some k):base≤k:=by
 rcases h.2 with⟨rfl,_⟩| ⟨g,cap,cur,rfl,hb,_⟩
 ·cases hk
 ·simp[Value.ownBlock]at hk;omega
theorem Tryz.infoArg:(Tryz.prog.info? 168).map (fun i=>(i.zero,i.size,i.bytes))=some (some (.agg #[.bool false,.string ⟨#[]⟩,.pointer none]),3,32):=by kernel_rfl
section
variable {C:PC} {L:PL} {sum:PS→Ex×PS} {m:Nat} {R:List Ag×PS} {f:Nat} {l:List Ag} {s:PS} {v:Value} {w0 w:World}
theorem sQ.stop (h:sQ C L sum m R f l s v w0 w) (hs:s.e≠0):R=([],s):=by
 rw[←h.eq]
 cases f with
 |zero=>rfl
 |succ f=>unfold lg;rw[if_pos hs]
theorem sQ.go_ (h:sQ C L sum m R f l s v w0 w) (he:s.e=0) (hi:s.i≤C.tk.length):
  ∃f',f=f'+1∧R=if isF C [41] (sum s).2 then(l++ [⟨false,[],(sum s).1⟩],(sum s).2.next)else lg C sum f' (l++ [⟨false,[],(sum s).1⟩]) (aY C [44] (sum s).2):=by
 have hf:=(h.fuel he).1
 cases f with
 |zero=>omega
 |succ f=>
  refine⟨f,rfl,?_⟩;rw[←h.eq]
  conv=>lhs;unfold lg
  rw[if_neg (by omega)]
end
theorem aZ.own {w:World} {base:Nat} {l:List Ag} {vs:List Value} {v:Value} (h:w.ownsRow base 168 3 v l.length vs) (h2:aW w (dB base v) l vs) (hl:l.length≤100000):aZ w (Ge base) l v:=by
 obtain⟨A,c,e,hr,hc⟩:=bI.own (S:=Ge base) h (fun g hg=>bD h hg);exact⟨A,c,vs,e,hl,hc,hr,h2.mono fun x _ hx=>hx.1⟩
def iY (L:PL) (w:World):Nat:=2*rG L w+(if intOf ((w.cell? ⟨L.g,3,none⟩).getD undef)=0 then 1 else 0)
theorem Moved.iY {C:PC} {L:PL} {s:PS} {w0 w:World} (h:Moved C L s w0 w):iY L w=2*(5000-s.i)+(if s.e=0 then 1 else 0):=by
 obtain⟨a0,d0,d1,d2,d3,d4,d5,d6,dfz⟩:=h.facts;unfold Go.Proofs.YtpndglghpojjkaaGreat.iY;rw[h.left,d3];simp[intOf]
theorem jA {i i' e e':Nat} (h0:e=0) (hi:i'≤4096) (h1:i≤i') (h2:e'=0→i+1≤i'):2*(5000-i')+(if e'=0 then 1 else 0)<2*(5000-i)+(if e=0 then 1 else 0):=by
 rw[if_pos h0];split
 ·have:=h2 ‹_›;omega
 ·omega
theorem jU {C:PC} {t:List UInt8} {s:PS} (h:(aY C t s).e=0):s.i+1≤(aY C t s).i:=by
 unfold aY at h⊢;split
 ·exact Nat.le_refl _
 ·rename_i hi;rw[if_neg hi]at h;exact absurd h (ou 51 (by decide) s)
theorem dG.near {f m:Nat} {F:PC→PS→Ex×PS} (h:dG f m F) {C:PC} {L:PL} {s:PS} {w0 w:World} {r:Ex×PS} (hM:Moved C L s w0 w) (hm:m≤s.deep) (hr:F C s=r):
  Calls Tryz.prog f #[.pointer (some ⟨L.g,0,none⟩)] w fun e w'=>∃p,e= .returned (.pointer p)∧Moved C L r.2 w0 w'∧aJ w' (Ge w.heap.size) r.1 (.pointer p)∧Writes [some L.g] w w':=by
 subst hr;refine(h C L w s hM.at_ hm).mono ?_;rintro e w' ⟨p,rfl,h1,h2⟩;exact⟨p,rfl,hM.trans h1,h2,h1.wr⟩
theorem bV {w w':World} {base g:Nat} {e:TypeId} {k n:Nat} {v:Value} {xs:List Value} (h:w.ownsRow base e k v n xs) (hW:Writes [some g] w w') (hg:g<base):w'.ownsRow base e k v n xs:=
 hW.own h (by
  cases hq:v.ownBlock with
  |none=>exact .inl rfl
  |some k=>right;have:=bD h hq;simp;omega)
theorem aW.pw {w w':World} {base g:Nat} {v:Value} {l:List Ag} {vs:List Value} (h:aW w (dB base v) l vs) (hW:Writes [some g] w w') (hg:g<base):aW w' (dB base v) l vs:=
 h.keep fun x hx hS=>hW.block x hx fun e=>by simp at e;subst e;exact absurd hS.1 (Nat.not_le_of_lt hg)
theorem jL {w:World} {base:Nat} {e:TypeId} {k n n':Nat} {v:Value} {xs:List Value} (h:w.ownsRow base e k v n xs) (hn:n=n'):w.ownsRow base e k v n' xs:=hn▸h
theorem dB.step {w3:World} {base:Nat} {v v':Value} (hv:v'.ownBlock=v.ownBlock∨v'.ownBlock=some w3.heap.size) (x:Nat) (hx:x<w3.heap.size) (h:dB base v x):dB base v' x:=by
 refine⟨h.1,?_⟩;rcases hv with hv|hv
 ·rw[hv];exact h.2
 ·rw[hv];simp;omega
theorem aW.push {w2 w3 w4:World} {base:Nat} {v v':Value} {l:List Ag} {vs:List Value} {a:Ag} {ve:Value} (h:aW w2 (dB base v) l vs) (ht:aJ w2 (dB base v) a.e ve) (hn:a.nm.length≤4096)
  (hb:Below w2.heap.size w2 w3) (hg:w3.grownBy w4 v.ownBlock) (hv:v'.ownBlock=v.ownBlock∨v'.ownBlock=some w3.heap.size):aW w4 (dB base v') (l++ [a]) (vs++ [.bool a.ptr,.string (ay a.nm),ve]):=by
 have h3:aW w3 (dB base v) (l++ [a]) (vs++ [.bool a.ptr,.string (ay a.nm),ve]):=(h.snoc hn ht).keep fun x hx _=>hb.block x hx;have h4:aW w4 (dB base v) (l++ [a]) (vs++ [.bool a.ptr,.string (ay a.nm),ve]):=h3.keep fun x hx hS=>hg.block x hx fun e=>hS.2 e.symm;have h5:aW w3 (fun x=>dB base v x∧dB base v' x) (l++ [a]) (vs++ [.bool a.ptr,.string (ay a.nm),ve]):=h3.mono fun x hx hS=>⟨hS,dB.step hv x hx hS⟩;have h6:aW w4 (fun x=>dB base v x∧dB base v' x) (l++ [a]) (vs++ [.bool a.ptr,.string (ay a.nm),ve]):=h5.keep fun x hx hS=>hg.block x hx fun e=>hS.1.2 e.symm;exact h6.mono fun _ _ hS=>hS.2
theorem u_ (m:Nat) (sum:PC→PS→Ex×PS) (hsum:dG 130 m sum) (hs:∀C s,Stp C s (sum C s).2) (C:PC) (L:PL) (w:World) (s:PS) (hP:PAt C L s w) (hm:m≤s.deep):
  Calls Tryz.prog 133 #[.pointer (some ⟨L.g,0,none⟩)] w (Gi C L (jg C (sum C) s) w):=by
 obtain⟨iA,hiA,hzA0,hzA1,hzA2⟩:=info_parts Tryz.infoArg;have hM:=Za (Moved.refl hP);have hlt0:=hP.lt;have hlen:=hP.fit.len;obtain⟨R,hR⟩:∃x,x=jg C (sum C) s:=⟨_,rfl⟩;rw[←hR]
 cases h41:isF C [41] s with
 |true=>
  have hF:Hid (R=([],s.next)):=Za (by rw[hR];unfold jg;rw[h41];rfl);replace h41:=Za h41;clear hR hP;go_enter Tryz.func133,Tryz.ntmps133;go_wp2_with fail;refine(dH hM.out [41] h41.out rfl).mono ?_;rintro e w1 ⟨rfl,h1,-⟩;replace h1:=Za h1;go_wp2_with fail;go_ret;rw[hF.out];exact⟨_,rfl,h1.out,aZ.nil_ _ _⟩
 |false=>
  have hF:Hid (lg C (sum C) (C.tk.length+1) [] s=R):=Za (by rw[hR];unfold jg;rw[h41];rfl);replace h41:=Za h41;clear hR hP;go_enter Tryz.func133,Tryz.ntmps133;go_wp2_with fail;refine(bg hM.out [41] h41.out).mono ?_;rintro e w1 ⟨rfl,h1,-⟩;have hL1:Hid (sQ C L (sum C) m R (C.tk.length+1) [] s (.slice none 0 0) w w1):=Za ⟨hF.out,fun _=>⟨by omega,by simp⟩,hm,h1,[],⟨rfl,.inl ⟨rfl,rfl⟩⟩,rfl⟩;clear h1 hF h41;go_wp2_with fail;go_loopw [3] (fun av wr=>∃(f:Nat) (l:List Ag) (t:PS),Hid (sQ C L (sum C) m R f l t av w wr)) (fun _ wr=>iY L wr)
  case atStart=>exact⟨_,_,_,hL1⟩
  clear hL1;obtain⟨f,l,t,hL⟩:=hrel;rename World=>wl;obtain⟨a0,d0,d1,d2,d3,d4,d5,d6,dfz⟩:=hL.out.mv.facts;obtain⟨b1,b2,b3,b4,b5,b6,b7⟩:=hL.out.mv.bounds;by_cases he:t.e=0
  case neg=>
   have he':((t.e:Int)==0)=false:=by simp;omega
   have hF:=Za (hL.out.stop he);go_wp2_with fail;go_ret;rw[hF.out];exact⟨_,rfl,hL.out.mv,aZ.nil_ _ _⟩
  have he':((t.e:Int)==0)=true:=by simp;omega
  obtain⟨f',hff,hRR⟩:=hL.out.go_ he b3;have hfu:=hL.out.fuel he;obtain⟨r,hr⟩:∃x,x=sum C t:=⟨_,rfl⟩;have hst:=hs C t;rw[←hr]at hRR hst;have hi1:=hst.i1
  have hdp:m≤r.2.deep:=by rw[hst.dp];exact hL.out.dp
  obtain⟨vs,hown,hcells⟩:=hL.out.own;replace hr:=Za hr;replace hown:=Za hown;replace hcells:=Za hcells;replace hRR:=Za hRR;have he0:=Za he;clear hst he;go_wp2_with fail;refine(hsum.near hL.out.mv hL.out.dp hr.out.symm).mono ?_;rintro e w2 ⟨p,rfl,h2,hE2,hW2⟩;clear a0 d0 d1 d2 d3 d4 d5 d6 dfz
  have hoff:∀k,some k∈[some L.g]→¬dB w.heap.size u3 k:=fun k hk hg=>by simp at hk;subst hk;exact absurd hg.1 (Nat.not_le_of_lt hlt0)
  have hown2:w2.ownsRow w.heap.size 168 3 u3 l.length vs:=hW2.own hown.out (by
   cases hq:u3.ownBlock with
   |none=>exact .inl rfl
   |some k=>right;have:=bD hown.out hq;simp;omega)
  have hcells2:aW w2 (dB w.heap.size u3) l vs:=hcells.out.keep fun x hx hS=>hW2.block x hx fun e=>hoff x e hS;have hE2':aJ w2 (dB w.heap.size u3) r.1 (.pointer p):=hE2.mono fun x _ hS=>⟨Nat.le_trans hL.out.mv.wr.size hS,fun e=>by have:=hown.out.lt x e;have:wl.heap.size≤x:=hS;omega⟩;have hbn:=aA w2 (.cells #[.bool false,.string ⟨#[]⟩,.pointer p] 168);have hO3:=Za (own_below hown2 hbn)
  have hnews:Hid (∀(j:Nat) u,([.bool false,.string ⟨#[]⟩,.pointer p]:List Value)[j]? =some u→(w2.alloc (.cells #[.bool false,.string ⟨#[]⟩,.pointer p] 168)).cell? ((⟨w2.heap.size,0,none⟩:Addr).add j)=some u):=Za (fun j u hu=>by
   have hh:=Holds.new w2 168 #[.bool false,.string ⟨#[]⟩,.pointer p]
   have hadd:(⟨w2.heap.size,0,none⟩:Addr).add j=⟨w2.heap.size,j,none⟩:=by unfold Addr.add;split<;>simp_all
   rw[hadd,hh.cell]
   simpa using hu)
  have hone:Hid (∀u∈([.bool false,.string ⟨#[]⟩,.pointer p]:List Value),u.oneCell'=true):=Za (by simp;exact⟨rfl,rfl,rfl⟩);have hsz:Hid (w.heap.size≤(w2.alloc (.cells #[.bool false,.string ⟨#[]⟩,.pointer p] 168)).heap.size):=Za (Nat.le_trans h2.wr.size hbn.size);have h3:=Za (h2.below hbn);have hl1:Hid ((l++ [(⟨false,[],r.1⟩:Ag)]).length=l.length+1):=Za (by simp);replace hbn:=Za hbn;replace hcells2:=Za hcells2;replace hE2':=Za hE2';clear hE2 hW2 hoff hown2 hcells hown h2;go_wp2_with
   (at_builtin
    go_loud (refine wpList_append_own_at _ rfl (.tmp 11) (.tmp 15) 61 rfl w.heap.size 168 iA _ 3 32 rfl hiA hzA0 hzA1 hzA2 rfl (by omega) u3 l.length vs rfl hO3.out ⟨w2.heap.size,0,none⟩ 1 1 [.bool false,.string ⟨#[]⟩,.pointer p] rfl rfl hnews.out hone.out (by unfold maxLen;omega) (by omega) hsz.out ?_)
    go_loud (
     intro v5 w5 ho5 hg5 _ hv5;have hO5:Hid (w5.ownsRow w.heap.size 168 3 v5 (l++ [(⟨false,[],r.1⟩:Ag)]).length (vs++ [.bool false,.string ⟨#[]⟩,.pointer p])):=Za (jL ho5 hl1.out.symm);have hC5:Hid (aW w5 (dB w.heap.size v5) (l++ [(⟨false,[],r.1⟩:Ag)]) (vs++ [.bool false,.string ⟨#[]⟩,.pointer p])):=Za (hcells2.out.push (a:=⟨false,[],r.1⟩) hE2'.out (by simp) hbn.out hg5 hv5)
     have h5:Hid (Moved C L r.2 w w5):=Za ⟨h3.out.at_.writes (Writes.bG hg5 (M:= [u3.ownBlock]) (by simp)) (fun k hk=>by have:=bD hO3.out (List.mem_singleton.1 hk).symm;omega),by
      refine h3.out.wr.then_ (Writes.bG hg5 (M:= [u3.ownBlock]) (by simp)) (fun k hk hm=> ?_);have:=bD hO3.out (List.mem_singleton.1 hm).symm
      omega⟩
     clear ho5 hg5 hv5))
  cases h41:isF C [41] r.2 with
  |true=>
   have hF:Hid (R=(l++ [(⟨false,[],r.1⟩:Ag)],r.2.next)):=Za (by rw[hRR.out,if_pos h41]);replace h41:=Za h41;refine(dH h5.out [41] h41.out rfl).mono ?_;rintro e w6 ⟨rfl,h6,hW6⟩;have hO6:=Za (bV hO5.out hW6 hlt0);have hC6:=Za (hC5.out.pw hW6 hlt0);replace h6:=Za h6;clear hW6;go_wp2_with fail;go_ret;rw[hF.out];exact⟨_,rfl,h6.out,aZ.own hO6.out hC6.out (by rw[hl1.out];omega)⟩
  |false=>
   have hF:Hid (lg C (sum C) f' (l++ [(⟨false,[],r.1⟩:Ag)]) (aY C [44] r.2)=R):=Za (by rw[hRR.out,if_neg (by rw[h41];simp)]);replace h41:=Za h41;refine(bg h5.out [41] h41.out).mono ?_;rintro e w6 ⟨rfl,h6,hW6⟩;have hO6:=Za (bV hO5.out hW6 hlt0);have hC6:=Za (hC5.out.pw hW6 hlt0);replace h6:=Za h6;clear hW6 hO5 hC5;go_wp2_with fail;refine(bf h6.out [44] rfl).mono ?_;rintro e w7 ⟨rfl,h7,hW7⟩;have hO7:=bV hO6.out hW7 hlt0;have hC7:=hC6.out.pw hW7 hlt0;have hn:=fun h=>jU (C:=C) (t:= [44]) (s:=r.2) h;have hwi:=(Stp.want (C:=C) [44] r.2).i1;have hwd:=(Stp.want (C:=C) [44] r.2).dp
   have hL7:Hid (sQ C L (sum C) m R f' (l++ [(⟨false,[],r.1⟩:Ag)]) (aY C [44] r.2) v5 w w7):=
    Za ⟨hF.out,fun h=>by have:=hn h;rw[hl1.out];omega,by rw[hwd];exact hdp,h7,_,hO7,hC7⟩
   have hm1:=hL.out.mv.iY;have hm2:=hL7.out.mv.iY;have hb7:=hL7.out.mv.bounds.2.2.1;have hless:=Za (jA he0.out (Nat.le_trans hb7 hlen) (by omega:t.i≤(aY C [44] r.2).i) (fun h=>by have:=hn h;omega));replace hm1:=Za hm1;replace hm2:=Za hm2;clear hn hwi hwd hO7 hC7 hW7 h7 hb7;go_wp2_with fail;exact⟨⟨_,_,_,hL7⟩,by rw[hm1.out,hm2.out];exact hless.out⟩
end Go.Proofs.YtpndglghpojjkaaGreat
