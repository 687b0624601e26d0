/-
  9 texts of the proof, in one file: no condition.
-/
import Derived.Shelf.SlIter.Nil
import Derived.Shelf.SortM.Plain
import Derived.Shelf.SortM.SortNone
import Derived.Ground.GgzProg
import Derived.Ground.SlgmProg
import Derived.Test.YtpndglghpojjkaaGreatPea9
set_option maxRecDepth 1000000
set_option maxHeartbeats 8000000
namespace Go.Proofs.YtpndglghpojjkaaGreat
open Go.RowKit Go.Deep
theorem rstmt_two (F:FnV) (w:World) (k:Nat) (hx hy:List UInt8) (he hf:Ex) (hc:Cn) (hg:List Ag) (ha:Nat) (hk:k=1∨k=2∨k=3∨k=4) (pe pf pc Aa At Al:Option Addr) (na ca nt ct nl cl:Nat) (S:Nat→Prop) (hF:F.ok w) (H:HdAt w S ⟨k,hx,hy,he,hf,hc,hg,ha⟩ (.pointer pe) (.pointer pf) (.pointer pc) (.slice Aa na ca)):
  Calls Tryz.prog 93 #[.agg F.cells,.agg (stC ⟨k,hx,hy,he,hf,hc,hg,ha⟩ pe pf pc Aa At Al na ca nt ct nl cl)] w (StOut S F.K ⟨k,hx,hy,he,hf,hc,hg,ha⟩ At Al nt ct nl cl w):=by
 have hkx:=zi (kindL_le (F.ps++F.ls) hx);have hky:=zi (kindL_le (F.ps++F.ls) hy);obtain⟨w3,hw3⟩:∃y,y=((w.alloc (.cells F.cells 26)).alloc (.cells (stC ⟨k,hx,hy,he,hf,hc,hg,ha⟩ pe pf pc Aa At Al na ca nt ct nl cl) 63)).alloc (.cells zeroS 63):=⟨_,rfl⟩;obtain⟨g,hg'⟩:∃y,y=w.heap.size:=⟨_,rfl⟩;obtain⟨gs,hgs⟩:∃y,y=w.heap.size+1:=⟨_,rfl⟩;obtain⟨gr,hgr⟩:∃y,y=w.heap.size+2:=⟨_,rfl⟩
 have hb3:Below w.heap.size w w3:=by rw[hw3];exact(((Below.refl _ _).alloc (Nat.le_refl _) _).alloc (by simp) _).alloc (by simp;omega) _
 have e1:(w.alloc (.cells F.cells 26)).heap.size=w.heap.size+1:=by simp
 have e2:((w.alloc (.cells F.cells 26)).alloc (.cells (stC ⟨k,hx,hy,he,hf,hc,hg,ha⟩ pe pf pc Aa At Al na ca nt ct nl cl) 63)).heap.size=w.heap.size+2:=by simp
 obtain⟨wW,hwW⟩:∃y,y=w3.drew:=⟨_,rfl⟩
 have hB:StB S F ⟨k,hx,hy,he,hf,hc,hg,ha⟩ pe pf pc Aa na ca (stC ⟨k,hx,hy,he,hf,hc,hg,ha⟩ pe pf pc Aa At Al na ca nt ct nl cl) g gs gr w w3:=by
  refine⟨⟨?_,hF.below hb3,hb3⟩,?_,?_,?_,by omega,by omega⟩
  ·rw[hw3,hg'];exact((Holds.new w _ _).alloc _).alloc _
  ·have h1:=(Holds.new (w.alloc (.cells F.cells 26)) 63 (stC ⟨k,hx,hy,he,hf,hc,hg,ha⟩ pe pf pc Aa At Al na ca nt ct nl cl)).alloc (.cells zeroS 63);rw[e1]at h1;rw[hw3,hgs];exact h1
  ·have h1:=Holds.new ((w.alloc (.cells F.cells 26)).alloc (.cells (stC ⟨k,hx,hy,he,hf,hc,hg,ha⟩ pe pf pc Aa At Al na ca nt ct nl cl) 63)) 63 zeroS;rw[e2]at h1;rw[hw3,hgr];exact h1
  ·exact(H.mono (S':=Apt S gs gr w.heap.size) fun x hx hS=>⟨by omega,by omega,.inl hS⟩).below hb3
 have hbd:Below w3.heap.size w3 wW:=by rw[hwW];exact(Below.refl _ w3).drew
 have hBW:=zi (hB.below hbd);have ck:=zi fun z (w:World) (hb:Below wW.heap.size wW w)=>kindF_any F w (hBW.out.rf.ok.below hb) z;have hfc:Hid (∀w':World,Below wW.heap.size wW w'→_):=zi fun w' hb=>(hBW.out.below hb).facts;have hgo:Hid (Below wW.heap.size wW w3.drew):=zi (by rw[←hwW];exact Below.refl _ _);have hfo:=zi hw3.symm;have h1':=zi hg'.symm;have h2':=zi hgs.symm;have h3':=zi (show w.heap.size+1+1=gr by omega);unfold FnV.cells at ck;unfold FnV.cells stC zeroS at hfo;clear hw3 hg' hgs hgr hb3 e1 e2 hwW hB hbd hF H;unfold FnV.cells stC;go_enter Tryz.func93,Tryz.ntmps93;go_upto_region 1 with(fail);rw[hfo.out,h3'.out,h2'.out,h1'.out];clear hfo h1' h2' h3'
 refine wp_region_tabL ((eqv (.agg #[.string (strV F.nm),.slice F.A1 F.ps.length F.c1,.slice F.A2 F.ls.length F.c2,.slice F.A3 F.n3 F.c3]))::(eqv (.pointer (some ⟨gs,1,none⟩)))::(eqv (.string (strV hx)))::(eqv (.int .i64 (F.K hx)))::(eqv (.agg #[.string (strV F.nm),.slice F.A1 F.ps.length F.c1,.slice F.A2 F.ls.length F.c2,.slice F.A3 F.n3 F.c3]))::(eqv (.pointer (some ⟨gs,2,none⟩)))::(eqv (.string (strV hy)))::(eqv (.int .i64 (F.K hy)))::(eqv (.int .i64 (F.K hx)))::(eqv (.int .i64 (F.K hy)))::[])
  ((rn1 2)::(rn1 3)::(rd1 12 1)::⟨[(11,some 0),(13,some 2)],0,[]⟩::(rn1 2)::(rn1 3)::(rd1 16 5)::⟨[(15,some 4),(17,some 6)],0,[]⟩::(rd1 14 3)::(rd1 18 7)::[])
  (no::no::no::no::no::no::so 8::so 9::no::no::no::so 0::so 1::so 2::so 3::so 4::so 5::so 6::so 7::[])
  (fun _ w'=>Below wW.heap.size wW w') (fun _ w w'=>Below w.heap.size w w') ?mixK1st1 ?okK1st1 ?tabK1st1 ?frK1st1 ?inK1st1 ?keptK1st1 ?startK1st1 ?eachK1st1 ?finK1st1
 case mixK1st1|okK1st1|tabK1st1|frK1st1=>kernel_rfl
 case inK1st1=>rfl
 case keptK1st1=>((repeat refine⟨fun _ _ _ _ _ _ _ _ _ _ _ h=>h,?_⟩);exact trivial)
 case startK1st1=>exact hgo.out
 case eachK1st1=>
  repeat' first|exact trivial|refine And.intro ?_ ?_
  iterate 3 (intro w L f hC hLi hLd hLn ⟨a,_⟩;change _=_ at a;refine Step2.live rfl ?_;obtain⟨⟨p0,p1,p2,p3,pl⟩,s0,s1,s2,s3,s4,s5,s6,s7,s8,s9,sl⟩:=hfc.out w hC;obtain⟨ev,ec,ef⟩:=evs f;refine relUpon_value ?_ hC (Below.refl _ _) rfl;go_simp)
  ·intro w L f hC hLi hLd hLn ⟨a,b,_⟩;change _=_ at a b;refine Step2.live rfl ?_;obtain⟨ev,ec,ef⟩:=evs f;refine relUpon_call (f:=142) (args:= #[.agg #[.string (strV F.nm),.slice F.A1 F.ps.length F.c1,.slice F.A2 F.ls.length F.c2,.slice F.A3 F.n3 F.c3],.string (strV hx)]) (w:=w) (by go_simp) (ck.out hx w hC) ?_;rintro e w1 ⟨he,hB⟩;exact⟨_,he,hC.trans (hB.mono hC.size),hB,rfl⟩
  iterate 3 (intro w L f hC hLi hLd hLn ⟨a,_⟩;change _=_ at a;refine Step2.live rfl ?_;obtain⟨⟨p0,p1,p2,p3,pl⟩,s0,s1,s2,s3,s4,s5,s6,s7,s8,s9,sl⟩:=hfc.out w hC;obtain⟨ev,ec,ef⟩:=evs f;refine relUpon_value ?_ hC (Below.refl _ _) rfl;go_simp)
  ·intro w L f hC hLi hLd hLn ⟨a,b,_⟩;change _=_ at a b;refine Step2.live rfl ?_;obtain⟨ev,ec,ef⟩:=evs f;refine relUpon_call (f:=142) (args:= #[.agg #[.string (strV F.nm),.slice F.A1 F.ps.length F.c1,.slice F.A2 F.ls.length F.c2,.slice F.A3 F.n3 F.c3],.string (strV hy)]) (w:=w) (by go_simp) (ck.out hy w hC) ?_;rintro e w1 ⟨he,hB⟩;exact⟨_,he,hC.trans (hB.mono hC.size),hB,rfl⟩
  ·intro w L f hC hLi hLd hLn ⟨d,_⟩;refine Step2.live rfl ?_;exact relUpon_value (v:=f 14) rfl (hC) (Below.refl _ _) d
  ·intro w L f hC hLi hLd hLn ⟨d,_⟩;refine Step2.live rfl ?_;exact relUpon_value (v:=f 18) rfl (hC) (Below.refl _ _) d
 intro x w' hC hV
 have x6:=hV 8 _ rfl rfl;have x7:=hV 9 _ rfl rfl;have hB1:=zi (hBW.out.below hC);clear hV hC hBW ck hfc hgo;simp only[framed];rw[x6,x7];clear x6 x7;have hkx2:Hid (F.K hx=0∨F.K hx=1∨F.K hx=2):=hkx;have hky2:Hid (F.K hy=0∨F.K hy=1∨F.K hy=2):=hky;obtain⟨kx,hex⟩:∃y,y=F.K hx:=⟨_,rfl⟩;obtain⟨ky,hey⟩:∃y,y=F.K hy:=⟨_,rfl⟩;rw[←hex]at hkx2⊢;rw[←hey]at hky2⊢;have hX:=zi hex;have hY:=zi hey;obtain⟨wz,hwz⟩:∃y,y=w':=⟨_,rfl⟩;rw[←hwz]at hB1⊢;clear hex hey hkx hky hwz;obtain⟨⟨p0,p1,p2,p3,pl⟩,⟨s0,s1,s2,s3,s4,s5,s6,s7,s8,s9,sl⟩⟩:=hB1.out.facts;obtain⟨r0,r1,r2,r3,r4,r5,r6,r7,r8,r9,rl,rf⟩:=hB1.out.fr;have f0:=rf.out 0;have f1:=rf.out 1;have f2:=rf.out 2;have f3:=rf.out 3;have f4:=rf.out 4;have f5:=rf.out 5;have f6:=rf.out 6;have f7:=rf.out 7;have f8:=rf.out 8;have f9:=rf.out 9;rcases hk with rfl|rfl|rfl|rfl
 all_goals
  rcases hkx2.out with rfl|rfl|rfl
  all_goals
   rcases hky2.out with rfl|rfl|rfl
   all_goals
    go_wp2_with fail;exact StB.fin hB1.out ⟨_,hx,hy,he,hf,hc,hg,ha⟩ (by simp[stmtR,←hX.out,←hY.out]) (fun hh=>⟨by simp[stmtR],by simp[turned]⟩) rfl rfl rfl rfl Tryz.underlying63 Tryz.sStmt
theorem rstmt_sum (F:FnV) (w:World) (k:Nat) (hx hy:List UInt8) (he hf:Ex) (hc:Cn) (hg:List Ag) (ha:Nat) (hk:k=5∨k=6∨k=7∨k=9) (pe pf pc Aa At Al:Option Addr) (na ca nt ct nl cl:Nat) (S:Nat→Prop) (hF:F.ok w) (H:HdAt w S ⟨k,hx,hy,he,hf,hc,hg,ha⟩ (.pointer pe) (.pointer pf) (.pointer pc) (.slice Aa na ca)):
  Calls Tryz.prog 93 #[.agg F.cells,.agg (stC ⟨k,hx,hy,he,hf,hc,hg,ha⟩ pe pf pc Aa At Al na ca nt ct nl cl)] w (StOut S F.K ⟨k,hx,hy,he,hf,hc,hg,ha⟩ At Al nt ct nl cl w):=by
 have hkx:=zi (kindL_le (F.ps++F.ls) hx);have hky:=zi (kindL_le (F.ps++F.ls) hy);obtain⟨w3,hw3⟩:∃y,y=((w.alloc (.cells F.cells 26)).alloc (.cells (stC ⟨k,hx,hy,he,hf,hc,hg,ha⟩ pe pf pc Aa At Al na ca nt ct nl cl) 63)).alloc (.cells zeroS 63):=⟨_,rfl⟩;obtain⟨g,hg'⟩:∃y,y=w.heap.size:=⟨_,rfl⟩;obtain⟨gs,hgs⟩:∃y,y=w.heap.size+1:=⟨_,rfl⟩;obtain⟨gr,hgr⟩:∃y,y=w.heap.size+2:=⟨_,rfl⟩
 have hb3:Below w.heap.size w w3:=by rw[hw3];exact(((Below.refl _ _).alloc (Nat.le_refl _) _).alloc (by simp) _).alloc (by simp;omega) _
 have e1:(w.alloc (.cells F.cells 26)).heap.size=w.heap.size+1:=by simp
 have e2:((w.alloc (.cells F.cells 26)).alloc (.cells (stC ⟨k,hx,hy,he,hf,hc,hg,ha⟩ pe pf pc Aa At Al na ca nt ct nl cl) 63)).heap.size=w.heap.size+2:=by simp
 obtain⟨wW,hwW⟩:∃y,y=w3.drew:=⟨_,rfl⟩
 have hB:StB S F ⟨k,hx,hy,he,hf,hc,hg,ha⟩ pe pf pc Aa na ca (stC ⟨k,hx,hy,he,hf,hc,hg,ha⟩ pe pf pc Aa At Al na ca nt ct nl cl) g gs gr w w3:=by
  refine⟨⟨?_,hF.below hb3,hb3⟩,?_,?_,?_,by omega,by omega⟩
  ·rw[hw3,hg'];exact((Holds.new w _ _).alloc _).alloc _
  ·have h1:=(Holds.new (w.alloc (.cells F.cells 26)) 63 (stC ⟨k,hx,hy,he,hf,hc,hg,ha⟩ pe pf pc Aa At Al na ca nt ct nl cl)).alloc (.cells zeroS 63);rw[e1]at h1;rw[hw3,hgs];exact h1
  ·have h1:=Holds.new ((w.alloc (.cells F.cells 26)).alloc (.cells (stC ⟨k,hx,hy,he,hf,hc,hg,ha⟩ pe pf pc Aa At Al na ca nt ct nl cl) 63)) 63 zeroS;rw[e2]at h1;rw[hw3,hgr];exact h1
  ·exact(H.mono (S':=Apt S gs gr w.heap.size) fun x hx hS=>⟨by omega,by omega,.inl hS⟩).below hb3
 have hbd:Below w3.heap.size w3 wW:=by rw[hwW];exact(Below.refl _ w3).drew
 have hBW:=zi (hB.below hbd);have ck:=zi fun z (w:World) (hb:Below wW.heap.size wW w)=>kindF_any F w (hBW.out.rf.ok.below hb) z;have hfc:Hid (∀w':World,Below wW.heap.size wW w'→_):=zi fun w' hb=>(hBW.out.below hb).facts;have hgo:Hid (Below wW.heap.size wW w3.drew):=zi (by rw[←hwW];exact Below.refl _ _);have hfo:=zi hw3.symm;have h1':=zi hg'.symm;have h2':=zi hgs.symm;have h3':=zi (show w.heap.size+1+1=gr by omega);unfold FnV.cells at ck;unfold FnV.cells stC zeroS at hfo;clear hw3 hg' hgs hgr hb3 e1 e2 hwW hB hbd hF H;unfold FnV.cells stC;go_enter Tryz.func93,Tryz.ntmps93;go_upto_region 1 with(fail);rw[hfo.out,h3'.out,h2'.out,h1'.out];clear hfo h1' h2' h3'
 refine wp_region_tabL ((eqv (.agg #[.string (strV F.nm),.slice F.A1 F.ps.length F.c1,.slice F.A2 F.ls.length F.c2,.slice F.A3 F.n3 F.c3]))::(eqv (.pointer (some ⟨gs,1,none⟩)))::(eqv (.string (strV hx)))::(eqv (.int .i64 (F.K hx)))::(eqv (.agg #[.string (strV F.nm),.slice F.A1 F.ps.length F.c1,.slice F.A2 F.ls.length F.c2,.slice F.A3 F.n3 F.c3]))::(eqv (.pointer (some ⟨gs,2,none⟩)))::(eqv (.string (strV hy)))::(eqv (.int .i64 (F.K hy)))::(eqv (.int .i64 (F.K hx)))::(eqv (.int .i64 (F.K hy)))::[])
  ((rn1 2)::(rn1 3)::(rd1 12 1)::⟨[(11,some 0),(13,some 2)],0,[]⟩::(rn1 2)::(rn1 3)::(rd1 16 5)::⟨[(15,some 4),(17,some 6)],0,[]⟩::(rd1 14 3)::(rd1 18 7)::[])
  (no::no::no::no::no::no::so 8::so 9::no::no::no::so 0::so 1::so 2::so 3::so 4::so 5::so 6::so 7::[])
  (fun _ w'=>Below wW.heap.size wW w') (fun _ w w'=>Below w.heap.size w w') ?mixK1st1 ?okK1st1 ?tabK1st1 ?frK1st1 ?inK1st1 ?keptK1st1 ?startK1st1 ?eachK1st1 ?finK1st1
 case mixK1st1|okK1st1|tabK1st1|frK1st1=>kernel_rfl
 case inK1st1=>rfl
 case keptK1st1=>((repeat refine⟨fun _ _ _ _ _ _ _ _ _ _ _ h=>h,?_⟩);exact trivial)
 case startK1st1=>exact hgo.out
 case eachK1st1=>
  repeat' first|exact trivial|refine And.intro ?_ ?_
  iterate 3 (intro w L f hC hLi hLd hLn ⟨a,_⟩;change _=_ at a;refine Step2.live rfl ?_;obtain⟨⟨p0,p1,p2,p3,pl⟩,s0,s1,s2,s3,s4,s5,s6,s7,s8,s9,sl⟩:=hfc.out w hC;obtain⟨ev,ec,ef⟩:=evs f;refine relUpon_value ?_ hC (Below.refl _ _) rfl;go_simp)
  ·intro w L f hC hLi hLd hLn ⟨a,b,_⟩;change _=_ at a b;refine Step2.live rfl ?_;obtain⟨ev,ec,ef⟩:=evs f;refine relUpon_call (f:=142) (args:= #[.agg #[.string (strV F.nm),.slice F.A1 F.ps.length F.c1,.slice F.A2 F.ls.length F.c2,.slice F.A3 F.n3 F.c3],.string (strV hx)]) (w:=w) (by go_simp) (ck.out hx w hC) ?_;rintro e w1 ⟨he,hB⟩;exact⟨_,he,hC.trans (hB.mono hC.size),hB,rfl⟩
  iterate 3 (intro w L f hC hLi hLd hLn ⟨a,_⟩;change _=_ at a;refine Step2.live rfl ?_;obtain⟨⟨p0,p1,p2,p3,pl⟩,s0,s1,s2,s3,s4,s5,s6,s7,s8,s9,sl⟩:=hfc.out w hC;obtain⟨ev,ec,ef⟩:=evs f;refine relUpon_value ?_ hC (Below.refl _ _) rfl;go_simp)
  ·intro w L f hC hLi hLd hLn ⟨a,b,_⟩;change _=_ at a b;refine Step2.live rfl ?_;obtain⟨ev,ec,ef⟩:=evs f;refine relUpon_call (f:=142) (args:= #[.agg #[.string (strV F.nm),.slice F.A1 F.ps.length F.c1,.slice F.A2 F.ls.length F.c2,.slice F.A3 F.n3 F.c3],.string (strV hy)]) (w:=w) (by go_simp) (ck.out hy w hC) ?_;rintro e w1 ⟨he,hB⟩;exact⟨_,he,hC.trans (hB.mono hC.size),hB,rfl⟩
  ·intro w L f hC hLi hLd hLn ⟨d,_⟩;refine Step2.live rfl ?_;exact relUpon_value (v:=f 14) rfl (hC) (Below.refl _ _) d
  ·intro w L f hC hLi hLd hLn ⟨d,_⟩;refine Step2.live rfl ?_;exact relUpon_value (v:=f 18) rfl (hC) (Below.refl _ _) d
 intro x w' hC hV
 have x6:=hV 8 _ rfl rfl;have x7:=hV 9 _ rfl rfl;have hB1:=zi (hBW.out.below hC);clear hV hC hBW ck hfc hgo;simp only[framed];rw[x6,x7];clear x6 x7;have hkx2:Hid (F.K hx=0∨F.K hx=1∨F.K hx=2):=hkx;have hky2:Hid (F.K hy=0∨F.K hy=1∨F.K hy=2):=hky;obtain⟨kx,hex⟩:∃y,y=F.K hx:=⟨_,rfl⟩;obtain⟨ky,hey⟩:∃y,y=F.K hy:=⟨_,rfl⟩;rw[←hex]at hkx2⊢;rw[←hey]at hky2⊢;have hX:=zi hex;have hY:=zi hey;obtain⟨wz,hwz⟩:∃y,y=w':=⟨_,rfl⟩;rw[←hwz]at hB1⊢;clear hex hey hkx hky hwz;rcases hk with rfl|rfl|rfl|rfl
 ·rcases hkx2.out with rfl|rfl|rfl
  ·obtain⟨⟨p0,p1,p2,p3,pl⟩,⟨s0,s1,s2,s3,s4,s5,s6,s7,s8,s9,sl⟩⟩:=hB1.out.facts;obtain⟨r0,r1,r2,r3,r4,r5,r6,r7,r8,r9,rl,rf⟩:=hB1.out.fr;have f0:=rf.out 0;have f1:=rf.out 1;have f2:=rf.out 2;have f3:=rf.out 3;have f4:=rf.out 4;have f5:=rf.out 5;have f6:=rf.out 6;have f7:=rf.out 7;have f8:=rf.out 8;have f9:=rf.out 9;go_wp2_with fail;exact StB.fin hB1.out ⟨_,hx,hy,he,hf,hc,hg,ha⟩ (by simp[stmtR,←hX.out]) (fun hh=>⟨by simp[stmtR],by simp[turned]⟩) rfl rfl rfl rfl Tryz.underlying63 Tryz.sStmt
  ·obtain⟨⟨p0,p1,p2,p3,pl⟩,⟨s0,s1,s2,s3,s4,s5,s6,s7,s8,s9,sl⟩⟩:=hB1.out.facts;obtain⟨r0,r1,r2,r3,r4,r5,r6,r7,r8,r9,rl,rf⟩:=hB1.out.fr;have f0:=rf.out 0;have f1:=rf.out 1;have f2:=rf.out 2;have f3:=rf.out 3;have f4:=rf.out 4;have f5:=rf.out 5;have f6:=rf.out 6;have f7:=rf.out 7;have f8:=rf.out 8;have f9:=rf.out 9;go_wp2_with fail;exact StB.fin hB1.out ⟨_,hx,hy,he,hf,hc,hg,ha⟩ (by simp[stmtR,←hX.out]) (fun hh=>⟨by simp[stmtR],by simp[turned]⟩) rfl rfl rfl rfl Tryz.underlying63 Tryz.sStmt
  ·have cw5:=zi (ints_any F he wz _ hB1.out.rf.ok hB1.out.gx.e);unfold FnV.cells at cw5;obtain⟨⟨p0,p1,p2,p3,pl⟩,⟨s0,s1,s2,s3,s4,s5,s6,s7,s8,s9,sl⟩⟩:=hB1.out.facts;go_wp2_with fail;refine cw5.out.mono ?_;clear cw5 p0 p1 p2 p3 pl s0 s1 s2 s3 s4 s5 s6 s7 s8 s9 sl;rintro ew5 w5 ⟨rfl,hbw5⟩;have hB5:=zi (hB1.out.below hbw5);clear hbw5;obtain⟨⟨p0,p1,p2,p3,pl⟩,⟨s0,s1,s2,s3,s4,s5,s6,s7,s8,s9,sl⟩⟩:=hB5.out.facts;obtain⟨r0,r1,r2,r3,r4,r5,r6,r7,r8,r9,rl,rf⟩:=hB5.out.fr;have f0:=rf.out 0;have f1:=rf.out 1;have f2:=rf.out 2;have f3:=rf.out 3;have f4:=rf.out 4;have f5:=rf.out 5;have f6:=rf.out 6;have f7:=rf.out 7;have f8:=rf.out 8;have f9:=rf.out 9;go_wp2_with fail;exact StB.fin hB5.out ⟨_,hx,hy,he,hf,hc,hg,ha⟩ (by simp[stmtR,←hX.out]) (fun hh=>⟨by simp[stmtR],by simp[turned]⟩) rfl rfl rfl rfl Tryz.underlying63 Tryz.sStmt
 ·rcases hkx2.out with rfl|rfl|rfl
  ·rcases hky2.out with rfl|rfl|rfl
   ·have cw5:=zi (ints_any F he wz _ hB1.out.rf.ok hB1.out.gx.e);unfold FnV.cells at cw5;obtain⟨⟨p0,p1,p2,p3,pl⟩,⟨s0,s1,s2,s3,s4,s5,s6,s7,s8,s9,sl⟩⟩:=hB1.out.facts;go_wp2_with fail;refine cw5.out.mono ?_;clear cw5 p0 p1 p2 p3 pl s0 s1 s2 s3 s4 s5 s6 s7 s8 s9 sl;rintro ew5 w5 ⟨rfl,hbw5⟩;have hB5:=zi (hB1.out.below hbw5);clear hbw5;obtain⟨⟨p0,p1,p2,p3,pl⟩,⟨s0,s1,s2,s3,s4,s5,s6,s7,s8,s9,sl⟩⟩:=hB5.out.facts;obtain⟨r0,r1,r2,r3,r4,r5,r6,r7,r8,r9,rl,rf⟩:=hB5.out.fr;have f0:=rf.out 0;have f1:=rf.out 1;have f2:=rf.out 2;have f3:=rf.out 3;have f4:=rf.out 4;have f5:=rf.out 5;have f6:=rf.out 6;have f7:=rf.out 7;have f8:=rf.out 8;have f9:=rf.out 9;go_wp2_with fail;exact StB.fin hB5.out ⟨_,hx,hy,he,hf,hc,hg,ha⟩ (by simp[stmtR,←hX.out,←hY.out]) (fun hh=>⟨by simp[stmtR],by simp[turned]⟩) rfl rfl rfl rfl Tryz.underlying63 Tryz.sStmt
   ·obtain⟨⟨p0,p1,p2,p3,pl⟩,⟨s0,s1,s2,s3,s4,s5,s6,s7,s8,s9,sl⟩⟩:=hB1.out.facts;obtain⟨r0,r1,r2,r3,r4,r5,r6,r7,r8,r9,rl,rf⟩:=hB1.out.fr;have f0:=rf.out 0;have f1:=rf.out 1;have f2:=rf.out 2;have f3:=rf.out 3;have f4:=rf.out 4;have f5:=rf.out 5;have f6:=rf.out 6;have f7:=rf.out 7;have f8:=rf.out 8;have f9:=rf.out 9;go_wp2_with fail;exact StB.fin hB1.out ⟨_,hx,hy,he,hf,hc,hg,ha⟩ (by simp[stmtR,←hY.out]) (fun hh=>⟨by simp[stmtR],by simp[turned]⟩) rfl rfl rfl rfl Tryz.underlying63 Tryz.sStmt
   ·obtain⟨⟨p0,p1,p2,p3,pl⟩,⟨s0,s1,s2,s3,s4,s5,s6,s7,s8,s9,sl⟩⟩:=hB1.out.facts;obtain⟨r0,r1,r2,r3,r4,r5,r6,r7,r8,r9,rl,rf⟩:=hB1.out.fr;have f0:=rf.out 0;have f1:=rf.out 1;have f2:=rf.out 2;have f3:=rf.out 3;have f4:=rf.out 4;have f5:=rf.out 5;have f6:=rf.out 6;have f7:=rf.out 7;have f8:=rf.out 8;have f9:=rf.out 9;go_wp2_with fail;exact StB.fin hB1.out ⟨_,hx,hy,he,hf,hc,hg,ha⟩ (by simp[stmtR,←hY.out]) (fun hh=>⟨by simp[stmtR],by simp[turned]⟩) rfl rfl rfl rfl Tryz.underlying63 Tryz.sStmt
  ·rcases hky2.out with rfl|rfl|rfl
   ·have cw5:=zi (ints_any F he wz _ hB1.out.rf.ok hB1.out.gx.e);unfold FnV.cells at cw5;obtain⟨⟨p0,p1,p2,p3,pl⟩,⟨s0,s1,s2,s3,s4,s5,s6,s7,s8,s9,sl⟩⟩:=hB1.out.facts;go_wp2_with fail;refine cw5.out.mono ?_;clear cw5 p0 p1 p2 p3 pl s0 s1 s2 s3 s4 s5 s6 s7 s8 s9 sl;rintro ew5 w5 ⟨rfl,hbw5⟩;have hB5:=zi (hB1.out.below hbw5);clear hbw5;obtain⟨⟨p0,p1,p2,p3,pl⟩,⟨s0,s1,s2,s3,s4,s5,s6,s7,s8,s9,sl⟩⟩:=hB5.out.facts;obtain⟨r0,r1,r2,r3,r4,r5,r6,r7,r8,r9,rl,rf⟩:=hB5.out.fr;have f0:=rf.out 0;have f1:=rf.out 1;have f2:=rf.out 2;have f3:=rf.out 3;have f4:=rf.out 4;have f5:=rf.out 5;have f6:=rf.out 6;have f7:=rf.out 7;have f8:=rf.out 8;have f9:=rf.out 9;go_wp2_with fail;exact StB.fin hB5.out ⟨_,hx,hy,he,hf,hc,hg,ha⟩ (by simp[stmtR,←hX.out,←hY.out]) (fun hh=>⟨by simp[stmtR],by simp[turned]⟩) rfl rfl rfl rfl Tryz.underlying63 Tryz.sStmt
   ·obtain⟨⟨p0,p1,p2,p3,pl⟩,⟨s0,s1,s2,s3,s4,s5,s6,s7,s8,s9,sl⟩⟩:=hB1.out.facts;obtain⟨r0,r1,r2,r3,r4,r5,r6,r7,r8,r9,rl,rf⟩:=hB1.out.fr;have f0:=rf.out 0;have f1:=rf.out 1;have f2:=rf.out 2;have f3:=rf.out 3;have f4:=rf.out 4;have f5:=rf.out 5;have f6:=rf.out 6;have f7:=rf.out 7;have f8:=rf.out 8;have f9:=rf.out 9;go_wp2_with fail;exact StB.fin hB1.out ⟨_,hx,hy,he,hf,hc,hg,ha⟩ (by simp[stmtR,←hY.out]) (fun hh=>⟨by simp[stmtR],by simp[turned]⟩) rfl rfl rfl rfl Tryz.underlying63 Tryz.sStmt
   ·obtain⟨⟨p0,p1,p2,p3,pl⟩,⟨s0,s1,s2,s3,s4,s5,s6,s7,s8,s9,sl⟩⟩:=hB1.out.facts;obtain⟨r0,r1,r2,r3,r4,r5,r6,r7,r8,r9,rl,rf⟩:=hB1.out.fr;have f0:=rf.out 0;have f1:=rf.out 1;have f2:=rf.out 2;have f3:=rf.out 3;have f4:=rf.out 4;have f5:=rf.out 5;have f6:=rf.out 6;have f7:=rf.out 7;have f8:=rf.out 8;have f9:=rf.out 9;go_wp2_with fail;exact StB.fin hB1.out ⟨_,hx,hy,he,hf,hc,hg,ha⟩ (by simp[stmtR,←hY.out]) (fun hh=>⟨by simp[stmtR],by simp[turned]⟩) rfl rfl rfl rfl Tryz.underlying63 Tryz.sStmt
  ·obtain⟨⟨p0,p1,p2,p3,pl⟩,⟨s0,s1,s2,s3,s4,s5,s6,s7,s8,s9,sl⟩⟩:=hB1.out.facts;obtain⟨r0,r1,r2,r3,r4,r5,r6,r7,r8,r9,rl,rf⟩:=hB1.out.fr;have f0:=rf.out 0;have f1:=rf.out 1;have f2:=rf.out 2;have f3:=rf.out 3;have f4:=rf.out 4;have f5:=rf.out 5;have f6:=rf.out 6;have f7:=rf.out 7;have f8:=rf.out 8;have f9:=rf.out 9;go_wp2_with fail;exact StB.fin hB1.out ⟨_,hx,hy,he,hf,hc,hg,ha⟩ (by simp[stmtR,←hX.out]) (fun hh=>⟨by simp[stmtR],by simp[turned]⟩) rfl rfl rfl rfl Tryz.underlying63 Tryz.sStmt
 ·rcases hky2.out with rfl|rfl|rfl
  ·have cw5:=zi (ints_any F he wz _ hB1.out.rf.ok hB1.out.gx.e);unfold FnV.cells at cw5;obtain⟨⟨p0,p1,p2,p3,pl⟩,⟨s0,s1,s2,s3,s4,s5,s6,s7,s8,s9,sl⟩⟩:=hB1.out.facts;go_wp2_with fail;refine cw5.out.mono ?_;clear cw5 p0 p1 p2 p3 pl s0 s1 s2 s3 s4 s5 s6 s7 s8 s9 sl;rintro ew5 w5 ⟨rfl,hbw5⟩;have hB5:=zi (hB1.out.below hbw5);clear hbw5
   cases hA:intsF F.K he with
   |false=>
    replace hA:=zi hA;obtain⟨⟨p0,p1,p2,p3,pl⟩,⟨s0,s1,s2,s3,s4,s5,s6,s7,s8,s9,sl⟩⟩:=hB5.out.facts;obtain⟨r0,r1,r2,r3,r4,r5,r6,r7,r8,r9,rl,rf⟩:=hB5.out.fr;have f0:=rf.out 0;have f1:=rf.out 1;have f2:=rf.out 2;have f3:=rf.out 3;have f4:=rf.out 4;have f5:=rf.out 5;have f6:=rf.out 6;have f7:=rf.out 7;have f8:=rf.out 8;have f9:=rf.out 9;go_wp2_with fail;exact StB.fin hB5.out ⟨_,hx,hy,he,hf,hc,hg,ha⟩ (by simp[stmtR,←hY.out,hA.out]) (fun hh=>⟨by simp[stmtR],by simp[turned]⟩) rfl rfl rfl rfl Tryz.underlying63 Tryz.sStmt
   |true=>
    replace hA:=zi hA;have cw6:=zi (ints_any F hf w5 _ hB5.out.rf.ok hB5.out.gx.f);unfold FnV.cells at cw6;obtain⟨⟨p0,p1,p2,p3,pl⟩,⟨s0,s1,s2,s3,s4,s5,s6,s7,s8,s9,sl⟩⟩:=hB5.out.facts;go_wp2_with fail;refine cw6.out.mono ?_;clear cw6 p0 p1 p2 p3 pl s0 s1 s2 s3 s4 s5 s6 s7 s8 s9 sl;rintro ew6 w6 ⟨rfl,hbw6⟩;have hB6:=zi (hB5.out.below hbw6);clear hbw6;obtain⟨⟨p0,p1,p2,p3,pl⟩,⟨s0,s1,s2,s3,s4,s5,s6,s7,s8,s9,sl⟩⟩:=hB6.out.facts;obtain⟨r0,r1,r2,r3,r4,r5,r6,r7,r8,r9,rl,rf⟩:=hB6.out.fr;have f0:=rf.out 0;have f1:=rf.out 1;have f2:=rf.out 2;have f3:=rf.out 3;have f4:=rf.out 4;have f5:=rf.out 5;have f6:=rf.out 6;have f7:=rf.out 7;have f8:=rf.out 8;have f9:=rf.out 9;go_wp2_with fail;exact StB.fin hB6.out ⟨_,hx,hy,he,hf,hc,hg,ha⟩ (by simp[stmtR,←hY.out,hA.out]) (fun hh=>⟨by simp[stmtR],by simp[turned]⟩) rfl rfl rfl rfl Tryz.underlying63 Tryz.sStmt
  ·obtain⟨⟨p0,p1,p2,p3,pl⟩,⟨s0,s1,s2,s3,s4,s5,s6,s7,s8,s9,sl⟩⟩:=hB1.out.facts;obtain⟨r0,r1,r2,r3,r4,r5,r6,r7,r8,r9,rl,rf⟩:=hB1.out.fr;have f0:=rf.out 0;have f1:=rf.out 1;have f2:=rf.out 2;have f3:=rf.out 3;have f4:=rf.out 4;have f5:=rf.out 5;have f6:=rf.out 6;have f7:=rf.out 7;have f8:=rf.out 8;have f9:=rf.out 9;go_wp2_with fail;exact StB.fin hB1.out ⟨_,hx,hy,he,hf,hc,hg,ha⟩ (by simp[stmtR,←hY.out]) (fun hh=>⟨by simp[stmtR],by simp[turned]⟩) rfl rfl rfl rfl Tryz.underlying63 Tryz.sStmt
  ·obtain⟨⟨p0,p1,p2,p3,pl⟩,⟨s0,s1,s2,s3,s4,s5,s6,s7,s8,s9,sl⟩⟩:=hB1.out.facts;obtain⟨r0,r1,r2,r3,r4,r5,r6,r7,r8,r9,rl,rf⟩:=hB1.out.fr;have f0:=rf.out 0;have f1:=rf.out 1;have f2:=rf.out 2;have f3:=rf.out 3;have f4:=rf.out 4;have f5:=rf.out 5;have f6:=rf.out 6;have f7:=rf.out 7;have f8:=rf.out 8;have f9:=rf.out 9;go_wp2_with fail;exact StB.fin hB1.out ⟨_,hx,hy,he,hf,hc,hg,ha⟩ (by simp[stmtR,←hY.out]) (fun hh=>⟨by simp[stmtR],by simp[turned]⟩) rfl rfl rfl rfl Tryz.underlying63 Tryz.sStmt
 ·have cw5:=zi (ints_any F he wz _ hB1.out.rf.ok hB1.out.gx.e);unfold FnV.cells at cw5;obtain⟨⟨p0,p1,p2,p3,pl⟩,⟨s0,s1,s2,s3,s4,s5,s6,s7,s8,s9,sl⟩⟩:=hB1.out.facts;go_wp2_with fail;refine cw5.out.mono ?_;clear cw5 p0 p1 p2 p3 pl s0 s1 s2 s3 s4 s5 s6 s7 s8 s9 sl;rintro ew5 w5 ⟨rfl,hbw5⟩;have hB5:=zi (hB1.out.below hbw5);clear hbw5;obtain⟨⟨p0,p1,p2,p3,pl⟩,⟨s0,s1,s2,s3,s4,s5,s6,s7,s8,s9,sl⟩⟩:=hB5.out.facts;obtain⟨r0,r1,r2,r3,r4,r5,r6,r7,r8,r9,rl,rf⟩:=hB5.out.fr;have f0:=rf.out 0;have f1:=rf.out 1;have f2:=rf.out 2;have f3:=rf.out 3;have f4:=rf.out 4;have f5:=rf.out 5;have f6:=rf.out 6;have f7:=rf.out 7;have f8:=rf.out 8;have f9:=rf.out 9;go_wp2_with fail;exact StB.fin hB5.out ⟨_,hx,hy,he,hf,hc,hg,ha⟩ (by simp[stmtR]) (fun hh=>⟨by simp[stmtR],by simp[turned]⟩) rfl rfl rfl rfl Tryz.underlying63 Tryz.sStmt
theorem rstmt_cond (F:FnV) (w:World) (k:Nat) (hx hy:List UInt8) (he hf:Ex) (hc:Cn) (hg:List Ag) (ha:Nat) (hk:k=10∨k=11∨k=12) (pe pf pc Aa At Al:Option Addr) (na ca nt ct nl cl:Nat) (S:Nat→Prop) (hF:F.ok w) (H:HdAt w S ⟨k,hx,hy,he,hf,hc,hg,ha⟩ (.pointer pe) (.pointer pf) (.pointer pc) (.slice Aa na ca)):
  Calls Tryz.prog 93 #[.agg F.cells,.agg (stC ⟨k,hx,hy,he,hf,hc,hg,ha⟩ pe pf pc Aa At Al na ca nt ct nl cl)] w (StOut S F.K ⟨k,hx,hy,he,hf,hc,hg,ha⟩ At Al nt ct nl cl w):=by
 have hkx:=zi (kindL_le (F.ps++F.ls) hx);have hky:=zi (kindL_le (F.ps++F.ls) hy);obtain⟨w3,hw3⟩:∃y,y=((w.alloc (.cells F.cells 26)).alloc (.cells (stC ⟨k,hx,hy,he,hf,hc,hg,ha⟩ pe pf pc Aa At Al na ca nt ct nl cl) 63)).alloc (.cells zeroS 63):=⟨_,rfl⟩;obtain⟨g,hg'⟩:∃y,y=w.heap.size:=⟨_,rfl⟩;obtain⟨gs,hgs⟩:∃y,y=w.heap.size+1:=⟨_,rfl⟩;obtain⟨gr,hgr⟩:∃y,y=w.heap.size+2:=⟨_,rfl⟩
 have hb3:Below w.heap.size w w3:=by rw[hw3];exact(((Below.refl _ _).alloc (Nat.le_refl _) _).alloc (by simp) _).alloc (by simp;omega) _
 have e1:(w.alloc (.cells F.cells 26)).heap.size=w.heap.size+1:=by simp
 have e2:((w.alloc (.cells F.cells 26)).alloc (.cells (stC ⟨k,hx,hy,he,hf,hc,hg,ha⟩ pe pf pc Aa At Al na ca nt ct nl cl) 63)).heap.size=w.heap.size+2:=by simp
 obtain⟨wW,hwW⟩:∃y,y=w3.drew:=⟨_,rfl⟩
 have hB:StB S F ⟨k,hx,hy,he,hf,hc,hg,ha⟩ pe pf pc Aa na ca (stC ⟨k,hx,hy,he,hf,hc,hg,ha⟩ pe pf pc Aa At Al na ca nt ct nl cl) g gs gr w w3:=by
  refine⟨⟨?_,hF.below hb3,hb3⟩,?_,?_,?_,by omega,by omega⟩
  ·rw[hw3,hg'];exact((Holds.new w _ _).alloc _).alloc _
  ·have h1:=(Holds.new (w.alloc (.cells F.cells 26)) 63 (stC ⟨k,hx,hy,he,hf,hc,hg,ha⟩ pe pf pc Aa At Al na ca nt ct nl cl)).alloc (.cells zeroS 63);rw[e1]at h1;rw[hw3,hgs];exact h1
  ·have h1:=Holds.new ((w.alloc (.cells F.cells 26)).alloc (.cells (stC ⟨k,hx,hy,he,hf,hc,hg,ha⟩ pe pf pc Aa At Al na ca nt ct nl cl) 63)) 63 zeroS;rw[e2]at h1;rw[hw3,hgr];exact h1
  ·exact(H.mono (S':=Apt S gs gr w.heap.size) fun x hx hS=>⟨by omega,by omega,.inl hS⟩).below hb3
 have hbd:Below w3.heap.size w3 wW:=by rw[hwW];exact(Below.refl _ w3).drew
 have hBW:=zi (hB.below hbd);have ck:=zi fun z (w:World) (hb:Below wW.heap.size wW w)=>kindF_any F w (hBW.out.rf.ok.below hb) z;have hfc:Hid (∀w':World,Below wW.heap.size wW w'→_):=zi fun w' hb=>(hBW.out.below hb).facts;have hgo:Hid (Below wW.heap.size wW w3.drew):=zi (by rw[←hwW];exact Below.refl _ _);have hfo:=zi hw3.symm;have h1':=zi hg'.symm;have h2':=zi hgs.symm;have h3':=zi (show w.heap.size+1+1=gr by omega);unfold FnV.cells at ck;unfold FnV.cells stC zeroS at hfo;clear hw3 hg' hgs hgr hb3 e1 e2 hwW hB hbd hF H;unfold FnV.cells stC;go_enter Tryz.func93,Tryz.ntmps93;go_upto_region 1 with(fail);rw[hfo.out,h3'.out,h2'.out,h1'.out];clear hfo h1' h2' h3'
 refine wp_region_tabL ((eqv (.agg #[.string (strV F.nm),.slice F.A1 F.ps.length F.c1,.slice F.A2 F.ls.length F.c2,.slice F.A3 F.n3 F.c3]))::(eqv (.pointer (some ⟨gs,1,none⟩)))::(eqv (.string (strV hx)))::(eqv (.int .i64 (F.K hx)))::(eqv (.agg #[.string (strV F.nm),.slice F.A1 F.ps.length F.c1,.slice F.A2 F.ls.length F.c2,.slice F.A3 F.n3 F.c3]))::(eqv (.pointer (some ⟨gs,2,none⟩)))::(eqv (.string (strV hy)))::(eqv (.int .i64 (F.K hy)))::(eqv (.int .i64 (F.K hx)))::(eqv (.int .i64 (F.K hy)))::[])
  ((rn1 2)::(rn1 3)::(rd1 12 1)::⟨[(11,some 0),(13,some 2)],0,[]⟩::(rn1 2)::(rn1 3)::(rd1 16 5)::⟨[(15,some 4),(17,some 6)],0,[]⟩::(rd1 14 3)::(rd1 18 7)::[])
  (no::no::no::no::no::no::so 8::so 9::no::no::no::so 0::so 1::so 2::so 3::so 4::so 5::so 6::so 7::[])
  (fun _ w'=>Below wW.heap.size wW w') (fun _ w w'=>Below w.heap.size w w') ?mixK1st1 ?okK1st1 ?tabK1st1 ?frK1st1 ?inK1st1 ?keptK1st1 ?startK1st1 ?eachK1st1 ?finK1st1
 case mixK1st1|okK1st1|tabK1st1|frK1st1=>kernel_rfl
 case inK1st1=>rfl
 case keptK1st1=>((repeat refine⟨fun _ _ _ _ _ _ _ _ _ _ _ h=>h,?_⟩);exact trivial)
 case startK1st1=>exact hgo.out
 case eachK1st1=>
  repeat' first|exact trivial|refine And.intro ?_ ?_
  iterate 3 (intro w L f hC hLi hLd hLn ⟨a,_⟩;change _=_ at a;refine Step2.live rfl ?_;obtain⟨⟨p0,p1,p2,p3,pl⟩,s0,s1,s2,s3,s4,s5,s6,s7,s8,s9,sl⟩:=hfc.out w hC;obtain⟨ev,ec,ef⟩:=evs f;refine relUpon_value ?_ hC (Below.refl _ _) rfl;go_simp)
  ·intro w L f hC hLi hLd hLn ⟨a,b,_⟩;change _=_ at a b;refine Step2.live rfl ?_;obtain⟨ev,ec,ef⟩:=evs f;refine relUpon_call (f:=142) (args:= #[.agg #[.string (strV F.nm),.slice F.A1 F.ps.length F.c1,.slice F.A2 F.ls.length F.c2,.slice F.A3 F.n3 F.c3],.string (strV hx)]) (w:=w) (by go_simp) (ck.out hx w hC) ?_;rintro e w1 ⟨he,hB⟩;exact⟨_,he,hC.trans (hB.mono hC.size),hB,rfl⟩
  iterate 3 (intro w L f hC hLi hLd hLn ⟨a,_⟩;change _=_ at a;refine Step2.live rfl ?_;obtain⟨⟨p0,p1,p2,p3,pl⟩,s0,s1,s2,s3,s4,s5,s6,s7,s8,s9,sl⟩:=hfc.out w hC;obtain⟨ev,ec,ef⟩:=evs f;refine relUpon_value ?_ hC (Below.refl _ _) rfl;go_simp)
  ·intro w L f hC hLi hLd hLn ⟨a,b,_⟩;change _=_ at a b;refine Step2.live rfl ?_;obtain⟨ev,ec,ef⟩:=evs f;refine relUpon_call (f:=142) (args:= #[.agg #[.string (strV F.nm),.slice F.A1 F.ps.length F.c1,.slice F.A2 F.ls.length F.c2,.slice F.A3 F.n3 F.c3],.string (strV hy)]) (w:=w) (by go_simp) (ck.out hy w hC) ?_;rintro e w1 ⟨he,hB⟩;exact⟨_,he,hC.trans (hB.mono hC.size),hB,rfl⟩
  ·intro w L f hC hLi hLd hLn ⟨d,_⟩;refine Step2.live rfl ?_;exact relUpon_value (v:=f 14) rfl (hC) (Below.refl _ _) d
  ·intro w L f hC hLi hLd hLn ⟨d,_⟩;refine Step2.live rfl ?_;exact relUpon_value (v:=f 18) rfl (hC) (Below.refl _ _) d
 intro x w' hC hV
 have x6:=hV 8 _ rfl rfl;have x7:=hV 9 _ rfl rfl;have hB1:=zi (hBW.out.below hC);clear hV hC hBW ck hfc hgo;simp only[framed];rw[x6,x7];clear x6 x7;have hkx2:Hid (F.K hx=0∨F.K hx=1∨F.K hx=2):=hkx;have hky2:Hid (F.K hy=0∨F.K hy=1∨F.K hy=2):=hky;obtain⟨kx,hex⟩:∃y,y=F.K hx:=⟨_,rfl⟩;obtain⟨ky,hey⟩:∃y,y=F.K hy:=⟨_,rfl⟩;rw[←hex]at hkx2⊢;rw[←hey]at hky2⊢;have hX:=zi hex;have hY:=zi hey;obtain⟨wz,hwz⟩:∃y,y=w':=⟨_,rfl⟩;rw[←hwz]at hB1⊢;clear hex hey hkx hky hwz;rcases hk with rfl|rfl|rfl
 ·have cw5:=zi (conds_any F hc wz _ hB1.out.rf.ok hB1.out.gx.c);unfold FnV.cells at cw5;obtain⟨⟨p0,p1,p2,p3,pl⟩,⟨s0,s1,s2,s3,s4,s5,s6,s7,s8,s9,sl⟩⟩:=hB1.out.facts;go_wp2_with fail;refine cw5.out.mono ?_;clear cw5 p0 p1 p2 p3 pl s0 s1 s2 s3 s4 s5 s6 s7 s8 s9 sl;rintro ew5 w5 ⟨rfl,hbw5⟩;have hB5:=zi (hB1.out.below hbw5);clear hbw5;obtain⟨⟨p0,p1,p2,p3,pl⟩,⟨s0,s1,s2,s3,s4,s5,s6,s7,s8,s9,sl⟩⟩:=hB5.out.facts;obtain⟨r0,r1,r2,r3,r4,r5,r6,r7,r8,r9,rl,rf⟩:=hB5.out.fr;have f0:=rf.out 0;have f1:=rf.out 1;have f2:=rf.out 2;have f3:=rf.out 3;have f4:=rf.out 4;have f5:=rf.out 5;have f6:=rf.out 6;have f7:=rf.out 7;have f8:=rf.out 8;have f9:=rf.out 9;go_wp2_with fail;exact StB.fin hB5.out ⟨_,hx,hy,he,hf,hc,hg,ha⟩ (by simp[stmtR]) (fun hh=>⟨by simp[stmtR],by simp[turned]⟩) rfl rfl rfl rfl Tryz.underlying63 Tryz.sStmt
 ·have cw5:=zi (conds_any F hc wz _ hB1.out.rf.ok hB1.out.gx.c);unfold FnV.cells at cw5;obtain⟨⟨p0,p1,p2,p3,pl⟩,⟨s0,s1,s2,s3,s4,s5,s6,s7,s8,s9,sl⟩⟩:=hB1.out.facts;go_wp2_with fail;refine cw5.out.mono ?_;clear cw5 p0 p1 p2 p3 pl s0 s1 s2 s3 s4 s5 s6 s7 s8 s9 sl;rintro ew5 w5 ⟨rfl,hbw5⟩;have hB5:=zi (hB1.out.below hbw5);clear hbw5;obtain⟨⟨p0,p1,p2,p3,pl⟩,⟨s0,s1,s2,s3,s4,s5,s6,s7,s8,s9,sl⟩⟩:=hB5.out.facts;obtain⟨r0,r1,r2,r3,r4,r5,r6,r7,r8,r9,rl,rf⟩:=hB5.out.fr;have f0:=rf.out 0;have f1:=rf.out 1;have f2:=rf.out 2;have f3:=rf.out 3;have f4:=rf.out 4;have f5:=rf.out 5;have f6:=rf.out 6;have f7:=rf.out 7;have f8:=rf.out 8;have f9:=rf.out 9;go_wp2_with fail;exact StB.fin hB5.out ⟨_,hx,hy,he,hf,hc,hg,ha⟩ (by simp[stmtR]) (fun hh=>⟨by simp[stmtR],by simp[turned]⟩) rfl rfl rfl rfl Tryz.underlying63 Tryz.sStmt
 ·have cw5:=zi (conds_any F hc wz _ hB1.out.rf.ok hB1.out.gx.c);unfold FnV.cells at cw5;obtain⟨⟨p0,p1,p2,p3,pl⟩,⟨s0,s1,s2,s3,s4,s5,s6,s7,s8,s9,sl⟩⟩:=hB1.out.facts;go_wp2_with fail;refine cw5.out.mono ?_;clear cw5 p0 p1 p2 p3 pl s0 s1 s2 s3 s4 s5 s6 s7 s8 s9 sl;rintro ew5 w5 ⟨rfl,hbw5⟩;have hB5:=zi (hB1.out.below hbw5);clear hbw5;obtain⟨⟨p0,p1,p2,p3,pl⟩,⟨s0,s1,s2,s3,s4,s5,s6,s7,s8,s9,sl⟩⟩:=hB5.out.facts;obtain⟨r0,r1,r2,r3,r4,r5,r6,r7,r8,r9,rl,rf⟩:=hB5.out.fr;have f0:=rf.out 0;have f1:=rf.out 1;have f2:=rf.out 2;have f3:=rf.out 3;have f4:=rf.out 4;have f5:=rf.out 5;have f6:=rf.out 6;have f7:=rf.out 7;have f8:=rf.out 8;have f9:=rf.out 9;go_wp2_with fail;exact StB.fin hB5.out ⟨_,hx,hy,he,hf,hc,hg,ha⟩ (by simp[stmtR]) (fun hh=>⟨by simp[stmtR],by simp[turned]⟩) rfl rfl rfl rfl Tryz.underlying63 Tryz.sStmt
theorem rstmt_zero (F:FnV) (w:World) (k:Nat) (hx hy:List UInt8) (he hf:Ex) (hc:Cn) (hg:List Ag) (ha:Nat) (hk:k=0) (pe pf pc Aa At Al:Option Addr) (na ca nt ct nl cl:Nat) (S:Nat→Prop) (hF:F.ok w) (H:HdAt w S ⟨k,hx,hy,he,hf,hc,hg,ha⟩ (.pointer pe) (.pointer pf) (.pointer pc) (.slice Aa na ca)):
  Calls Tryz.prog 93 #[.agg F.cells,.agg (stC ⟨k,hx,hy,he,hf,hc,hg,ha⟩ pe pf pc Aa At Al na ca nt ct nl cl)] w (StOut S F.K ⟨k,hx,hy,he,hf,hc,hg,ha⟩ At Al nt ct nl cl w):=by
 replace hk:=zi hk;have hkx:=zi (kindL_le (F.ps++F.ls) hx);have hky:=zi (kindL_le (F.ps++F.ls) hy);obtain⟨w3,hw3⟩:∃y,y=((w.alloc (.cells F.cells 26)).alloc (.cells (stC ⟨k,hx,hy,he,hf,hc,hg,ha⟩ pe pf pc Aa At Al na ca nt ct nl cl) 63)).alloc (.cells zeroS 63):=⟨_,rfl⟩;obtain⟨g,hg'⟩:∃y,y=w.heap.size:=⟨_,rfl⟩;obtain⟨gs,hgs⟩:∃y,y=w.heap.size+1:=⟨_,rfl⟩;obtain⟨gr,hgr⟩:∃y,y=w.heap.size+2:=⟨_,rfl⟩
 have hb3:Below w.heap.size w w3:=by rw[hw3];exact(((Below.refl _ _).alloc (Nat.le_refl _) _).alloc (by simp) _).alloc (by simp;omega) _
 have e1:(w.alloc (.cells F.cells 26)).heap.size=w.heap.size+1:=by simp
 have e2:((w.alloc (.cells F.cells 26)).alloc (.cells (stC ⟨k,hx,hy,he,hf,hc,hg,ha⟩ pe pf pc Aa At Al na ca nt ct nl cl) 63)).heap.size=w.heap.size+2:=by simp
 obtain⟨wW,hwW⟩:∃y,y=w3.drew:=⟨_,rfl⟩
 have hB:StB S F ⟨k,hx,hy,he,hf,hc,hg,ha⟩ pe pf pc Aa na ca (stC ⟨k,hx,hy,he,hf,hc,hg,ha⟩ pe pf pc Aa At Al na ca nt ct nl cl) g gs gr w w3:=by
  refine⟨⟨?_,hF.below hb3,hb3⟩,?_,?_,?_,by omega,by omega⟩
  ·rw[hw3,hg'];exact((Holds.new w _ _).alloc _).alloc _
  ·have h1:=(Holds.new (w.alloc (.cells F.cells 26)) 63 (stC ⟨k,hx,hy,he,hf,hc,hg,ha⟩ pe pf pc Aa At Al na ca nt ct nl cl)).alloc (.cells zeroS 63);rw[e1]at h1;rw[hw3,hgs];exact h1
  ·have h1:=Holds.new ((w.alloc (.cells F.cells 26)).alloc (.cells (stC ⟨k,hx,hy,he,hf,hc,hg,ha⟩ pe pf pc Aa At Al na ca nt ct nl cl) 63)) 63 zeroS;rw[e2]at h1;rw[hw3,hgr];exact h1
  ·exact(H.mono (S':=Apt S gs gr w.heap.size) fun x hx hS=>⟨by omega,by omega,.inl hS⟩).below hb3
 have hbd:Below w3.heap.size w3 wW:=by rw[hwW];exact(Below.refl _ w3).drew
 have hBW:=zi (hB.below hbd);have ck:=zi fun z (w:World) (hb:Below wW.heap.size wW w)=>kindF_any F w (hBW.out.rf.ok.below hb) z;have hfc:Hid (∀w':World,Below wW.heap.size wW w'→_):=zi fun w' hb=>(hBW.out.below hb).facts;have hgo:Hid (Below wW.heap.size wW w3.drew):=zi (by rw[←hwW];exact Below.refl _ _);have hfo:=zi hw3.symm;have h1':=zi hg'.symm;have h2':=zi hgs.symm;have h3':=zi (show w.heap.size+1+1=gr by omega);unfold FnV.cells at ck;unfold FnV.cells stC zeroS at hfo;clear hw3 hg' hgs hgr hb3 e1 e2 hwW hB hbd hF H;unfold FnV.cells stC;go_enter Tryz.func93,Tryz.ntmps93;go_upto_region 1 with(fail);rw[hfo.out,h3'.out,h2'.out,h1'.out];clear hfo h1' h2' h3'
 refine wp_region_tabL ((eqv (.agg #[.string (strV F.nm),.slice F.A1 F.ps.length F.c1,.slice F.A2 F.ls.length F.c2,.slice F.A3 F.n3 F.c3]))::(eqv (.pointer (some ⟨gs,1,none⟩)))::(eqv (.string (strV hx)))::(eqv (.int .i64 (F.K hx)))::(eqv (.agg #[.string (strV F.nm),.slice F.A1 F.ps.length F.c1,.slice F.A2 F.ls.length F.c2,.slice F.A3 F.n3 F.c3]))::(eqv (.pointer (some ⟨gs,2,none⟩)))::(eqv (.string (strV hy)))::(eqv (.int .i64 (F.K hy)))::(eqv (.int .i64 (F.K hx)))::(eqv (.int .i64 (F.K hy)))::[])
  ((rn1 2)::(rn1 3)::(rd1 12 1)::⟨[(11,some 0),(13,some 2)],0,[]⟩::(rn1 2)::(rn1 3)::(rd1 16 5)::⟨[(15,some 4),(17,some 6)],0,[]⟩::(rd1 14 3)::(rd1 18 7)::[])
  (no::no::no::no::no::no::so 8::so 9::no::no::no::so 0::so 1::so 2::so 3::so 4::so 5::so 6::so 7::[])
  (fun _ w'=>Below wW.heap.size wW w') (fun _ w w'=>Below w.heap.size w w') ?mixK1st1 ?okK1st1 ?tabK1st1 ?frK1st1 ?inK1st1 ?keptK1st1 ?startK1st1 ?eachK1st1 ?finK1st1
 case mixK1st1|okK1st1|tabK1st1|frK1st1=>kernel_rfl
 case inK1st1=>rfl
 case keptK1st1=>((repeat refine⟨fun _ _ _ _ _ _ _ _ _ _ _ h=>h,?_⟩);exact trivial)
 case startK1st1=>exact hgo.out
 case eachK1st1=>
  repeat' first|exact trivial|refine And.intro ?_ ?_
  iterate 3 (intro w L f hC hLi hLd hLn ⟨a,_⟩;change _=_ at a;refine Step2.live rfl ?_;obtain⟨⟨p0,p1,p2,p3,pl⟩,s0,s1,s2,s3,s4,s5,s6,s7,s8,s9,sl⟩:=hfc.out w hC;obtain⟨ev,ec,ef⟩:=evs f;refine relUpon_value ?_ hC (Below.refl _ _) rfl;go_simp)
  ·intro w L f hC hLi hLd hLn ⟨a,b,_⟩;change _=_ at a b;refine Step2.live rfl ?_;obtain⟨ev,ec,ef⟩:=evs f;refine relUpon_call (f:=142) (args:= #[.agg #[.string (strV F.nm),.slice F.A1 F.ps.length F.c1,.slice F.A2 F.ls.length F.c2,.slice F.A3 F.n3 F.c3],.string (strV hx)]) (w:=w) (by go_simp) (ck.out hx w hC) ?_;rintro e w1 ⟨he,hB⟩;exact⟨_,he,hC.trans (hB.mono hC.size),hB,rfl⟩
  iterate 3 (intro w L f hC hLi hLd hLn ⟨a,_⟩;change _=_ at a;refine Step2.live rfl ?_;obtain⟨⟨p0,p1,p2,p3,pl⟩,s0,s1,s2,s3,s4,s5,s6,s7,s8,s9,sl⟩:=hfc.out w hC;obtain⟨ev,ec,ef⟩:=evs f;refine relUpon_value ?_ hC (Below.refl _ _) rfl;go_simp)
  ·intro w L f hC hLi hLd hLn ⟨a,b,_⟩;change _=_ at a b;refine Step2.live rfl ?_;obtain⟨ev,ec,ef⟩:=evs f;refine relUpon_call (f:=142) (args:= #[.agg #[.string (strV F.nm),.slice F.A1 F.ps.length F.c1,.slice F.A2 F.ls.length F.c2,.slice F.A3 F.n3 F.c3],.string (strV hy)]) (w:=w) (by go_simp) (ck.out hy w hC) ?_;rintro e w1 ⟨he,hB⟩;exact⟨_,he,hC.trans (hB.mono hC.size),hB,rfl⟩
  ·intro w L f hC hLi hLd hLn ⟨d,_⟩;refine Step2.live rfl ?_;exact relUpon_value (v:=f 14) rfl (hC) (Below.refl _ _) d
  ·intro w L f hC hLi hLd hLn ⟨d,_⟩;refine Step2.live rfl ?_;exact relUpon_value (v:=f 18) rfl (hC) (Below.refl _ _) d
 intro x w' hC hV
 have x6:=hV 8 _ rfl rfl;have x7:=hV 9 _ rfl rfl;have hB1:=zi (hBW.out.below hC);clear hV hC hBW ck hfc hgo;simp only[framed];rw[x6,x7];clear x6 x7;have hkx2:Hid (F.K hx=0∨F.K hx=1∨F.K hx=2):=hkx;have hky2:Hid (F.K hy=0∨F.K hy=1∨F.K hy=2):=hky;obtain⟨kx,hex⟩:∃y,y=F.K hx:=⟨_,rfl⟩;obtain⟨ky,hey⟩:∃y,y=F.K hy:=⟨_,rfl⟩;rw[←hex]at hkx2⊢;rw[←hey]at hky2⊢;have hX:=zi hex;have hY:=zi hey;obtain⟨wz,hwz⟩:∃y,y=w':=⟨_,rfl⟩;rw[←hwz]at hB1⊢;clear hex hey hkx hky hwz;have hk0:=hk.out;clear hk;subst hk0;rcases hkx2.out with rfl|rfl|rfl
 ·have cw5:=zi (ints_any F he wz _ hB1.out.rf.ok hB1.out.gx.e);unfold FnV.cells at cw5;obtain⟨⟨p0,p1,p2,p3,pl⟩,⟨s0,s1,s2,s3,s4,s5,s6,s7,s8,s9,sl⟩⟩:=hB1.out.facts;go_wp2_with fail;refine cw5.out.mono ?_;clear cw5 p0 p1 p2 p3 pl s0 s1 s2 s3 s4 s5 s6 s7 s8 s9 sl;rintro ew5 w5 ⟨rfl,hbw5⟩;have hB5:=zi (hB1.out.below hbw5);clear hbw5;obtain⟨⟨p0,p1,p2,p3,pl⟩,⟨s0,s1,s2,s3,s4,s5,s6,s7,s8,s9,sl⟩⟩:=hB5.out.facts;obtain⟨r0,r1,r2,r3,r4,r5,r6,r7,r8,r9,rl,rf⟩:=hB5.out.fr;have f0:=rf.out 0;have f1:=rf.out 1;have f2:=rf.out 2;have f3:=rf.out 3;have f4:=rf.out 4;have f5:=rf.out 5;have f6:=rf.out 6;have f7:=rf.out 7;have f8:=rf.out 8;have f9:=rf.out 9;go_wp2_with fail;exact StB.fin hB5.out ⟨0,hx,hy,he,hf,hc,hg,ha⟩ (by simp[stmtR,←hX.out]) (fun hh=>⟨by simp[stmtR,←hX.out],by simp[turned,←hX.out]⟩) rfl rfl rfl rfl Tryz.underlying63 Tryz.sStmt
 ·have cw5:=zi (ints_any F he wz _ hB1.out.rf.ok hB1.out.gx.e);unfold FnV.cells at cw5;obtain⟨⟨p0,p1,p2,p3,pl⟩,⟨s0,s1,s2,s3,s4,s5,s6,s7,s8,s9,sl⟩⟩:=hB1.out.facts;go_wp2_with fail;refine cw5.out.mono ?_;clear cw5 p0 p1 p2 p3 pl s0 s1 s2 s3 s4 s5 s6 s7 s8 s9 sl;rintro ew5 w5 ⟨rfl,hbw5⟩;have hB5:=zi (hB1.out.below hbw5);clear hbw5;obtain⟨⟨p0,p1,p2,p3,pl⟩,⟨s0,s1,s2,s3,s4,s5,s6,s7,s8,s9,sl⟩⟩:=hB5.out.facts;obtain⟨r0,r1,r2,r3,r4,r5,r6,r7,r8,r9,rl,rf⟩:=hB5.out.fr;have f0:=rf.out 0;have f1:=rf.out 1;have f2:=rf.out 2;have f3:=rf.out 3;have f4:=rf.out 4;have f5:=rf.out 5;have f6:=rf.out 6;have f7:=rf.out 7;have f8:=rf.out 8;have f9:=rf.out 9;go_wp2_with fail;exact StB.fin hB5.out ⟨0,hx,hy,he,hf,hc,hg,ha⟩ (by simp[stmtR,←hX.out]) (fun hh=>⟨by simp[stmtR,←hX.out],by simp[turned,←hX.out]⟩) rfl rfl rfl rfl Tryz.underlying63 Tryz.sStmt
 ·have cw5:=zi (pointer10_any F he wz _ hB1.out.rf.ok hB1.out.gx.e);unfold FnV.cells at cw5;obtain⟨⟨p0,p1,p2,p3,pl⟩,⟨s0,s1,s2,s3,s4,s5,s6,s7,s8,s9,sl⟩⟩:=hB1.out.facts;go_wp2_with fail;refine cw5.out.mono ?_;clear cw5 p0 p1 p2 p3 pl s0 s1 s2 s3 s4 s5 s6 s7 s8 s9 sl;rintro ew5 w5 ⟨rfl,hbw5⟩;have hB5:=zi (hB1.out.below hbw5);clear hbw5
  cases hP:ptrF F.K he with
  |false=>
   replace hP:=zi hP;obtain⟨⟨p0,p1,p2,p3,pl⟩,⟨s0,s1,s2,s3,s4,s5,s6,s7,s8,s9,sl⟩⟩:=hB5.out.facts;obtain⟨r0,r1,r2,r3,r4,r5,r6,r7,r8,r9,rl,rf⟩:=hB5.out.fr;have f0:=rf.out 0;have f1:=rf.out 1;have f2:=rf.out 2;have f3:=rf.out 3;have f4:=rf.out 4;have f5:=rf.out 5;have f6:=rf.out 6;have f7:=rf.out 7;have f8:=rf.out 8;have f9:=rf.out 9;go_wp2_with fail;exact StB.fin hB5.out ⟨0,hx,hy,he,hf,hc,hg,ha⟩ (by simp[stmtR,←hX.out,hP.out]) (fun hh=>by cases hh) rfl rfl rfl rfl Tryz.underlying63 Tryz.sStmt
  |true=>
   cases he with
   |nil=>cases hP
   |mk ek en nm ea eb=>
    obtain⟨hk1,hK1⟩:ek=1∧F.K nm=2:=by unfold ptrF at hP;simpa using hP
    subst hk1;obtain⟨gx,va,vb,e1,hS,hnm,-,hH,-,-⟩:=hB5.out.hd.e;injection e1 with e1;subst e1;have hK2:=zi hK1;have y2:w5.cell? ⟨gx,2,none⟩=some (.string (strV nm)):=hH.cell 2;have yl:=hH.lt;have hne1:¬gx=gr:=hS.2.1;have hne2:¬gr=gx:=fun e=>hS.2.1 e.symm
    have hg1:¬gs=gr:=by have:=hB5.out.gl;omega
    have hg2:¬gr=gs:=by have:=hB5.out.gl;omega
    have hnm':=zi hnm;clear hP hH hS hK1 hnm;obtain⟨⟨p0,p1,p2,p3,pl⟩,⟨s0,s1,s2,s3,s4,s5,s6,s7,s8,s9,sl⟩⟩:=hB5.out.facts;obtain⟨r0,r1,r2,r3,r4,r5,r6,r7,r8,r9,rl,rf⟩:=hB5.out.fr;have f0:=rf.out 0;have f1:=rf.out 1;have f2:=rf.out 2;have f3:=rf.out 3;have f4:=rf.out 4;have f5:=rf.out 5;have f6:=rf.out 6;have f7:=rf.out 7;have f8:=rf.out 8;have f9:=rf.out 9;go_wp2_with fail
    go_region
    all_goals
     go_wp2_with fail;have hW:=put10_writes w5 gr (.int .i64 2) (.string (strV hx)) (.string (strV nm)) (.pointer none) (.pointer none) (.pointer none) (.slice none 0 0) (.slice none 0 0) (.slice none 0 0) (.int .i64 ha);refine ret_cell2 rfl rfl rfl ((put10_holds hB5.out.hr (.int .i64 2) (.string (strV hx)) (.string (strV nm)) (.pointer none) (.pointer none) (.pointer none) (.slice none 0 0) (.slice none 0 0) (.slice none 0 0) (.int .i64 ha)).drewN 1) Tryz.underlying63 Tryz.sStmt ?_
     have hs:stmtR F.K ⟨0,hx,hy,.mk 1 en nm ea eb,hf,hc,hg,ha⟩=(⟨2,hx,nm,.nil,.nil,.nil,[],ha⟩,true):=by simp[stmtR,ptrF,←hX.out,hK2.out,Ex.name]
     refine⟨⟨2,hx,nm,.nil,.nil,.nil,[],ha⟩,none,none,none,none,0,0,none,0,0,none,0,0,by rw[hs];rfl,(hB5.out.rf.bl.trans (hW.below hB5.out.rf.bl.size fun j hj=>by have h1:=hB5.out.g0;have h2:=hB5.out.gl;simp at hj;omega)).trans (Below.refl _ _).drew,fun _=>⟨by rw[hs],⟨rfl,rfl,rfl,⟨none,0,[],rfl,by simp,by simp,RowS.nil_ _ _ _,rfl⟩,hB5.out.hd.x,hnm'.out,(by decide:(2:Nat)≤12),hB5.out.hd.at_⟩,fun _=>⟨rfl,rfl,rfl,rfl,rfl,rfl⟩,fun ht=> ?_⟩⟩;simp[turned,ptrF,←hX.out,hK2.out]at ht
theorem argF_argL (K:List UInt8→Nat) (a:Ag):(argF K a).1=argL K a:=by
 unfold argF argL
 cases hp:a.ptr with
 |true=>simp
 |false=>cases hq:ptrF K a.e with
  |true=>simp
  |false=>simp
theorem rstmt8 {K:List UInt8→Nat} {hx hy:List UInt8} {he hf:Ex} {hc:Cn} {hg:List Ag} {ha:Nat}:stmtR K ⟨8,hx,hy,he,hf,hc,hg,ha⟩=(⟨8,hx,hy,he,hf,hc,hg.map (argL K),ha⟩,((hx== []||K hx !=2)&&K hy==0)&&hg.all fun a=>(argF K a).2):=by
 have e:(argsR K hg).1=hg.map (argL K):=by unfold argsR;exact List.map_congr_left fun a _=>argF_argL K a
 have e2:(argsR K hg).2=hg.all fun a=>(argF K a).2:=rfl;simp[stmtR,e,e2]
theorem all_snoc (K:List UInt8→Nat) (l:List Ag) {j:Nat} (hj:j<l.length):((l.take (j+1)).all fun a=>(argF K a).2)=(((l.take j).all fun a=>(argF K a).2)&&(argF K l[j]).2):=by
 rw[List.take_add_one,List.getElem?_eq_getElem hj,Option.toList_some,List.all_append,List.all_cons,List.all_nil,Bool.and_true]
theorem argK_step {w:World} {S:Nat→Prop} {g n j:Nat} {K:List UInt8→Nat} {l:List Ag} {cs:Array Value} {a:Ag} (ha:l.getD j ⟨false,[],.nil⟩=a) (hh:argL K a=a) (H:ARow w S g n (argK K l j) cs):ARow w S g n (argK K l (j+1)) cs:=H.congr fun i hi=>by
 unfold argK;by_cases h1:i<j
 ·rw[if_pos h1,if_pos (by omega)]
 ·by_cases h2:i=j
  ·rw[if_neg h1,if_pos (by omega),h2,ha,hh]
  ·rw[if_neg h1,if_neg (by omega)]
theorem StB.putA {S:Nat→Prop} {F:FnV} {h:Hd} {pe pf pc Aa At Al:Option Addr} {na ca nt ct nl cl g gs gr:Nat} {w0 w:World} (H:StB S F h pe pf pc Aa na ca (stC h pe pf pc Aa At Al na ca nt ct nl cl) g gs gr w0 w) (hF:F.ok w0) (l:List Ag) {A':Option Addr} {c':Nat} (hA:AgsAt w (Apt S gs gr w0.heap.size) l (.slice A' l.length c')):
  StB S F {h with args:=l} pe pf pc A' l.length c' (stC {h with args:=l} pe pf pc A' At Al l.length c' nt ct nl cl) g gs gr w0 (w.setCell ⟨gs,6,none⟩ (.slice A' l.length c')):=by
 have hW:Writes [some gs] w (w.setCell ⟨gs,6,none⟩ (.slice A' l.length c')):=Writes.store w (by simp) _;have hb:=H.rf.bl.trans (hW.below H.rf.bl.size fun j hj=>by have:=H.g0;simp at hj;omega)
 have hne:g≠gs:=fun e=>by have h1:=H.rf.hg;rw[e]at h1;have h2:=h1.symm.trans H.hs;simp at h2
 have hgl:=H.gl;refine⟨⟨hW.holds H.rf.hg (by simp;exact hne),hF.below hb,hb⟩,?_,hW.holds H.hr (by simp;omega),?_,H.g0,H.gl⟩
 ·have:=H.hs.store 6 (.slice A' l.length c');simpa[stC]using this
 ·have hk:∀x,x<w.heap.size→Apt S gs gr w0.heap.size x→(w.setCell ⟨gs,6,none⟩ (.slice A' l.length c')).heap[x]? =w.heap[x]? :=fun x hx hS=>hW.block x hx (by simp;exact hS.1);exact⟨H.hd.e.keep hk,H.hd.f.keep hk,H.hd.c.keep hk,hA.keep hk,H.hd.x,H.hd.y,H.hd.k,H.hd.at_⟩
theorem rstmt_call (F:FnV) (w:World) (k:Nat) (hx hy:List UInt8) (he hf:Ex) (hc:Cn) (hg:List Ag) (ha:Nat) (hk:k=8) (pe pf pc Aa At Al:Option Addr) (na ca nt ct nl cl:Nat) (S:Nat→Prop) (hF:F.ok w) (H:HdAt w S ⟨k,hx,hy,he,hf,hc,hg,ha⟩ (.pointer pe) (.pointer pf) (.pointer pc) (.slice Aa na ca)):
  Calls Tryz.prog 93 #[.agg F.cells,.agg (stC ⟨k,hx,hy,he,hf,hc,hg,ha⟩ pe pf pc Aa At Al na ca nt ct nl cl)] w (StOut S F.K ⟨k,hx,hy,he,hf,hc,hg,ha⟩ At Al nt ct nl cl w):=by
 replace hk:=zi hk;have hF0:=zi hF;obtain⟨iA,hiA,hzA0,hzA1,hzA2⟩:=info_parts Tryz.clArg;have hkx:=zi (kindL_le (F.ps++F.ls) hx);have hky:=zi (kindL_le (F.ps++F.ls) hy);obtain⟨w3,hw3⟩:∃y,y=((w.alloc (.cells F.cells 26)).alloc (.cells (stC ⟨k,hx,hy,he,hf,hc,hg,ha⟩ pe pf pc Aa At Al na ca nt ct nl cl) 63)).alloc (.cells zeroS 63):=⟨_,rfl⟩;obtain⟨g,hg'⟩:∃y,y=w.heap.size:=⟨_,rfl⟩;obtain⟨gs,hgs⟩:∃y,y=w.heap.size+1:=⟨_,rfl⟩;obtain⟨gr,hgr⟩:∃y,y=w.heap.size+2:=⟨_,rfl⟩
 have hb3:Below w.heap.size w w3:=by rw[hw3];exact(((Below.refl _ _).alloc (Nat.le_refl _) _).alloc (by simp) _).alloc (by simp;omega) _
 have e1:(w.alloc (.cells F.cells 26)).heap.size=w.heap.size+1:=by simp
 have e2:((w.alloc (.cells F.cells 26)).alloc (.cells (stC ⟨k,hx,hy,he,hf,hc,hg,ha⟩ pe pf pc Aa At Al na ca nt ct nl cl) 63)).heap.size=w.heap.size+2:=by simp
 obtain⟨wW,hwW⟩:∃y,y=w3.drew:=⟨_,rfl⟩
 have hB:StB S F ⟨k,hx,hy,he,hf,hc,hg,ha⟩ pe pf pc Aa na ca (stC ⟨k,hx,hy,he,hf,hc,hg,ha⟩ pe pf pc Aa At Al na ca nt ct nl cl) g gs gr w w3:=by
  refine⟨⟨?_,hF.below hb3,hb3⟩,?_,?_,?_,by omega,by omega⟩
  ·rw[hw3,hg'];exact((Holds.new w _ _).alloc _).alloc _
  ·have h1:=(Holds.new (w.alloc (.cells F.cells 26)) 63 (stC ⟨k,hx,hy,he,hf,hc,hg,ha⟩ pe pf pc Aa At Al na ca nt ct nl cl)).alloc (.cells zeroS 63);rw[e1]at h1;rw[hw3,hgs];exact h1
  ·have h1:=Holds.new ((w.alloc (.cells F.cells 26)).alloc (.cells (stC ⟨k,hx,hy,he,hf,hc,hg,ha⟩ pe pf pc Aa At Al na ca nt ct nl cl) 63)) 63 zeroS;rw[e2]at h1;rw[hw3,hgr];exact h1
  ·exact(H.mono (S':=Apt S gs gr w.heap.size) fun x hx hS=>⟨by omega,by omega,.inl hS⟩).below hb3
 have hbd:Below w3.heap.size w3 wW:=by rw[hwW];exact(Below.refl _ w3).drew
 have hBW:=zi (hB.below hbd);have ck:=zi fun z (w:World) (hb:Below wW.heap.size wW w)=>kindF_any F w (hBW.out.rf.ok.below hb) z;have hfc:Hid (∀w':World,Below wW.heap.size wW w'→_):=zi fun w' hb=>(hBW.out.below hb).facts;have hgo:Hid (Below wW.heap.size wW w3.drew):=zi (by rw[←hwW];exact Below.refl _ _);have hfo:=zi hw3.symm;have h1':=zi hg'.symm;have h2':=zi hgs.symm;have h3':=zi (show w.heap.size+1+1=gr by omega);unfold FnV.cells at ck;unfold FnV.cells stC zeroS at hfo;clear hw3 hg' hgs hgr hb3 e1 e2 hwW hB hbd hF H;unfold FnV.cells stC;go_enter Tryz.func93,Tryz.ntmps93;go_upto_region 1 with(fail);rw[hfo.out,h3'.out,h2'.out,h1'.out];clear hfo h1' h2' h3'
 refine wp_region_tabL ((eqv (.agg #[.string (strV F.nm),.slice F.A1 F.ps.length F.c1,.slice F.A2 F.ls.length F.c2,.slice F.A3 F.n3 F.c3]))::(eqv (.pointer (some ⟨gs,1,none⟩)))::(eqv (.string (strV hx)))::(eqv (.int .i64 (F.K hx)))::(eqv (.agg #[.string (strV F.nm),.slice F.A1 F.ps.length F.c1,.slice F.A2 F.ls.length F.c2,.slice F.A3 F.n3 F.c3]))::(eqv (.pointer (some ⟨gs,2,none⟩)))::(eqv (.string (strV hy)))::(eqv (.int .i64 (F.K hy)))::(eqv (.int .i64 (F.K hx)))::(eqv (.int .i64 (F.K hy)))::[])
  ((rn1 2)::(rn1 3)::(rd1 12 1)::⟨[(11,some 0),(13,some 2)],0,[]⟩::(rn1 2)::(rn1 3)::(rd1 16 5)::⟨[(15,some 4),(17,some 6)],0,[]⟩::(rd1 14 3)::(rd1 18 7)::[])
  (no::no::no::no::no::no::so 8::so 9::no::no::no::so 0::so 1::so 2::so 3::so 4::so 5::so 6::so 7::[])
  (fun _ w'=>Below wW.heap.size wW w') (fun _ w w'=>Below w.heap.size w w') ?mixK1st1 ?okK1st1 ?tabK1st1 ?frK1st1 ?inK1st1 ?keptK1st1 ?startK1st1 ?eachK1st1 ?finK1st1
 case mixK1st1|okK1st1|tabK1st1|frK1st1=>kernel_rfl
 case inK1st1=>rfl
 case keptK1st1=>((repeat refine⟨fun _ _ _ _ _ _ _ _ _ _ _ h=>h,?_⟩);exact trivial)
 case startK1st1=>exact hgo.out
 case eachK1st1=>
  repeat' first|exact trivial|refine And.intro ?_ ?_
  iterate 3 (intro w L f hC hLi hLd hLn ⟨a,_⟩;change _=_ at a;refine Step2.live rfl ?_;obtain⟨⟨p0,p1,p2,p3,pl⟩,s0,s1,s2,s3,s4,s5,s6,s7,s8,s9,sl⟩:=hfc.out w hC;obtain⟨ev,ec,ef⟩:=evs f;refine relUpon_value ?_ hC (Below.refl _ _) rfl;go_simp)
  ·intro w L f hC hLi hLd hLn ⟨a,b,_⟩;change _=_ at a b;refine Step2.live rfl ?_;obtain⟨ev,ec,ef⟩:=evs f;refine relUpon_call (f:=142) (args:= #[.agg #[.string (strV F.nm),.slice F.A1 F.ps.length F.c1,.slice F.A2 F.ls.length F.c2,.slice F.A3 F.n3 F.c3],.string (strV hx)]) (w:=w) (by go_simp) (ck.out hx w hC) ?_;rintro e w1 ⟨he,hB⟩;exact⟨_,he,hC.trans (hB.mono hC.size),hB,rfl⟩
  iterate 3 (intro w L f hC hLi hLd hLn ⟨a,_⟩;change _=_ at a;refine Step2.live rfl ?_;obtain⟨⟨p0,p1,p2,p3,pl⟩,s0,s1,s2,s3,s4,s5,s6,s7,s8,s9,sl⟩:=hfc.out w hC;obtain⟨ev,ec,ef⟩:=evs f;refine relUpon_value ?_ hC (Below.refl _ _) rfl;go_simp)
  ·intro w L f hC hLi hLd hLn ⟨a,b,_⟩;change _=_ at a b;refine Step2.live rfl ?_;obtain⟨ev,ec,ef⟩:=evs f;refine relUpon_call (f:=142) (args:= #[.agg #[.string (strV F.nm),.slice F.A1 F.ps.length F.c1,.slice F.A2 F.ls.length F.c2,.slice F.A3 F.n3 F.c3],.string (strV hy)]) (w:=w) (by go_simp) (ck.out hy w hC) ?_;rintro e w1 ⟨he,hB⟩;exact⟨_,he,hC.trans (hB.mono hC.size),hB,rfl⟩
  ·intro w L f hC hLi hLd hLn ⟨d,_⟩;refine Step2.live rfl ?_;exact relUpon_value (v:=f 14) rfl (hC) (Below.refl _ _) d
  ·intro w L f hC hLi hLd hLn ⟨d,_⟩;refine Step2.live rfl ?_;exact relUpon_value (v:=f 18) rfl (hC) (Below.refl _ _) d
 intro x w' hC hV
 have x6:=hV 8 _ rfl rfl;have x7:=hV 9 _ rfl rfl;have hB1:=zi (hBW.out.below hC);clear hV hC hBW ck hfc hgo;simp only[framed];rw[x6,x7];clear x6 x7;have hkx2:Hid (F.K hx=0∨F.K hx=1∨F.K hx=2):=hkx;have hky2:Hid (F.K hy=0∨F.K hy=1∨F.K hy=2):=hky;obtain⟨kx,hex⟩:∃y,y=F.K hx:=⟨_,rfl⟩;obtain⟨ky,hey⟩:∃y,y=F.K hy:=⟨_,rfl⟩;rw[←hex]at hkx2⊢;rw[←hey]at hky2⊢;have hX:=zi hex;have hY:=zi hey;obtain⟨wz,hwz⟩:∃y,y=w':=⟨_,rfl⟩;rw[←hwz]at hB1⊢;clear hex hey hkx hky hwz;have hk0:=hk.out;clear hk;subst hk0;obtain⟨b0,hb0⟩:∃b:Bool,b=((hx== []||kx !=2)&&ky==0):=⟨_,rfl⟩;have hb0':=zi hb0;clear hb0;obtain⟨⟨p0,p1,p2,p3,pl⟩,⟨s0,s1,s2,s3,s4,s5,s6,s7,s8,s9,sl⟩⟩:=hB1.out.facts;go_upto_region 26 with(fail);go_cut [8] (fun u8 wx=>Hid (u8= .bool b0∧StB S F ⟨8,hx,hy,he,hf,hc,hg,ha⟩ pe pf pc Aa na ca (stC ⟨8,hx,hy,he,hf,hc,hg,ha⟩ pe pf pc Aa At Al na ca nt ct nl cl) g gs gr w wx))
 case first=>
  by_cases hxe:hx= []
  ·have hxs:(strV hx).toList= []:=by rw[strV_toList];exact hxe
   have hxb:(strV hx).toList.isEmpty=true:=by rw[strV_toList,hxe];rfl
   replace hxe:=zi hxe;rcases hkx2.out with rfl|rfl|rfl
   all_goals
    rcases hky2.out with rfl|rfl|rfl
    all_goals
     go_wp2_with fail
     go_meet
     case rel=>exact zi ⟨by rw[hb0'.out,hxe.out];rfl,hB1.out⟩
  ·have hxs:¬(strV hx).toList= []:=by rw[strV_toList];exact hxe
   have hxb:(strV hx).toList.isEmpty=false:=by rw[strV_toList];simpa using hxe
   have hxq:=zi (show(hx== [])=false by simpa using hxe);clear hxe;rcases hkx2.out with rfl|rfl|rfl
   all_goals
    rcases hky2.out with rfl|rfl|rfl
    all_goals
     go_wp2_with fail
     go_meet
     case rel=>exact zi ⟨by rw[hb0'.out,hxq.out];rfl,hB1.out⟩
 case rest=>
 obtain⟨hu8,hB2⟩:=hcut.out;clear hcut hB1 p0 p1 p2 p3 pl s0 s1 s2 s3 s4 s5 s6 s7 s8 s9 sl;rename World=>wc;replace hB2:=zi hB2;subst hu8
 obtain⟨vs,hvl,hone,hrow,hcs,hna,hna5⟩:∃vs,vs.length=na*3∧(∀u∈vs,u.oneCell'=true)∧RowS wc Evr Aa vs∧AgCells wc (Apt S gs gr w.heap.size) hg vs∧na=hg.length∧na≤100000:=by obtain⟨A,c,vs,e,l1,l2,h1,h2⟩:=hB2.out.hd.a;injection e with e1 e2 e3;subst e1;exact⟨vs,by rw[e2];exact h2.length,h2.one,h1.mono fun _ _ _=>trivial,h2,e2,by rw[e2];exact l1⟩
 have hvl':=zi hvl;have hone':=zi hone;have hrow':=zi hrow;have hcs':=zi hcs;have hna':=zi hna;clear hvl hone hrow hcs hna;obtain⟨⟨p0,p1,p2,p3,pl⟩,⟨s0,s1,s2,s3,s4,s5,s6,s7,s8,s9,sl⟩⟩:=hB2.out.facts;go_wp2_with
  (at_builtin
   refine wpList_append_rowS rfl (.const (.slice none 0 0)) (.tmp 131) 61 rfl wc.heap.size 168 iA _ 3 32 Tryz.underlying61 hiA hzA0 hzA1 hzA2 rfl (by omega) (.slice none 0 0) 0 [] rfl (World.ownsRow_nil _ _ _ _) Aa na ca vs rfl hvl'.out hrow'.out hone'.out (by unfold maxLen;omega) (by omega) (Nat.le_refl _) ?_;intro v1 w1 ho1 hg1 _;have hbo:Hid (Below wc.heap.size wc w1):=zi ⟨hg1.os,hg1.tape,hg1.output,hg1.size,fun k hk=>hg1.block k hk (by simp[Value.ownBlock])⟩;have ho:=zi ho1
   clear ho1 hg1)
 have hoo:=ho.out;rw[Nat.zero_add,List.nil_append]at hoo;clear ho p0 p1 p2 p3 pl s0 s1 s2 s3 s4 s5 s6 s7 s8 s9 sl;by_cases hne:hg= []
 ·subst hne
  obtain rfl:na=0:=by rw[hna'.out];rfl
  obtain⟨A',c',rfl⟩:∃A' c',v1= .slice A' 0 c':=by obtain⟨A',c',e,-,-⟩:=RowS.own (S:=fun _=>True) hoo (fun _ _=>trivial);exact⟨A',c',e⟩
  clear hoo hcs' hrow' hvl' hone';go_loopw [8,10] (fun u8 i wl=>u8= .bool b0∧i= .int .i64 0∧Hid (Below wc.heap.size wc wl)) (fun _ _ _=>0)
  case atStart=>exact⟨rfl,rfl,hbo⟩
  obtain⟨hu8,rfl,hbl⟩:=hrel;subst hu8;rename World=>wl;have hBl:=zi (hB2.out.below hbl.out);have hB9:=zi (hBl.out.putA hF0.out [] (A':=A') (c':=c') ⟨A',c',[],rfl,by simp,by simp,RowS.nil_ _ _ _,rfl⟩);obtain⟨w9,hw9⟩:∃y,y=wl.setCell ⟨gs,6,none⟩ (.slice A' 0 c'):=⟨_,rfl⟩;have hf9:=zi hw9.symm;replace hB9:=hB9.out;rw[show([]:List Ag).length=0 from rfl,←hw9]at hB9;replace hB9:=zi hB9;have f6:=hBl.out.hs.frozen 6;clear hw9;obtain⟨⟨p0,p1,p2,p3,pl⟩,⟨s0,s1,s2,s3,s4,s5,s6,s7,s8,s9,sl⟩⟩:=hBl.out.facts;go_upto_region 39 with(fail);rw[hf9.out];clear f6 p0 p1 p2 p3 pl s0 s1 s2 s3 s4 s5 s6 s7 s8 s9 sl;obtain⟨⟨p0,p1,p2,p3,pl⟩,⟨s0,s1,s2,s3,s4,s5,s6,s7,s8,s9,sl⟩⟩:=hB9.out.facts;obtain⟨r0,r1,r2,r3,r4,r5,r6,r7,r8,r9,rl,rf⟩:=hB9.out.fr;have f0:=rf.out 0;have f1:=rf.out 1;have f2:=rf.out 2;have f3:=rf.out 3;have f4:=rf.out 4;have f5:=rf.out 5;have f6:=rf.out 6;have f7:=rf.out 7;have f8:=rf.out 8;have f9:=rf.out 9;go_wp2_with fail
  exact StB.fin hB9.out ⟨8,hx,hy,he,hf,hc,[],ha⟩ (ok:=b0) (by rw[rstmt8,hb0'.out,←hX.out,←hY.out];simp) (fun hh=>⟨by rw[rstmt8];rfl,by simp[turned]⟩) rfl rfl rfl rfl Tryz.underlying63 Tryz.sStmt
 ·have hof:=ARow.of (l:=hg) (w:=w1) (own_len hoo hna'.out) hne hcs'.out hbo.out;obtain⟨ga,cap,cs0,hv1,hcap,hgb,hAR⟩:=hof;rw[←hna'.out]at hv1 hcap hAR;subst hv1;have hgb':=zi hgb;have hAR':Hid (ARow w1 (fun x=>x<wc.heap.size∧Apt S gs gr w.heap.size x) ga na (argK F.K hg 0) cs0):=zi (hAR.congr fun j hj=>by unfold argK;rw[if_neg (by omega)]);have hcap':=zi hcap;clear hoo hcs' hrow' hvl' hone' hgb hAR hcap hne;have hst:Hid (b0=(b0&&((hg.take 0).all fun a=>(argF F.K a).2))):=zi (by simp);go_loopw [8,10] (fun u8 i wl=>∃(j:Nat) (bj:Bool) (cs:Array Value),j≤na∧i= .int .i64 j∧u8= .bool bj∧Hid (bj=(b0&&((hg.take j).all fun a=>(argF F.K a).2)))∧Hid (ARow wl (fun x=>x<wc.heap.size∧Apt S gs gr w.heap.size x) ga na (argK F.K hg j) cs)∧Hid (Below wc.heap.size wc wl)) (fun _ i _=>na-(intOf i).toNat)
  case atStart=>exact⟨0,b0,cs0,by omega,rfl,rfl,hst,hAR',hbo⟩
  clear hAR' hbo hst;obtain⟨j,bj,cs,hj,rfl,hu8,hbj,hAR,hbl⟩:=hrel;subst hu8;rename World=>wl;have hBl:=zi (hB2.out.below hbl.out);by_cases hlt:j<na
  ·have hjl:j<hg.length:=by rw[←hna'.out];exact hlt
   obtain⟨ve,y0,y1,y2,hxe,hnm⟩:=hAR.out.2 j hlt
   have hjj:argK F.K hg j j=hg[j]:=by unfold argK;rw[if_neg (by omega)];simp[List.getD_eq_getElem?_getD,List.getElem?_eq_getElem hjl]
   rw[hjj]at y0 y1 hxe hnm;obtain⟨px,rfl⟩:=hxe.vp;have hsn:=zi (all_snoc F.K hg hjl);obtain⟨a,hae⟩:∃a,a=hg[j]:=⟨_,rfl⟩;have hgd:Hid (hg.getD j ⟨false,[],.nil⟩=a):=zi (by rw[hae];simp[List.getD_eq_getElem?_getD,List.getElem?_eq_getElem hjl]);rw[←hae]at y0 y1 hxe hnm hsn;have z0:wl.cell? ⟨ga,j*3,none⟩=some (.bool a.ptr):=(hAR.out.1.cell _).trans y0;have z1:wl.cell? ⟨ga,j*3+1,none⟩=some (.string (strV a.nm)):=(hAR.out.1.cell _).trans y1;have z2:wl.cell? ⟨ga,j*3+2,none⟩=some (.pointer px):=(hAR.out.1.cell _).trans y2;have zl:=hAR.out.1.lt;have hx2:=zi hxe;have hnm':=zi hnm;clear hjj hae y0 y1 y2 hxe hnm;obtain⟨ap,an,ae⟩:=a;simp only at z0 z1 hx2;obtain⟨wW,hwd⟩:∃y,y=wl.drew:=⟨_,rfl⟩
   have hbd:Below wl.heap.size wl wW:=by rw[hwd];exact(Below.refl _ wl).drew
   have hBW:=zi (hBl.out.below hbd);have hARW:=zi (hAR.out.below hbd);have hbW:=zi (hbl.out.trans (hbd.mono hbl.out.size));have hxW:=zi ((hx2.out.below hbd).mono (S':=Evr) fun _ _ _=>trivial);have hfd:=zi hwd.symm;have hgo:Hid (Below wW.heap.size wW wl.drew):=zi (by rw[←hwd];exact Below.refl _ _);clear hwd hbd hx2;obtain⟨⟨p0,p1,p2,p3,pl⟩,⟨s0,s1,s2,s3,s4,s5,s6,s7,s8,s9,sl⟩⟩:=hBl.out.facts
   cases ap with
   |true=>
    have hfc:Hid (∀w':World,Below wW.heap.size wW w'→_∧w'.cell? ⟨ga,j*3+1,none⟩=some (.string (strV an))∧w'.cell? ⟨ga,j*3+2,none⟩=some (.pointer px)∧ga<w'.heap.size):=zi fun w' hb=>by
     have hH:=hARW.out.1.below hb hARW.out.1.lt;refine⟨(hBW.out.below hb).rf.facts,(hb.cell (p:=⟨ga,j*3+1,none⟩) hARW.out.1.lt).trans ?_,(hb.cell (p:=⟨ga,j*3+2,none⟩) hARW.out.1.lt).trans ?_,hH.lt⟩
     ·rw[←hfd.out];exact z1
     ·rw[←hfd.out];exact z2
    have ck:=zi fun(w:World) (hb:Below wW.heap.size wW w)=>kindF_any F w (hBW.out.rf.ok.below hb) an;unfold FnV.cells at ck
    have hsame:argL F.K ⟨true,an,ae⟩=⟨true,an,ae⟩:=by unfold argL;simp
    have hnext:Hid (∀w',Below wW.heap.size wW w'→ARow w' (fun x=>x<wc.heap.size∧Apt S gs gr w.heap.size x) ga na (argK F.K hg (j+1)) cs∧Below wc.heap.size wc w'):=zi fun w' hb=>⟨argK_step hgd.out hsame (hARW.out.below hb),hbW.out.trans (hb.mono hbW.out.size)⟩;clear hsame;go_wp2_with fail;clear p0 p1 p2 p3 pl s0 s1 s2 s3 s4 s5 s6 s7 s8 s9 sl z0 z1 z2 zl
    cases bj with
    |false=>
     have hbn:Hid (false=(b0&&((hg.take (j+1)).all fun a=>(argF F.K a).2))):=zi (by rw[hsn.out,←Bool.and_assoc,←hbj.out];rfl);refine wp_region_tabL ((eqv (.bool false))::(eqv (.bool false))::eud::eud::eud::eud::eud::eud::eud::eud::(eqv (.bool false))::(eqv (.bool false))::[])
      ((rn1 8)::(rd1 144 0)::(rq1 2 145 1)::(rq1 9 145 1)::(rq1 10 145 1)::⟨[(147,some 3),(148,some 4),(145,some 1)],145,[]⟩::(rg1 149 5 145 1)::(rg1 150 6 145 1)::⟨[(146,some 2),(151,some 7),(145,some 1)],145,[]⟩::(rg1 152 8 145 1)::⟨[(145,some 1),(153,some 9)],0,[]⟩::(rd1 154 10)::[])
      (no::no::no::no::no::no::no::no::so 11::no::no::no::no::no::no::no::no::no::no::no::no::no::no::no::no::no::no::no::no::no::no::no::no::no::no::no::no::no::no::no::no::no::no::no::no::no::no::no::no::no::no::no::no::no::no::no::no::no::no::no::no::no::no::no::no::no::no::no::no::no::no::no::no::no::no::no::no::no::no::no::no::no::no::no::no::no::no::no::no::no::no::no::no::no::no::no::no::no::no::no::no::no::no::no::no::no::no::no::no::no::no::no::no::no::no::no::no::no::no::no::no::no::no::no::no::no::no::no::no::no::no::no::no::no::no::no::no::no::no::no::no::no::no::no::so 0::so 1::so 2::so 3::so 4::so 5::so 6::so 7::so 8::so 9::so 10::[])
      (fun _ w'=>Below wW.heap.size wW w') (fun _ w w'=>Below w.heap.size w w') ?mixK32st32F ?okK32st32F ?tabK32st32F ?frK32st32F ?inK32st32F ?keptK32st32F ?startK32st32F ?eachK32st32F ?finK32st32F
     case mixK32st32F|okK32st32F|tabK32st32F|frK32st32F=>kernel_rfl
     case inK32st32F=>rfl
     case keptK32st32F=>((repeat refine⟨fun _ _ _ _ _ _ _ _ _ _ _ h=>h,?_⟩);exact trivial)
     case startK32st32F=>exact hgo.out
     case eachK32st32F=>
      repeat' first|exact trivial|refine And.intro ?_ ?_
      ·intro w L f hC hLi hLd hLn ⟨d,_⟩;refine Step2.live rfl ?_;exact relUpon_value (v:=f 8) rfl (hC) (Below.refl _ _) d
      ·intro w L f hC hLi hLd hLn ⟨d,_⟩;refine Step2.live rfl ?_;exact relUpon_value (v:=f 144) rfl (hC) (Below.refl _ _) d
      iterate 3 (intro w L f hC hLi hLd hLn ⟨_,d,_⟩;refine StepL2.dead (show wantedBy _ (f 145)=false by rw[show f 145=_ from d];rfl) (hC) ?_ (Below.refl _ _);exact rfl)
      ·intro w L f hC hLi hLd hLn ⟨_,_,d,_⟩;refine StepL2.dead (show wantedBy _ (f 145)=false by rw[show f 145=_ from d];rfl) (hC) ?_ (Below.refl _ _);exact rfl
      iterate 2 (intro w L f hC hLi hLd hLn ⟨_,d,_⟩;refine StepL2.dead (show wantedBy _ (f 145)=false by rw[show f 145=_ from d];rfl) (hC) ?_ (Below.refl _ _);exact rfl)
      ·intro w L f hC hLi hLd hLn ⟨_,_,d,_⟩;refine StepL2.dead (show wantedBy _ (f 145)=false by rw[show f 145=_ from d];rfl) (hC) ?_ (Below.refl _ _);exact rfl
      ·intro w L f hC hLi hLd hLn ⟨_,d,_⟩;refine StepL2.dead (show wantedBy _ (f 145)=false by rw[show f 145=_ from d];rfl) (hC) ?_ (Below.refl _ _);exact rfl
      ·intro w L f hC hLi hLd hLn ⟨a,b,_⟩;change _=_ at a b;refine Step2.live rfl ?_;obtain⟨ev,ec,ef⟩:=evs f;refine relUpon_value ?_ (hC) (Below.refl _ _) rfl;go_simp
      ·intro w L f hC hLi hLd hLn ⟨d,_⟩;refine Step2.live rfl ?_;exact relUpon_value (v:=f 154) rfl (hC) (Below.refl _ _) d
     intro x w' hC hV
     have e8:=hV 11 _ rfl rfl;obtain⟨y1,y2⟩:=hnext.out _ hC;have z1:=zi y1;have z2:=zi y2;clear hV hC y1 y2 hnext hfc ck;simp only[framed];rw[e8];go_wp2_with fail;exact⟨⟨j+1,false,cs,by omega,by simp,rfl,hbn,z1,z2⟩,by simp[intOf];omega⟩
    |true=>
     have hbn:Hid ((((F.K an:Nat):Int)==2)=(b0&&((hg.take (j+1)).all fun a=>(argF F.K a).2))):=zi (by rw[hsn.out,←Bool.and_assoc,←hbj.out,Bool.true_and];unfold argF;simp only[if_true];exact beq_cast (F.K an) 2);refine wp_region_tabL ((eqv (.bool true))::(eqv (.bool true))::(eqv (.agg #[.string (strV F.nm),.slice F.A1 F.ps.length F.c1,.slice F.A2 F.ls.length F.c2,.slice F.A3 F.n3 F.c3]))::(eqv (.slice (some ⟨ga,0,none⟩) na cap))::(eqv (.int .i64 j))::(eqv (.pointer (some ⟨ga,j*3,none⟩)))::(eqv (.pointer (some ⟨ga,j*3+1,none⟩)))::(eqv (.string (strV an)))::(eqv (.int .i64 (F.K an)))::(eqv (.bool (((F.K an:Nat):Int)==2)))::(eqv (.bool (((F.K an:Nat):Int)==2)))::(eqv (.bool (((F.K an:Nat):Int)==2)))::[])
      ((rn1 8)::(rd1 144 0)::(rq1 2 145 1)::(rq1 9 145 1)::(rq1 10 145 1)::⟨[(147,some 3),(148,some 4),(145,some 1)],145,[]⟩::(rg1 149 5 145 1)::(rg1 150 6 145 1)::⟨[(146,some 2),(151,some 7),(145,some 1)],145,[]⟩::(rg1 152 8 145 1)::⟨[(145,some 1),(153,some 9)],0,[]⟩::(rd1 154 10)::[])
      (no::no::no::no::no::no::no::no::so 11::no::no::no::no::no::no::no::no::no::no::no::no::no::no::no::no::no::no::no::no::no::no::no::no::no::no::no::no::no::no::no::no::no::no::no::no::no::no::no::no::no::no::no::no::no::no::no::no::no::no::no::no::no::no::no::no::no::no::no::no::no::no::no::no::no::no::no::no::no::no::no::no::no::no::no::no::no::no::no::no::no::no::no::no::no::no::no::no::no::no::no::no::no::no::no::no::no::no::no::no::no::no::no::no::no::no::no::no::no::no::no::no::no::no::no::no::no::no::no::no::no::no::no::no::no::no::no::no::no::no::no::no::no::no::no::so 0::so 1::so 2::so 3::so 4::so 5::so 6::so 7::so 8::so 9::so 10::[])
      (fun _ w'=>Below wW.heap.size wW w') (fun _ w w'=>Below w.heap.size w w') ?mixK32st32T ?okK32st32T ?tabK32st32T ?frK32st32T ?inK32st32T ?keptK32st32T ?startK32st32T ?eachK32st32T ?finK32st32T
     case mixK32st32T|okK32st32T|tabK32st32T|frK32st32T=>kernel_rfl
     case inK32st32T=>rfl
     case keptK32st32T=>((repeat refine⟨fun _ _ _ _ _ _ _ _ _ _ _ h=>h,?_⟩);exact trivial)
     case startK32st32T=>exact hgo.out
     case eachK32st32T=>
      repeat' first|exact trivial|refine And.intro ?_ ?_
      ·intro w L f hC hLi hLd hLn ⟨d,_⟩;refine Step2.live rfl ?_;exact relUpon_value (v:=f 8) rfl (hC) (Below.refl _ _) d
      ·intro w L f hC hLi hLd hLn ⟨d,_⟩;refine Step2.live rfl ?_;exact relUpon_value (v:=f 144) rfl (hC) (Below.refl _ _) d
      ·intro w L f hC hLi hLd hLn ⟨a,d145,_⟩;change _=_ at a d145;refine Step2.live (show wantedBy _ (f 145)=true by rw[d145];rfl) ?_;obtain⟨⟨p0,p1,p2,p3,pl⟩,z1,z2,zl⟩:=hfc.out w hC;obtain⟨ev,ec,ef⟩:=evs f;refine relUpon_value ?_ hC (Below.refl _ _) rfl;go_simp
      ·intro w L f hC hLi hLd hLn ⟨d9,d145,_⟩;change _=_ at d9 d145;refine Step2.live (show wantedBy _ (f 145)=true by rw[d145];rfl) ?_;exact relUpon_value (v:=f 9) rfl (hC) (Below.refl _ _) d9
      ·intro w L f hC hLi hLd hLn ⟨d10,d145,_⟩;change _=_ at d10 d145;refine Step2.live (show wantedBy _ (f 145)=true by rw[d145];rfl) ?_;exact relUpon_value (v:=f 10) rfl (hC) (Below.refl _ _) d10
      ·intro w L f hC hLi hLd hLn ⟨a,b,d145,_⟩;change _=_ at a b d145;refine Step2.live (show wantedBy _ (f 145)=true by rw[d145];rfl) ?_;obtain⟨⟨p0,p1,p2,p3,pl⟩,z1,z2,zl⟩:=hfc.out w hC;obtain⟨ev,ec,ef⟩:=evs f;refine relUpon_value ?_ hC (Below.refl _ _) rfl;go_simp
      iterate 2 (intro w L f hC hLi hLd hLn ⟨a,d145,_⟩;change _=_ at a d145;refine Step2.live (show wantedBy _ (f 145)=true by rw[d145];rfl) ?_;obtain⟨⟨p0,p1,p2,p3,pl⟩,z1,z2,zl⟩:=hfc.out w hC;obtain⟨ev,ec,ef⟩:=evs f;refine relUpon_value ?_ hC (Below.refl _ _) rfl;go_simp)
      ·intro w L f hC hLi hLd hLn ⟨a,b,d145,_⟩;change _=_ at a b d145;refine Step2.live (show wantedBy _ (f 145)=true by rw[d145];rfl) ?_;obtain⟨ev,ec,ef⟩:=evs f;refine relUpon_call (f:=142) (args:= #[.agg #[.string (strV F.nm),.slice F.A1 F.ps.length F.c1,.slice F.A2 F.ls.length F.c2,.slice F.A3 F.n3 F.c3],.string (strV an)]) (w:=w) (by go_simp) (ck.out w hC) ?_;rintro e w1 ⟨he,hB⟩;exact⟨_,he,hC.trans (hB.mono hC.size),hB,rfl⟩
      ·intro w L f hC hLi hLd hLn ⟨a,d145,_⟩;change _=_ at a d145;refine Step2.live (show wantedBy _ (f 145)=true by rw[d145];rfl) ?_;obtain⟨ev,ec,ef⟩:=evs f;refine relUpon_value ?_ (hC) (Below.refl _ _) rfl;go_simp
      ·intro w L f hC hLi hLd hLn ⟨a,b,_⟩;change _=_ at a b;refine Step2.live rfl ?_;obtain⟨ev,ec,ef⟩:=evs f;refine relUpon_value ?_ (hC) (Below.refl _ _) rfl;go_simp
      ·intro w L f hC hLi hLd hLn ⟨d,_⟩;refine Step2.live rfl ?_;exact relUpon_value (v:=f 154) rfl (hC) (Below.refl _ _) d
     intro x w' hC hV
     have e8:=hV 11 _ rfl rfl;obtain⟨y1,y2⟩:=hnext.out _ hC;have z1:=zi y1;have z2:=zi y2;clear hV hC y1 y2 hnext hfc ck;simp only[framed];rw[e8];go_wp2_with fail;exact⟨⟨j+1,_,cs,by omega,by simp,rfl,hbn,z1,z2⟩,by simp[intOf];omega⟩
   |false=>
    have cp:=zi (pointer10_any F ae wW _ hBW.out.rf.ok hxW.out);unfold FnV.cells at cp;go_wp2_with fail
    go_still_tail 6,(by kernel_rfl)
    change wpList _ _ _ _ _ wl.drew;rw[hfd.out];clear p0 p1 p2 p3 pl s0 s1 s2 s3 s4 s5 s6 s7 s8 s9 sl z0 z1 z2 zl hfd hgo;go_wp2_with fail;refine cp.out.mono ?_;clear cp;rintro e5 w5 ⟨rfl,hb5⟩;have hB5:=zi (hBW.out.below hb5);have hAR5:=zi (hARW.out.below hb5);have hb5':=zi (hbW.out.trans (hb5.mono hbW.out.size));have hx5:=zi (hxW.out.below hb5);clear hb5 hBW hARW hbW hxW;obtain⟨ve,y0,y1,y2,hxe,hnm⟩:=hAR5.out.2 j hlt
    have hjj:argK F.K hg j j=⟨false,an,ae⟩:=by unfold argK;rw[if_neg (by omega)];exact hgd.out
    rw[hjj]at y0 y1 hxe;have z0:w5.cell? ⟨ga,j*3,none⟩=some (.bool false):=(hAR5.out.1.cell _).trans y0;have z1:w5.cell? ⟨ga,j*3+1,none⟩=some (.string (strV an)):=(hAR5.out.1.cell _).trans y1;have z2:w5.cell? ⟨ga,j*3+2,none⟩=some ve:=(hAR5.out.1.cell _).trans y2;have zl:=hAR5.out.1.lt;have zf:=zi fun i=>hAR5.out.1.frozen i;obtain⟨pz,rfl⟩:=hxe.vp;have hxz:=zi hxe;clear y0 y1 y2 hxe hnm hjj hx5
    cases hp:ptrF F.K ae with
    |true=>
     cases ae with
     |nil=>cases hp
     |mk ek en nm ea eb=>
      obtain⟨gx,va,vb,e1,hS,hnmx,-,hH,-,-⟩:=hxz.out;injection e1 with e1;subst e1;have x2:w5.cell? ⟨gx,2,none⟩=some (.string (strV nm)):=hH.cell 2;have xl:=hH.lt
      have hga:¬(ga<wc.heap.size∧Apt S gs gr w.heap.size ga):=fun h=>by have h1:=hgb'.out;have h2:=h.1;omega
      have hput:=hAR5.out.put hga hlt hnmx;obtain⟨w6,hw6⟩:∃y,y=((w5.setCell ⟨ga,j*3,none⟩ (.bool true)).setCell ⟨ga,j*3+1,none⟩ (.string (strV nm))).setCell ⟨ga,j*3+2,none⟩ (.pointer none):=⟨_,rfl⟩;rw[←hw6]at hput
      have hW6:Writes [some ga] w5 w6:=by rw[hw6];exact((Writes.store w5 (by simp) _).trans (Writes.store _ (by simp) _)).trans (Writes.store _ (by simp) _)
      have hb6:=zi (hb5'.out.trans (hW6.below hb5'.out.size fun k hk=>by simp at hk;subst hk;exact hgb'.out))
      have hgo:Hid (ARow w6 (fun x=>x<wc.heap.size∧Apt S gs gr w.heap.size x) ga na (argK F.K hg (j+1)) _):=zi (hput.congr fun i hi=>by
       unfold argK;by_cases h2:i=j
       ·rw[if_pos (by omega),h2,hgd.out,if_pos rfl];unfold argL;simp[hp,Ex.name]
       ·rw[if_neg h2];by_cases h1:i<j
        ·rw[if_pos h1,if_pos (by omega)]
        ·rw[if_neg h1,if_neg (by omega)])
      have hbn:Hid (bj=(b0&&((hg.take (j+1)).all fun a=>(argF F.K a).2))):=zi (by rw[hsn.out,←Bool.and_assoc,←hbj.out];unfold argF;simp[hp]);have hf6:=zi hw6.symm;have f0:=zf.out (j*3);have f1:=zf.out (j*3+1);have f2:=zf.out (j*3+2);clear hp hput hw6 hW6 hH hS hga hnmx;go_wp2_with fail;rw[hf6.out];exact⟨⟨j+1,bj,_,by omega,by simp,rfl,hbn,hgo,hb6⟩,by simp[intOf];omega⟩
    |false=>
     have hsame:argL F.K ⟨false,an,ae⟩=⟨false,an,ae⟩:=by unfold argL;simp[hp]
     have haf:(argF F.K ⟨false,an,ae⟩).2=intsF F.K ae:=by unfold argF;simp[hp]
     obtain⟨wW,hwd⟩:∃y,y=w5.drew:=⟨_,rfl⟩
     have hbd:Below w5.heap.size w5 wW:=by rw[hwd];exact(Below.refl _ w5).drew
     have hBW:=zi (hB5.out.below hbd);have hARW:=zi (hAR5.out.below hbd);have hbW:=zi (hb5'.out.trans (hbd.mono hb5'.out.size));have hxW:=zi ((hxz.out.below hbd).mono (S':=Evr) fun _ _ _=>trivial);have hfd:=zi hwd.symm;have hgo:Hid (Below wW.heap.size wW w5.drew):=zi (by rw[←hwd];exact Below.refl _ _);obtain⟨px,hpx⟩:∃y,y=pz:=⟨_,rfl⟩;rw[←hpx]at z2 hxW
     have hfc:Hid (∀w':World,Below wW.heap.size wW w'→_∧w'.cell? ⟨ga,j*3+1,none⟩=some (.string (strV an))∧w'.cell? ⟨ga,j*3+2,none⟩=some (.pointer px)∧ga<w'.heap.size):=zi fun w' hb=>by
      have hH:=hARW.out.1.below hb hARW.out.1.lt;refine⟨(hBW.out.below hb).rf.facts,(hb.cell (p:=⟨ga,j*3+1,none⟩) hARW.out.1.lt).trans ?_,(hb.cell (p:=⟨ga,j*3+2,none⟩) hARW.out.1.lt).trans ?_,hH.lt⟩
      ·rw[←hfd.out];exact z1
      ·rw[←hfd.out];exact z2
     have ci:=zi fun(w:World) (hb:Below wW.heap.size wW w)=>ints_any F ae w _ (hBW.out.rf.ok.below hb) (hxW.out.below hb);unfold FnV.cells at ci;have hnext:Hid (∀w',Below wW.heap.size wW w'→ARow w' (fun x=>x<wc.heap.size∧Apt S gs gr w.heap.size x) ga na (argK F.K hg (j+1)) cs∧Below wc.heap.size wc w'):=zi fun w' hb=>⟨argK_step hgd.out hsame (hARW.out.below hb),hbW.out.trans (hb.mono hbW.out.size)⟩;have haf':=zi haf;clear hsame hp hwd hbd hxz zf haf hpx;go_wp2_with fail;clear z0 z1 z2 zl
     cases bj with
     |false=>
      have hbn:Hid (false=(b0&&((hg.take (j+1)).all fun a=>(argF F.K a).2))):=zi (by rw[hsn.out,←Bool.and_assoc,←hbj.out];rfl);refine wp_region_tabL ((eqv (.bool false))::(eqv (.bool false))::eud::eud::eud::eud::eud::eud::eud::(eqv (.bool false))::(eqv (.bool false))::[])
       ((rn1 8)::(rd1 174 0)::(rq1 2 175 1)::(rq1 9 175 1)::(rq1 10 175 1)::⟨[(177,some 3),(178,some 4),(175,some 1)],175,[]⟩::(rg1 179 5 175 1)::(rg1 180 6 175 1)::⟨[(176,some 2),(181,some 7),(175,some 1)],175,[]⟩::⟨[(175,some 1),(182,some 8)],0,[]⟩::(rd1 183 9)::[])
       (no::no::no::no::no::no::no::no::so 10::no::no::no::no::no::no::no::no::no::no::no::no::no::no::no::no::no::no::no::no::no::no::no::no::no::no::no::no::no::no::no::no::no::no::no::no::no::no::no::no::no::no::no::no::no::no::no::no::no::no::no::no::no::no::no::no::no::no::no::no::no::no::no::no::no::no::no::no::no::no::no::no::no::no::no::no::no::no::no::no::no::no::no::no::no::no::no::no::no::no::no::no::no::no::no::no::no::no::no::no::no::no::no::no::no::no::no::no::no::no::no::no::no::no::no::no::no::no::no::no::no::no::no::no::no::no::no::no::no::no::no::no::no::no::no::no::no::no::no::no::no::no::no::no::no::no::no::no::no::no::no::no::no::no::no::no::no::no::no::no::no::no::no::no::no::so 0::so 1::so 2::so 3::so 4::so 5::so 6::so 7::so 8::so 9::[])
       (fun _ w'=>Below wW.heap.size wW w') (fun _ w w'=>Below w.heap.size w w') ?mixK35st35F ?okK35st35F ?tabK35st35F ?frK35st35F ?inK35st35F ?keptK35st35F ?startK35st35F ?eachK35st35F ?finK35st35F
      case mixK35st35F|okK35st35F|tabK35st35F|frK35st35F=>kernel_rfl
      case inK35st35F=>rfl
      case keptK35st35F=>((repeat refine⟨fun _ _ _ _ _ _ _ _ _ _ _ h=>h,?_⟩);exact trivial)
      case startK35st35F=>exact hgo.out
      case eachK35st35F=>
       repeat' first|exact trivial|refine And.intro ?_ ?_
       ·intro w L f hC hLi hLd hLn ⟨d,_⟩;refine Step2.live rfl ?_;exact relUpon_value (v:=f 8) rfl (hC) (Below.refl _ _) d
       ·intro w L f hC hLi hLd hLn ⟨d,_⟩;refine Step2.live rfl ?_;exact relUpon_value (v:=f 174) rfl (hC) (Below.refl _ _) d
       iterate 3 (intro w L f hC hLi hLd hLn ⟨_,d,_⟩;refine StepL2.dead (show wantedBy _ (f 175)=false by rw[show f 175=_ from d];rfl) (hC) ?_ (Below.refl _ _);exact rfl)
       ·intro w L f hC hLi hLd hLn ⟨_,_,d,_⟩;refine StepL2.dead (show wantedBy _ (f 175)=false by rw[show f 175=_ from d];rfl) (hC) ?_ (Below.refl _ _);exact rfl
       iterate 2 (intro w L f hC hLi hLd hLn ⟨_,d,_⟩;refine StepL2.dead (show wantedBy _ (f 175)=false by rw[show f 175=_ from d];rfl) (hC) ?_ (Below.refl _ _);exact rfl)
       ·intro w L f hC hLi hLd hLn ⟨_,_,d,_⟩;refine StepL2.dead (show wantedBy _ (f 175)=false by rw[show f 175=_ from d];rfl) (hC) ?_ (Below.refl _ _);exact rfl
       ·intro w L f hC hLi hLd hLn ⟨a,b,_⟩;change _=_ at a b;refine Step2.live rfl ?_;obtain⟨ev,ec,ef⟩:=evs f;refine relUpon_value ?_ (hC) (Below.refl _ _) rfl;go_simp
       ·intro w L f hC hLi hLd hLn ⟨d,_⟩;refine Step2.live rfl ?_;exact relUpon_value (v:=f 183) rfl (hC) (Below.refl _ _) d
      intro x w' hC hV
      have e8:=hV 10 _ rfl rfl;obtain⟨y1,y2⟩:=hnext.out _ hC;have z1:=zi y1;have z2:=zi y2;clear hV hC y1 y2 hnext hfc ci;simp only[framed];rw[e8];go_wp2_with fail;exact⟨⟨j+1,false,cs,by omega,by simp,rfl,hbn,z1,z2⟩,by simp[intOf];omega⟩
     |true=>
      have hbn:Hid (intsF F.K ae=(b0&&((hg.take (j+1)).all fun a=>(argF F.K a).2))):=zi (by rw[hsn.out,←Bool.and_assoc,←hbj.out,Bool.true_and];exact haf'.out.symm);refine wp_region_tabL ((eqv (.bool true))::(eqv (.bool true))::(eqv (.agg #[.string (strV F.nm),.slice F.A1 F.ps.length F.c1,.slice F.A2 F.ls.length F.c2,.slice F.A3 F.n3 F.c3]))::(eqv (.slice (some ⟨ga,0,none⟩) na cap))::(eqv (.int .i64 j))::(eqv (.pointer (some ⟨ga,j*3,none⟩)))::(eqv (.pointer (some ⟨ga,j*3+2,none⟩)))::(eqv (.pointer px))::(eqv (.bool (intsF F.K ae)))::(eqv (.bool (intsF F.K ae)))::(eqv (.bool (intsF F.K ae)))::[])
       ((rn1 8)::(rd1 174 0)::(rq1 2 175 1)::(rq1 9 175 1)::(rq1 10 175 1)::⟨[(177,some 3),(178,some 4),(175,some 1)],175,[]⟩::(rg1 179 5 175 1)::(rg1 180 6 175 1)::⟨[(176,some 2),(181,some 7),(175,some 1)],175,[]⟩::⟨[(175,some 1),(182,some 8)],0,[]⟩::(rd1 183 9)::[])
       (no::no::no::no::no::no::no::no::so 10::no::no::no::no::no::no::no::no::no::no::no::no::no::no::no::no::no::no::no::no::no::no::no::no::no::no::no::no::no::no::no::no::no::no::no::no::no::no::no::no::no::no::no::no::no::no::no::no::no::no::no::no::no::no::no::no::no::no::no::no::no::no::no::no::no::no::no::no::no::no::no::no::no::no::no::no::no::no::no::no::no::no::no::no::no::no::no::no::no::no::no::no::no::no::no::no::no::no::no::no::no::no::no::no::no::no::no::no::no::no::no::no::no::no::no::no::no::no::no::no::no::no::no::no::no::no::no::no::no::no::no::no::no::no::no::no::no::no::no::no::no::no::no::no::no::no::no::no::no::no::no::no::no::no::no::no::no::no::no::no::no::no::no::no::no::so 0::so 1::so 2::so 3::so 4::so 5::so 6::so 7::so 8::so 9::[])
       (fun _ w'=>Below wW.heap.size wW w') (fun _ w w'=>Below w.heap.size w w') ?mixK35st35T ?okK35st35T ?tabK35st35T ?frK35st35T ?inK35st35T ?keptK35st35T ?startK35st35T ?eachK35st35T ?finK35st35T
      case mixK35st35T|okK35st35T|tabK35st35T|frK35st35T=>kernel_rfl
      case inK35st35T=>rfl
      case keptK35st35T=>((repeat refine⟨fun _ _ _ _ _ _ _ _ _ _ _ h=>h,?_⟩);exact trivial)
      case startK35st35T=>exact hgo.out
      case eachK35st35T=>
       repeat' first|exact trivial|refine And.intro ?_ ?_
       ·intro w L f hC hLi hLd hLn ⟨d,_⟩;refine Step2.live rfl ?_;exact relUpon_value (v:=f 8) rfl (hC) (Below.refl _ _) d
       ·intro w L f hC hLi hLd hLn ⟨d,_⟩;refine Step2.live rfl ?_;exact relUpon_value (v:=f 174) rfl (hC) (Below.refl _ _) d
       ·intro w L f hC hLi hLd hLn ⟨a,d175,_⟩;change _=_ at a d175;refine Step2.live (show wantedBy _ (f 175)=true by rw[d175];rfl) ?_;obtain⟨⟨p0,p1,p2,p3,pl⟩,z1,z2,zl⟩:=hfc.out w hC;obtain⟨ev,ec,ef⟩:=evs f;refine relUpon_value ?_ hC (Below.refl _ _) rfl;go_simp
       ·intro w L f hC hLi hLd hLn ⟨d9,d175,_⟩;change _=_ at d9 d175;refine Step2.live (show wantedBy _ (f 175)=true by rw[d175];rfl) ?_;exact relUpon_value (v:=f 9) rfl (hC) (Below.refl _ _) d9
       ·intro w L f hC hLi hLd hLn ⟨d10,d175,_⟩;change _=_ at d10 d175;refine Step2.live (show wantedBy _ (f 175)=true by rw[d175];rfl) ?_;exact relUpon_value (v:=f 10) rfl (hC) (Below.refl _ _) d10
       ·intro w L f hC hLi hLd hLn ⟨a,b,d175,_⟩;change _=_ at a b d175;refine Step2.live (show wantedBy _ (f 175)=true by rw[d175];rfl) ?_;obtain⟨⟨p0,p1,p2,p3,pl⟩,z1,z2,zl⟩:=hfc.out w hC;obtain⟨ev,ec,ef⟩:=evs f;refine relUpon_value ?_ hC (Below.refl _ _) rfl;go_simp
       iterate 2 (intro w L f hC hLi hLd hLn ⟨a,d175,_⟩;change _=_ at a d175;refine Step2.live (show wantedBy _ (f 175)=true by rw[d175];rfl) ?_;obtain⟨⟨p0,p1,p2,p3,pl⟩,z1,z2,zl⟩:=hfc.out w hC;obtain⟨ev,ec,ef⟩:=evs f;refine relUpon_value ?_ hC (Below.refl _ _) rfl;go_simp)
       ·intro w L f hC hLi hLd hLn ⟨a,b,d175,_⟩;change _=_ at a b d175;refine Step2.live (show wantedBy _ (f 175)=true by rw[d175];rfl) ?_;obtain⟨ev,ec,ef⟩:=evs f;refine relUpon_call (f:=144) (args:= #[.agg #[.string (strV F.nm),.slice F.A1 F.ps.length F.c1,.slice F.A2 F.ls.length F.c2,.slice F.A3 F.n3 F.c3],.pointer px]) (w:=w) (by go_simp) (ci.out w hC) ?_;rintro e w1 ⟨he,hB⟩;exact⟨_,he,hC.trans (hB.mono hC.size),hB,rfl⟩
       ·intro w L f hC hLi hLd hLn ⟨a,b,_⟩;change _=_ at a b;refine Step2.live rfl ?_;obtain⟨ev,ec,ef⟩:=evs f;refine relUpon_value ?_ (hC) (Below.refl _ _) rfl;go_simp
       ·intro w L f hC hLi hLd hLn ⟨d,_⟩;refine Step2.live rfl ?_;exact relUpon_value (v:=f 183) rfl (hC) (Below.refl _ _) d
      intro x w' hC hV
      have e8:=hV 10 _ rfl rfl;obtain⟨y1,y2⟩:=hnext.out _ hC;have z1:=zi y1;have z2:=zi y2;clear hV hC y1 y2 hnext hfc ci;simp only[framed];rw[e8];go_wp2_with fail;exact⟨⟨j+1,_,cs,by omega,by simp,rfl,hbn,z1,z2⟩,by simp[intOf];omega⟩
  ·obtain rfl:j=na:=by omega
   have hlast:AgsAt wl (Apt S gs gr w.heap.size) (hg.map (argL F.K)) (.slice (some ⟨ga,0,none⟩) (hg.map (argL F.K)).length cap):=by
    have h1:=hAR.out.ags (l:=hg.map (argL F.K)) (by rw[List.length_map,←hna'.out]) (fun i hi=>by
     rw[List.getElem_map];unfold argK
     have hi2:i<hg.length:=by simpa using hi
     rw[if_pos (by rw[hna'.out];exact hi2)]
     simp[List.getD_eq_getElem?_getD,List.getElem?_eq_getElem hi2]) hna5 hcap'.out
    rw[List.length_map,←hna'.out];refine h1.mono fun x hx hh=> ?_;rcases hh with hh|hh
    ·exact hh.2
    ·have h2:=hgb'.out;have h3:=hB2.out.hr.lt;have h4:=hB2.out.hs.lt;have h5:=hB2.out.rf.bl.size;exact⟨by omega,by omega,.inr (by omega)⟩
   have hB9:=hBl.out.putA hF0.out _ hlast;obtain⟨w9,hw9⟩:∃y,y=wl.setCell ⟨gs,6,none⟩ (.slice (some ⟨ga,0,none⟩) j cap):=⟨_,rfl⟩;have hf9:=zi hw9.symm;rw[List.length_map,←hna'.out,←hw9]at hB9;replace hB9:=zi hB9;have hbn:Hid (bj=(b0&&(hg.all fun a=>(argF F.K a).2))):=zi (by have h1:=hbj.out;rw[List.take_of_length_le (by rw[←hna'.out];exact Nat.le_refl _)]at h1;exact h1);have f6:=hBl.out.hs.frozen 6;clear hw9 hlast hAR;obtain⟨⟨p0,p1,p2,p3,pl⟩,⟨s0,s1,s2,s3,s4,s5,s6,s7,s8,s9,sl⟩⟩:=hBl.out.facts;go_upto_region 39 with(fail);rw[hf9.out];clear f6 p0 p1 p2 p3 pl s0 s1 s2 s3 s4 s5 s6 s7 s8 s9 sl;obtain⟨⟨p0,p1,p2,p3,pl⟩,⟨s0,s1,s2,s3,s4,s5,s6,s7,s8,s9,sl⟩⟩:=hB9.out.facts;obtain⟨r0,r1,r2,r3,r4,r5,r6,r7,r8,r9,rl,rf⟩:=hB9.out.fr;have f0:=rf.out 0;have f1:=rf.out 1;have f2:=rf.out 2;have f3:=rf.out 3;have f4:=rf.out 4;have f5:=rf.out 5;have f6:=rf.out 6;have f7:=rf.out 7;have f8:=rf.out 8;have f9:=rf.out 9;go_wp2_with fail
   exact StB.fin hB9.out ⟨8,hx,hy,he,hf,hc,hg,ha⟩ (ok:=bj) (by rw[rstmt8,hbn.out,hb0'.out,←hX.out,←hY.out]) (fun hh=>⟨by rw[rstmt8],by simp[turned]⟩) rfl rfl rfl rfl Tryz.underlying63 Tryz.sStmt
end Go.Proofs.YtpndglghpojjkaaGreat
namespace Go.Proofs.YtpndglghpojjkaaGreat
open Go.RowKit
section
variable {Γ:Type}
def DepG (ops:Array Oper) (V:Nat→(Nat→Bool)→World×Γ→Value→Prop) (L:Nat→Bool) (tmps:Array Value) (w:World×Γ):List Nat→Prop
 | []=>True
 |j::r=>(match (ops[j]?).bind (·.dst)with|some d=>V j L w (tmps.getD d undef)|none=>True)∧DepG ops V L tmps w r
def StepG1 (P:Program) (ops:Array Oper) (V:Nat→(Nat→Bool)→World×Γ→Value→Prop) (C:(Nat→Bool)→World×Γ→Prop) (G:Nat→World×Γ→World×Γ→Prop) (i:Nat) (o:Oper) (a:Act):Prop:=
 ∀w (γ:Γ) L,C L (w,γ)→L i=false→(∀j∈depsOf o,L j=true)→(∀j,reach ops ops.size j i=true→L j=false)→DepG ops V L a.tmps (w,γ) (depsOf o)→
  if Region.wanted o (yielded ops a.tmps)then relUpon P (fun v w'=>∃γ',C (fun k=>k==i||L k) (w',γ')∧G i (w,γ) (w',γ')∧V i (fun k=>k==i||L k) (w',γ') v) ((execOp a.eval o).run P w)
  else V i (fun k=>k==i||L k) (w,γ) undef∧C (fun k=>k==i||L k) (w,γ)∧G i (w,γ) (w,γ)
section
variable {P:Program} {ops:Array Oper} {V:Nat→(Nat→Bool)→World×Γ→Value→Prop} {C:(Nat→Bool)→World×Γ→Prop} {G:Nat→World×Γ→World×Γ→Prop} {Q:Act→World→Prop}
structure LexG (ops:Array Oper) (V:Nat→(Nat→Bool)→World×Γ→Value→Prop) (C:(Nat→Bool)→World×Γ→Prop) (a0:Act) (listed:Array Bool) (a:Act) (w:World×Γ):Prop where
 cls:C (fun k=>listed.getD k true) w
 lsize:listed.size=ops.size
 size:a.tmps.size=a0.tmps.size
 defers:a.defers=a0.defers
 closed:∀(i:Nat) o,ops[i]? =some o→listed.getD i true=true→∀j∈depsOf o,listed.getD j true=true
 done:∀(i:Nat) o,ops[i]? =some o→listed.getD i true=true→∀d,o.dst=some d→V i (fun k=>listed.getD k true) w (a.tmps.getD d undef)
 rest:∀t,(∀(i:Nat) o,ops[i]? =some o→listed.getD i true=true→o.dst≠some t)→a.tmps.getD t undef=a0.tmps.getD t undef
theorem wpAny_lexG {a0:Act} {Q':Exit→Act→World→Prop} (hok:lexOk ops=true) (hN:∀(i:Nat) o d,ops[i]? =some o→o.dst=some d→d<a0.tmps.size)
  (hmono:∀(i j:Nat) oj,ops[j]? =some oj→i∉depsOf oj→i≠j→∀L w w' v,L i=false→C L w→C (fun k=>k==i||L k) w'→G i w w'→V j L w v→V j (fun k=>k==i||L k) w' v) (steps:∀x (i:Nat) o,ops[i]? =some o→StepG1 P ops V C G i o (putN ops x a0 i))
  (hQ:∀x w,C (fun _=>true) w→(∀(k:Nat) o,ops[k]? =some o→o.dst.isSome=true→V k (fun _=>true) w (x k))→Q' .normal (putN ops x a0 ops.size) w.1):
  ∀(fuel:Nat) (listed:Array Bool) (a:Act) (w:World) (γ:Γ),unlisted ops.size listed=fuel→LexG ops V C a0 listed a (w,γ)→wpAny P .any ops Q' fuel listed a w:=by
 have hend:∀(listed:Array Bool) (a:Act) (w:World×Γ),(∀i,i<ops.size→listed.getD i true=true)→LexG ops V C a0 listed a w→Q' .normal a w.1:=by
  intro listed a w hall hl;have hC:=hl.cls
  have hlt:(fun k=>listed.getD k true)=fun _=>true:=funext fun k=>by
   by_cases hk:k<ops.size
   ·exact hall k hk
   ·rw[Array.getD_eq_getD_getElem?,Array.getElem?_eq_none (by rw[hl.lsize];omega)];rfl
  rw[hlt]at hC
  have hq:=hQ (valsOf ops a) w hC fun k o hk hs=>by obtain⟨d,hd⟩:=Option.isSome_iff_exists.1 hs;have:=hl.done k _ hk (hall k (Array.getElem?_eq_some_iff.1 hk).1) d hd;rw[hlt]at this;unfold valsOf;rw[hk];simp only[Option.bind_some,hd];exact this
  have e:putN ops (valsOf ops a) a0 ops.size=a:=by
   have hsz:(putN ops (valsOf ops a) a0 ops.size).tmps.size=a.tmps.size:=by rw[putN_size,hl.size]
   have hd:(putN ops (valsOf ops a) a0 ops.size).defers=a.defers:=by rw[putN_defers,hl.defers]
   have ht:(putN ops (valsOf ops a) a0 ops.size).tmps=a.tmps:=by
    apply Array.ext_getElem?;intro t;apply get_of_getD hsz;by_cases hw:∃j,j<ops.size∧(ops[j]?).bind (·.dst)=some t
    ·exact putN_self hl.size _ _ hw
    ·rw[putN_other _ _ _ _ (fun j hj hd=>hw ⟨j,hj,hd⟩)];exact(hl.rest t fun i o hi _ hd=>hw ⟨i,(Array.getElem?_eq_some_iff.1 hi).1,by rw[hi];exact hd⟩).symm
   cases h1:putN ops (valsOf ops a) a0 ops.size;cases a;simp only[h1]at hd ht;rw[hd,ht]
  rw[e]at hq;exact hq
 intro fuel
 induction fuel with
 |zero=>
  intro listed a w γ hu hl
  have hall:∀i,i<ops.size→listed.getD i true=true:=by intro i hi;have:=List.eq_nil_of_length_eq_zero hu;have h2:=List.filter_eq_nil_iff.1 this i (List.mem_range.2 hi);simpa using h2
  refine⟨?_,hend listed a (w,γ) hall hl⟩;unfold Region.ready;rw[List.filter_eq_nil_iff];intro i hi;simp[hall i (List.mem_range.1 hi)]
 |succ fuel ih=>
  intro listed a w γ hu hl;refine⟨fun hr=>hend listed a (w,γ) ?_ hl,fun i hi=> ?_⟩
  ·have hall:∀n,∀i,i<n→i<ops.size→listed.getD i true=true:=by
    intro n
    induction n with
    |zero=>intro i h;omega
    |succ n ihn=>
     intro i hin hio;by_cases hlt:i<n
     ·exact ihn i hlt hio
     ·obtain rfl:i=n:=by omega
      unfold Region.ready at hr;have h2:=List.filter_eq_nil_iff.1 hr i (List.mem_range.2 hio)
      cases hb:listed.getD i true with
      |true=>rfl
      |false=>
       exfalso;apply h2;have hoi:ops[i]? =some ops[i]:=Array.getElem?_eq_getElem hio;have hdeps:=(lexOk_spec hok hoi).1;rw[hb,hoi];simp only[Bool.not_false,Bool.true_and,Option.map_some,Option.getD_some];rw[Array.all_eq_true_iff_forall_mem];intro e he
       cases hbn:Region.binds .any e with
       |false=>rfl
       |true=>
        have hm:e.on∈depsOf ops[i]:=List.mem_map.2 ⟨e,List.mem_filter.2 ⟨by simpa using he,hbn⟩,rfl⟩;have h3:=ihn e.on (hdeps _ hm) (by have:=hdeps _ hm;omega)
        have h4:e.on<listed.size:=by rw[hl.lsize];have:=hdeps _ hm;omega
        simp only[Array.getD_eq_getD_getElem?,Array.getElem?_eq_getElem h4]at h3⊢;simpa using h3
   exact fun i hi=>hall (i+1) i (by omega) hi
  ·unfold Region.ready at hi;obtain⟨hir,hcond⟩:=List.mem_filter.1 hi;have hio:=List.mem_range.1 hir;have hoi:ops[i]? =some ops[i]:=Array.getElem?_eq_getElem hio;generalize ops[i]=o at hoi;simp only[hoi,Option.map_some,Option.getD_some,Bool.and_eq_true,Bool.not_eq_true']at hcond;obtain⟨hun,hafter⟩:=hcond;obtain⟨hdlt,hsel,hshape⟩:=lexOk_spec hok hoi
   have hdeps:∀j∈depsOf o,listed.getD j true=true:=by
    intro j hj;obtain⟨e,he,rfl⟩:=List.mem_map.1 hj;obtain⟨he1,he2⟩:=List.mem_filter.1 he;have h3:=(Array.all_eq_true_iff_forall_mem.1 hafter) e (by simpa using he1);rw[he2]at h3;simp only[Bool.not_true,Bool.false_or]at h3
    have h4:e.on<listed.size:=by rw[hl.lsize];have:=hdlt _ hj;omega
    simp only[Array.getD_eq_getD_getElem?,Array.getElem?_eq_getElem h4]at h3⊢;simpa using h3
   have hnext:∀j,reach ops ops.size j i=true→listed.getD j true=false:=by
    intro j hj
    cases hb:listed.getD j true with
    |false=>rfl
    |true=>
     have:listed.getD i true=true:=reach_closed (L:=fun k=>listed.getD k true) hl.closed _ _ _ hj hb;rw[hun]at this;cases this
   let x:=valsOf ops a
   have hlook:∀t∈o.looksAt ops,(putN ops x a0 i).tmps.getD t undef=a.tmps.getD t undef:=by
    intro t ht;by_cases hw:∃j,j<i∧(ops[j]?).bind (·.dst)=some t
    ·exact putN_self hl.size _ _ hw
    ·rw[putN_other _ _ _ _ (fun j hj hd=>hw ⟨j,hj,hd⟩)];refine(hl.rest t fun k ok hk hlk hdk=> ?_).symm;rcases(hshape k ok t hk hdk).2 ht with h1|h1
     ·exact hw ⟨k,hdlt k h1,by rw[hk];exact hdk⟩
     ·have:=hl.closed k ok hk hlk i h1;rw[hun]at this;cases this
   have hssz:(putN ops x a0 i).tmps.size=a.tmps.size:=by rw[putN_size,hl.size]
   have hex:execOp (putN ops x a0 i).eval o=execOp a.eval o:=execOp_congr o hsel fun y hy=>by
    cases y with
    |tmp t=>
     have:t∈o.looksAt ops:=List.mem_append_left _ (List.mem_filterMap.2 ⟨.tmp t,by simpa using hy,rfl⟩);have h5:=hlook t this;simpa[Act.eval]using h5
    |_=>rfl
   have hwt:=wanted_of (ops:=ops) (o:=o) hssz hlook
   have hdepF:∀l:List Nat,(∀j∈l,j∈depsOf o)→DepG ops V (fun k=>listed.getD k true) (putN ops x a0 i).tmps (w,γ) l:=by
    intro l
    induction l with
    |nil=>intro _;trivial
    |cons j l ihl=>
     intro hj;refine⟨?_,ihl fun k hk=>hj k (List.mem_cons_of_mem _ hk)⟩;have hjd:=hj j (List.mem_cons_self ..);have hji:=hdlt j hjd;have hoj:ops[j]? =some ops[j]:=Array.getElem?_eq_getElem (by omega);have hd:=hl.done j _ hoj (hdeps j hjd)
     cases hdst:(ops[j]?).bind (·.dst)with
     |none=>trivial
     |some d=>
      show V j (fun k=>listed.getD k true) (w,γ) _;rw[hoj]at hdst;simp only[Option.bind_some]at hdst;rw[putN_self hl.size i d ⟨j,hji,by rw[hoj];exact hdst⟩];exact hd d hdst
   have hst:=steps x i o hoi w γ (fun k=>listed.getD k true) hl.cls hun hdeps hnext (hdepF _ fun _ h=>h);rw[hwt,hex]at hst
   have hset:∀k,(listed.setIfInBounds i true).getD k true=(k==i||listed.getD k true):=by
    intro k;simp only[Array.getD_eq_getD_getElem?,Array.getElem?_setIfInBounds];by_cases e:i=k
    ·subst e;simp[hl.lsize,hio]
    ·rw[if_neg e];simp[Ne.symm e]
   have go:∀v w' γ',C (fun k=>k==i||listed.getD k true) (w',γ')→(∀(k:Nat) ok,ops[k]? =some ok→i∉depsOf ok→i≠k→∀u,V k (fun k=>listed.getD k true) (w,γ) u→V k (fun k=>k==i||listed.getD k true) (w',γ') u)→V i (fun k=>k==i||listed.getD k true) (w',γ') v→wpAny P .any ops Q' fuel (listed.setIfInBounds i true) (a.put o.dst v) w':=by
    intro v w' γ' hC hm hV;apply ih _ _ _ γ'
    ·have:=unlisted_set hl.lsize hio hun;omega
    ·refine⟨?_,by simp[hl.lsize],by rw[put_size];exact hl.size,by rw[put_defers];exact hl.defers,?_,?_,?_⟩
     ·rw[show(fun k=>(listed.setIfInBounds i true).getD k true)=fun k=>k==i||listed.getD k true from funext hset];exact hC
     ·intro k ok hk hlk j hj;rw[hset]at hlk⊢;by_cases e:k=i
      ·subst e;rw[hoi]at hk;cases hk;rw[hdeps j hj];simp
      ·have:listed.getD k true=true:=by simpa[e]using hlk
       rw[hl.closed k ok hk this j hj];simp
     ·intro k ok hk hlk d hdst;rw[show(fun k=>(listed.setIfInBounds i true).getD k true)=fun k=>k==i||listed.getD k true from funext hset];rw[hset]at hlk;by_cases e:k=i
      ·subst e;rw[hoi]at hk;cases hk;rw[hdst,put_get,if_pos ⟨rfl,by rw[hl.size];exact hN k o d hoi hdst⟩];exact hV
      ·have hlk':listed.getD k true=true:=by simpa[e]using hlk
       have hnd:i∉depsOf ok:=fun h=>by have:=hl.closed k ok hk hlk' i h;rw[hun]at this;cases this
       have:=hm k ok hk hnd (Ne.symm e) _ (hl.done k ok hk hlk' d hdst);have hne:=(hshape k ok d hk hdst).1 (Ne.symm e)
       cases hd2:o.dst with
       |none=>exact this
       |some d2=>
        rw[put_get,if_neg]
        ·exact this
        ·rintro⟨rfl,_⟩;exact hne hd2
     ·intro t ht;have h1:=hl.rest t fun k ok hk hlk=>ht k ok hk (by rw[hset,hlk];simp);have h2:=ht i o hoi (by rw[hset];simp);rw[←h1]
      cases hd2:o.dst with
      |none=>rfl
      |some d2=>
       rw[put_get,if_neg];rintro⟨rfl,_⟩;exact h2 hd2
   unfold wpOp;simp only[hoi];split at hst
   ·rename_i hw;rw[if_pos hw];left;unfold Oper.wp;generalize (execOp a.eval o).run P w=r at hst
    cases r with
    |halt h w'=>exact hst.elim
    |ok n w'=>
     cases n with
     |value v=>obtain⟨γ',h1,h2,h3⟩:=hst;exact go v w' γ' h1 (fun k ok hk hnd hne u=>hmono i k ok hk hnd hne _ (w,γ) (w',γ') u hun hl.cls h1 h2) h3
     |skip=>obtain⟨γ',h1,h2,h3⟩:=hst;exact go undef w' γ' h1 (fun k ok hk hnd hne u=>hmono i k ok hk hnd hne _ (w,γ) (w',γ') u hun hl.cls h1 h2) h3
     |enter f args=>
      refine Calls.mono (show Calls P f args w' _ from hst) ?_;rintro e w'' ⟨v,rfl,γ',h1,h2,h3⟩;exact go v w'' γ' h1 (fun k ok hk hnd hne u=>hmono i k ok hk hnd hne _ (w,γ) (w'',γ') u hun hl.cls h1 h2) h3
     |_=>exact(show False from hst).elim
   ·rename_i hw;rw[if_neg hw];exact go undef w γ hst.2.1 (fun k ok hk hnd hne u=>hmono i k ok hk hnd hne _ (w,γ) (w,γ) u hun hl.cls hst.2.1 hst.2.2) hst.1
theorem DepG.get {L:Nat→Bool} {tmps:Array Value} {w:World×Γ} {l:List Nat} (h:DepG ops V L tmps w l) {j:Nat} (hj:l.contains j=true) {d:Tmp} (hd:(ops[j]?).bind (·.dst)=some d):V j L w (tmps.getD d undef):=by
 induction l with
 |nil=>cases hj
 |cons k l ih=>
  by_cases e:j=k
  ·subst e;have:=h.1;rw[hd]at this;exact this
  ·refine ih h.2 ?_;rw[List.contains_cons]at hj;simpa[e]using hj
def FactsG (V:Nat→(Nat→Bool)→World×Γ→Value→Prop) (a0:Act) (L:Nat→Bool) (w:World×Γ) (f:Tmp→Value):List (Tmp×Option Nat)→Prop
 | []=>True
 | (t,some j)::r=>V j L w (f t)∧FactsG V a0 L w f r
 | (t,none)::r=>f t=a0.tmps.getD t undef∧FactsG V a0 L w f r
def StepG2 (P:Program) (V:Nat→(Nat→Bool)→World×Γ→Value→Prop) (C:(Nat→Bool)→World×Γ→Prop) (G:Nat→World×Γ→World×Γ→Prop) (a0:Act) (i:Nat) (o:Oper) (r:Reads):Prop:=
 ∀w (γ:Γ) L (f:Tmp→Value),C L (w,γ)→L i=false→(∀j∈depsOf o,L j=true)→(∀j∈r.next,L j=false)→FactsG V a0 L (w,γ) f r.reads→
  if wantedBy o (f r.guard)=true then relUpon P (fun v w'=>∃γ',C (fun k=>k==i||L k) (w',γ')∧G i (w,γ) (w',γ')∧V i (fun k=>k==i||L k) (w',γ') v) ((execOp (evalOf f) o).run P w)
  else V i (fun k=>k==i||L k) (w,γ) undef∧C (fun k=>k==i||L k) (w,γ)∧G i (w,γ) (w,γ)
def StepAllG (P:Program) (V:Nat→(Nat→Bool)→World×Γ→Value→Prop) (C:(Nat→Bool)→World×Γ→Prop) (G:Nat→World×Γ→World×Γ→Prop) (a0:Act):Nat→List Oper→List Reads→Prop
 |_,[],_=>True
 |i,o::l,rs=>StepG2 P V C G a0 i o (rs.headD ⟨[],0,[]⟩)∧StepAllG P V C G a0 (i+1) l rs.tail
theorem StepAllG.get {a0:Act} (l:List Oper):∀(R:List Reads) (i k:Nat) (o:Oper),StepAllG P V C G a0 i l R→l[k]? =some o→StepG2 P V C G a0 (i+k) o ((R.drop k).headD ⟨[],0,[]⟩):=by
 induction l with
 |nil=>intro R i k o _ hk;simp at hk
 |cons o' l ih=>
  intro R i k o h hk
  cases k with
  |zero=>
   simp at hk;subst hk;exact h.1
  |succ k=>
   have h2:=ih R.tail (i+1) k o h.2 (by simpa using hk);rw[List.drop_tail,Nat.add_assoc,Nat.add_comm 1 k]at h2;exact h2
theorem FactsG.of {L:Nat→Bool} {a0 a:Act} {w:World×Γ} {o:Oper} {i:Nat} (hD:DepG ops V L a.tmps w (depsOf o)) (ha:∀t:Tmp,(∀(j:Nat) (oj:Oper),ops[j]? =some oj→oj.dst=some t→i∈depsOf oj)→a.tmps.getD t undef=a0.tmps.getD t undef):
  ∀l:List (Tmp×Option Nat),(l.all fun p=>match p.2 with
    |some j=>(match ops[j]? with|some oj=>oj.dst==some p.1|none=>false)&&(depsOf o).contains j
    |none=>(List.range ops.size).all fun j=>match ops[j]? with|some oj=>oj.dst !=some p.1|| (depsOf oj).contains i|none=>true)=true→FactsG V a0 L w (fun t=>a.tmps.getD t undef) l:=by
 intro l
 induction l with
 |nil=>intro _;trivial
 |cons p l ih=>
  intro h;rw[List.all_cons,Bool.and_eq_true]at h;obtain⟨t,s⟩:=p
  cases s with
  |some j=>
   simp only[Bool.and_eq_true]at h;refine⟨?_,ih h.2⟩
   cases hj:ops[j]? with
   |none=>rw[hj]at h;exact absurd h.1.1 (by simp)
   |some oj=>
    rw[hj]at h;exact hD.get h.1.2 (by rw[hj];simpa using h.1.1)
  |none=>
   refine⟨ha t fun j oj hj hd=> ?_,ih h.2⟩;have h3:=List.all_eq_true.1 h.1 j (List.mem_range.2 (Array.getElem?_eq_some_iff.1 hj).1);simp only[hj,hd,bne_self_eq_false,Bool.false_or]at h3;exact List.contains_iff_mem.1 h3
theorem StepG1.of {a0:Act} {R:List Reads} (hok:lexOk ops=true) (htab:tabOkL ops R=true) (hall:StepAllG P V C G a0 0 ops.toList R) (x:Nat→Value) (i:Nat) (o:Oper) (hi:ops[i]? =some o):
  StepG1 P ops V C G i o (putN ops x a0 i):=by
 intro w γ L hC hL hd hn hD;have hilt:=(Array.getElem?_eq_some_iff.1 hi).1;have ht:=List.all_eq_true.1 htab i (List.mem_range.2 hilt);simp only[hi,Bool.and_eq_true]at ht;have h2:=StepAllG.get ops.toList R 0 i o hall (by simpa using hi);rw[Nat.zero_add]at h2;generalize (R.drop i).headD ⟨[],0,[]⟩=r at ht h2;have hnx:∀j∈r.next,L j=false:=fun j hj=>hn j (List.all_eq_true.1 ht.2 j hj)
 have hf:=FactsG.of (a0:=a0) (a:=putN ops x a0 i) hD (fun t h=>putN_other x a0 i t fun j hj hjd=>by
  cases hoj:ops[j]? with
  |none=>rw[hoj]at hjd;cases hjd
  |some oj=>
   rw[hoj]at hjd;have:=(lexOk_spec hok hoj).1 i (h j oj hoj hjd)
   omega) r.reads ht.1.1
 have h3:=h2 w γ L (fun t=>(putN ops x a0 i).tmps.getD t undef) hC hL hd hnx hf;rw[evalOf_tmps]at h3
 have hw:Region.wanted o (yielded ops (putN ops x a0 i).tmps)=wantedBy o ((putN ops x a0 i).tmps.getD r.guard undef):=by
  unfold Region.wanted wantedBy
  cases hg:o.guard with
  |none=>rfl
  |some g=>
   obtain⟨j,want⟩:=g;have h4:=ht.1.2;rw[hg]at h4;simp only at h4⊢
   cases hoj:ops[j]? with
   |none=>rw[hoj]at h4;exact absurd h4 (by simp)
   |some oj=>
    rw[hoj]at h4
    have hdst:oj.dst=some r.guard:=by simpa using h4
    unfold yielded;simp only[hoj,Option.bind_some,hdst];rw[Array.getD_eq_getD_getElem?]
    cases (putN ops x a0 i).tmps[r.guard]? with
    |none=>rfl
    |some v=>cases v<;>rfl
 rw[hw];exact h3
def AllKeptG (C:(Nat→Bool)→World×Γ→Prop) (G:Nat→World×Γ→World×Γ→Prop):Nat→List ((Nat→Bool)→World×Γ→Value→Prop)→List Reads→Prop
 |_,[],_=>True
 |j,f::r,rs=>(∀i,i≠j→((rs.headD ⟨[],0,[]⟩).reads.all fun p=>p.2 !=some i)=true→∀L w w' v,L i=false→C L w→C (fun k=>k==i||L k) w'→G i w w'→f L w v→f (fun k=>k==i||L k) w' v)∧AllKeptG C G (j+1) r rs.tail
theorem AllKeptG.get:∀(l:List ((Nat→Bool)→World×Γ→Value→Prop)) (R:List Reads) (n:Nat),AllKeptG C G n l R→∀i j,i≠n+j→(((R.drop j).headD ⟨[],0,[]⟩).reads.all fun p=>p.2 !=some i)=true→∀L w w' v,L i=false→C L w→C (fun k=>k==i||L k) w'→G i w w'→(l.getD j fun _ _ _=>True) L w v→(l.getD j fun _ _ _=>True) (fun k=>k==i||L k) w' v
 | [],_,_,_,_,_,_,_=>by intro L w w' v _ _ _ _ _;exact trivial
 |f::r,R,n,h,i,0,hne,hr=>h.1 i hne hr
 |f::r,R,n,h,i,j+1,hne,hr=>AllKeptG.get r R.tail (n+1) h.2 i j (by omega) (by rw[List.drop_tail];exact hr)
theorem reads_depsG {R:List Reads} (htab:tabOkL ops R=true) {j:Nat} {oj:Oper} (hj:ops[j]? =some oj) {i:Nat} (hi:i∉depsOf oj):(((R.drop j).headD ⟨[],0,[]⟩).reads.all fun p=>p.2 !=some i)=true:=by
 have ht:=List.all_eq_true.1 htab j (List.mem_range.2 (Array.getElem?_eq_some_iff.1 hj).1);simp only[hj,Bool.and_eq_true]at ht;rw[List.all_eq_true];intro p hp;have h1:=List.all_eq_true.1 ht.1.1 p hp;obtain⟨t,s⟩:=p
 cases s with
 |none=>rfl
 |some k=>
  simp only[Bool.and_eq_true]at h1;have h2:=List.contains_iff_mem.1 h1.2;simp only[bne_iff_ne,ne_eq,Option.some.injEq];rintro rfl;exact hi h2
theorem wp_region_tabG {id:Nat} {a0:Act} {w:World} {Q':Exit→Act→World→Prop} (Vs:List ((Nat→Bool)→World×Γ→Value→Prop)) (R:List Reads) (D:List (Option Nat)) (C:(Nat→Bool)→World×Γ→Prop) (G:Nat→World×Γ→World×Γ→Prop)
  (hm:P.follows .mixedOrders=true) (hok:lexOk ops=true) (htab:tabOkL ops R=true) (hfr:framedOk ops D a0.tmps.size=true) (hN:dstIn ops a0.tmps.size=true) (hmono:AllKeptG C G 0 Vs R)
  (γ0:Γ) (h0:C (fun k=> !decide (k<ops.size)) ({w with drawn:=w.drawn+1},γ0))
  (each:StepAllG P (fun i=>Vs.getD i fun _ _ _=>True) C G a0 0 ops.toList R)
  (fin:∀(x:Nat→Value) w' γ,C (fun _=>true) (w',γ)→(∀k o,ops[k]? =some o→o.dst.isSome=true→(Vs.getD k fun _ _ _=>True) (fun _=>true) (w',γ) (x k))→Q' .normal ⟨(framed x D a0.tmps.toList).toArray,a0.defers⟩ w'):
  (Code.region id ops true).wp P Q' a0 w:=by
 refine wp_region_any hm (wpAny_lexG (V:=fun i=>Vs.getD i fun _ _ _=>True) (C:=C) (G:=G) (a0:=a0) hok ?_ (fun i j oj hj hi hne=>AllKeptG.get Vs R 0 hmono i j (by omega) (reads_depsG htab hj hi)) (fun x i o hi=>StepG1.of hok htab each x i o hi) ?_ ops.size _ a0 _ γ0 ?_ ?_)
 ·intro i o d hi hd;have:=List.all_eq_true.1 hN o (by simpa using Array.mem_of_getElem? hi);rw[hd]at this;simpa using this
 ·intro x w hC hV;rw[putN_framed hok hfr];exact fin x w.1 w.2 hC hV
 ·unfold unlisted;rw[List.filter_eq_self.2]
  ·simp
  ·intro i hi;have:=List.mem_range.1 hi;simp[this]
 ·refine⟨?_,by simp,rfl,rfl,?_,?_,fun _ _=>rfl⟩
  ·rw[show(fun k=>(Array.replicate ops.size false).getD k true)=fun k=> !decide (k<ops.size)from funext fun k=>by
    rw[Array.getD_eq_getD_getElem?,Array.getElem?_replicate]
    by_cases h:k<ops.size<;>simp[h]]
   exact h0
  ·intro i o hi hl;have:=(Array.getElem?_eq_some_iff.1 hi).1;simp[this]at hl
  ·intro i o hi hl;have:=(Array.getElem?_eq_some_iff.1 hi).1;simp[this]at hl
theorem StepG2.dead {b:Bool} {X A B D:Prop} (hb:b=false) (h1:B) (h2:A) (h3:D):if b=true then X else A∧B∧D:=by subst hb;exact⟨h2,h1,h3⟩
theorem relUpon_ghost (γ':Γ) {A B:World×Γ→Prop} {D:World×Γ→Value→Prop} {r:Result Next} (h:relUpon P (fun v w'=>A (w',γ')∧B (w',γ')∧D (w',γ') v) r):relUpon P (fun v w'=>∃γ,A (w',γ)∧B (w',γ)∧D (w',γ) v) r:=by
 cases r with
 |halt h' w'=>exact h
 |ok n w'=>
  cases n with
  |value v=>exact⟨γ',h⟩
  |skip=>exact⟨γ',h⟩
  |enter f args=>exact Calls.mono h fun e w'' ⟨v,he,h'⟩=>⟨v,he,γ',h'⟩
  |_=>exact h
end
end
end Go.Proofs.YtpndglghpojjkaaGreat
namespace Go.Proofs.YtpndglghpojjkaaGreat
open Go.RowKit Go.Deep
structure Zs where
 h:Hd
 pe:Option Addr
 pf:Option Addr
 pc:Option Addr
 Aa:Option Addr
 na:Nat
 ca:Nat
 At:Option Addr
 nt:Nat
 ct:Nat
 Al:Option Addr
 nl:Nat
 cl:Nat
def Zs.cells (z:Zs):Array Value:=stC z.h z.pe z.pf z.pc z.Aa z.At z.Al z.na z.ca z.nt z.ct z.nl z.cl
def subT (K:List UInt8→Nat) (h:Hd) (t:Sl):Sl:=if turned K h then .nil else t
def Fre (S:Nat→Prop) (γ:Option Nat) (x:Nat):Prop:=S x∧γ≠some x
def OkZ (S:Nat→Prop) (K:List UInt8→Nat) (h:Hd) (t e:Sl) (z:Zs) (w:World) (γ:Option Nat):Prop:=(stmtR K h).2=true→z.h=(stmtR K h).1∧HdAt w (Fre S γ) z.h (.pointer z.pe) (.pointer z.pf) (.pointer z.pc) (.slice z.Aa z.na z.ca)∧SlAt w (Fre S γ) (subT K h t) (.slice z.At z.nt z.ct)∧SlAt w (Fre S γ) (subT K h e) (.slice z.Al z.nl z.cl)
section
variable {S:Nat→Prop} {K:List UInt8→Nat} {h:Hd} {t e:Sl} {z:Zs} {w w':World} {γ:Option Nat}
theorem OkZ.keep (H:OkZ S K h t e z w γ) (hk:∀x,x<w.heap.size→Fre S γ x→w'.heap[x]? =w.heap[x]?):OkZ S K h t e z w' γ:=fun hs=>by
 obtain⟨a,b,c,d⟩:=H hs;exact⟨a,b.keep hk,c.keep hk,d.keep hk⟩
theorem OkZ.below (H:OkZ S K h t e z w γ) (hb:Below w.heap.size w w'):OkZ S K h t e z w' γ:=H.keep fun x hx _=>hb.block x hx
theorem OkZ.alloc (H:OkZ S K h t e z w none) (o:Obj):OkZ S K h t e z (w.alloc o) (some w.heap.size):=fun hs=>by
 obtain⟨a,b,c,d⟩:=H hs;have hk:∀x,x<w.heap.size→Fre S none x→Fre S (some w.heap.size) x:=fun x hx hS=>⟨hS.1,fun e=>by simp at e;omega⟩;have hb:=below_new w o;exact⟨a,(b.mono hk).keep fun x hx _=>hb.block x hx,(c.mono hk).keep fun x hx _=>hb.block x hx,(d.mono hk).keep fun x hx _=>hb.block x hx⟩
end
theorem relUpon_callG {Γ:Type} {P:Program} {A B:World×Γ→Prop} {D:World×Γ→Value→Prop} {r:Result Next} {f:FuncId} {args:Array Value} {w:World} {R:Ending→World→Prop} (hr:r= .ok (.enter f args) w) (hc:Calls P f args w R)
  (h:∀e w',R e w'→∃γ v,e= .returned v∧A (w',γ)∧B (w',γ)∧D (w',γ) v):relUpon P (fun v w'=>∃γ,A (w',γ)∧B (w',γ)∧D (w',γ) v) r:=by
 subst hr
 exact hc.mono fun e w' h'=>by obtain⟨γ,v,he,x⟩:=h e w' h';exact⟨v,he,γ,x⟩
abbrev Gz:=Option Nat×Option Zs
def GSt (i:Nat) (W W':World×Gz):Prop:=(i≠9→W'.2.1=W.2.1)∧(i≠5→W'.2.2=W.2.2)
structure CSt (S:Nat→Prop) (K:List UInt8→Nat) (h:Hd) (t e:Sl) (wW:World) (L:Nat→Bool) (W:World×Gz):Prop where
 bel:Below wW.heap.size wW W.1
 no:L 9=false→W.2.1=none
 made:L 9=true→∃g,W.2.1=some g∧wW.heap.size≤g∧g<W.1.heap.size∧(L 10=false→Holds W.1 g 63 zeroS)
 cl:L 5=true→∃z,W.2.2=some z∧OkZ S K h t e z W.1 W.2.1
 st:L 10=true→∃g z,W.2.1=some g∧W.2.2=some z∧Holds W.1 g 63 z.cells
 ord:L 10=true→L 9=true∧L 5=true
section
variable {S:Nat→Prop} {K:List UInt8→Nat} {h:Hd} {t e:Sl} {wW w w':World} {γ:Gz} {L:Nat→Bool} {i:Nat}
theorem CSt.start (hb:Below wW.heap.size wW w) (h9:L 9=false) (h10:L 10=false) (h5:L 5=false):CSt S K h t e wW L (w,(none,none)):=
 ⟨hb,fun _=>rfl,fun e=>by simp[h9]at e,fun e=>by simp[h5]at e,fun e=>by simp[h10]at e,fun e=>by simp[h10]at e⟩
theorem CSt.other (H:CSt S K h t e wW L (w,γ)) (h5:i≠5) (h9:i≠9) (h10:i≠10) (hb:Below w.heap.size w w'):CSt S K h t e wW (fun k=>k==i||L k) (w',γ):=by
 have e5:(5==i)=false:=by simpa using h5.symm
 have e9:(9==i)=false:=by simpa using h9.symm
 have e10:(10==i)=false:=by simpa using h10.symm
 refine⟨H.bel.trans (hb.mono H.bel.size),fun q=>H.no (by simpa[e9]using q),fun q=> ?_,fun q=> ?_,fun q=> ?_,fun q=> ?_⟩
 ·obtain⟨g,a,b,c,d⟩:=H.made (by simpa[e9]using q);exact⟨g,a,b,Nat.lt_of_lt_of_le c hb.size,fun q=>(d (by simpa[e10]using q)).below hb c⟩
 ·obtain⟨z,a,b⟩:=H.cl (by simpa[e5]using q);exact⟨z,a,b.below hb⟩
 ·obtain⟨g,z,a,b,c⟩:=H.st (by simpa[e10]using q);exact⟨g,z,a,b,c.below hb c.lt⟩
 ·have:=H.ord (by simpa[e10]using q);simp[this.1,this.2]
theorem CSt.alloc (H:CSt S K h t e wW L (w,γ)) (h9:L 9=false):CSt S K h t e wW (fun k=>k==9||L k) (w.alloc (.cells zeroS 63),(some w.heap.size,γ.2)):=by
 have hb:=below_new w (.cells zeroS 63)
 have h10:L 10=false:=by
  cases q:L 10 with
  |false=>rfl
  |true=>rw[(H.ord q).1]at h9;cases h9
 have hn:γ.1=none:=H.no h9;refine⟨H.bel.trans (hb.mono H.bel.size),fun q=>by simp at q,fun _=>⟨_,rfl,H.bel.size,by simp,fun _=>Holds.new w _ _⟩,fun q=> ?_,fun q=>by simp[h10]at q,fun q=>by simp[h10]at q⟩;obtain⟨z,a,b⟩:=H.cl (by simpa using q);refine⟨z,a,?_⟩;simp only at b;rw[hn]at b;exact b.alloc _
theorem CSt.call (H:CSt S K h t e wW L (w,γ)) (h10:L 10=false) (z:Zs) (hb:Below w.heap.size w w') (hz:OkZ S K h t e z w' γ.1):CSt S K h t e wW (fun k=>k==5||L k) (w',(γ.1,some z)):=by
 refine⟨H.bel.trans (hb.mono H.bel.size),fun q=>H.no (by simpa using q),fun q=> ?_,fun _=>⟨z,rfl,hz⟩,fun q=>by simp[h10]at q,fun q=>by simp[h10]at q⟩;obtain⟨g,a,b,c,d⟩:=H.made (by simpa using q);exact⟨g,a,b,Nat.lt_of_lt_of_le c hb.size,fun q=>(d (by simpa using q)).below hb c⟩
theorem CSt.stored (H:CSt S K h t e wW L (w,γ)) (h10:L 10=false) (h9:L 9=true) (h5:L 5=true) {g:Nat} (hg:γ.1=some g) {z:Zs} (hz:γ.2=some z):
  CSt S K h t e wW (fun k=>k==10||L k) (put10 w g (.int .i64 z.h.k) (.string (strV z.h.x)) (.string (strV z.h.y)) (.pointer z.pe) (.pointer z.pf) (.pointer z.pc) (.slice z.Aa z.na z.ca) (.slice z.At z.nt z.ct) (.slice z.Al z.nl z.cl) (.int .i64 z.h.at_),γ):=by
 have hW:=put10_writes w g (.int .i64 z.h.k) (.string (strV z.h.x)) (.string (strV z.h.y)) (.pointer z.pe) (.pointer z.pf) (.pointer z.pc) (.slice z.Aa z.na z.ca) (.slice z.At z.nt z.ct) (.slice z.Al z.nl z.cl) (.int .i64 z.h.at_);obtain⟨g',a,b,c,d⟩:=H.made h9;obtain rfl:g=g':=Option.some.inj (hg.symm.trans a);obtain⟨z',a2,b2⟩:=H.cl h5;obtain rfl:z=z':=Option.some.inj (hz.symm.trans a2);refine⟨H.bel.trans (hW.below H.bel.size fun k hk=>by simp at hk;omega),fun q=>by simp[h9]at q,fun _=>⟨g,hg,b,Nat.lt_of_lt_of_le c hW.size,fun q=>by simp at q⟩,fun _=>⟨z,hz,b2.keep fun x hx hS=>hW.block x hx (by simp;exact fun e=>hS.2 (by subst e;exact hg))⟩,fun _=>⟨g,z,hg,hz,put10_holds (d h10) _ _ _ _ _ _ _ _ _ _⟩,fun _=>by simp[h9,h5]⟩
end
theorem ExAt.drawn {w:World} {S:Nat→Prop} {e:Ex} {v:Value} (h:ExAt w S e v) (n:Nat):ExAt (w.drewN n) S e v:=ExAt.keep (w:=w) (w':=w.drewN n) (fun _ _ _=>rfl) h
theorem CnAt.drawn {w:World} {S:Nat→Prop} {e:Cn} {v:Value} (h:CnAt w S e v) (n:Nat):CnAt (w.drewN n) S e v:=CnAt.keep (w:=w) (w':=w.drewN n) (fun _ _ _=>rfl) h
end Go.Proofs.YtpndglghpojjkaaGreat
namespace Go.Proofs
open Go.Shelf
def Tryz.keysB_ren:Go.Shelf.Ren:=⟨fun|7=>109|10=>155|n=>n,fun|23=>108|26=>9|3=>176|28=>174|0=>0|27=>173|33=>73|4=>4|n=>n,fun|n=>n⟩
theorem Tryz.keysB:Go.Proofs.SlLaysZ.n7 Tryz.prog Tryz.keysB_ren:={
 mixed:=by kernel_rfl
 f7:=⟨Tryz.f109.name,by decide,Tryz.func109.trans (congrArg some (by kernel_rfl))⟩
 f10:=⟨Tryz.f155.name,by decide,Tryz.func155.trans (congrArg some (by kernel_rfl))⟩
 t0:=Tryz.underlying0
 a0:=Tryz.isAgg0
 z0:=Tryz.sizeOf0
 v0:=Tryz.zeroValue0
 t4:=Tryz.underlying4
 a4:=Tryz.isAgg4
 z4:=Tryz.sizeOf4
 v4:=Tryz.zeroValue4
 t23:=Tryz.underlying108
 a23:=Tryz.isAgg108
 z23:=Tryz.sizeOf108
 v23:=Tryz.zeroValue108
 t26:=Tryz.underlying9
 a26:=Tryz.isAgg9
 z26:=Tryz.sizeOf9
 v26:=Tryz.zeroValue9
 t27:=Tryz.underlying173
 a27:=Tryz.isAgg173
 z27:=Tryz.sizeOf173
 v27:=Tryz.zeroValue173
 t28:=Tryz.underlying174
 a28:=Tryz.isAgg174
 z28:=Tryz.sizeOf174
 v28:=Tryz.zeroValue174
 t33:=Tryz.underlying73
 a33:=Tryz.isAgg73
 z33:=Tryz.sizeOf73
 v33:=Tryz.zeroValue73}
def Tryz.sortedB_ren:Go.Shelf.Ren:=⟨fun|6=>108|8=>154|9=>83|11=>179|13=>137|12=>136|23=>177|24=>178|14=>168|15=>169|16=>170|17=>171|18=>172|19=>173|20=>174|21=>175|22=>176|25=>193|26=>194|27=>195|28=>196|29=>197|30=>198|31=>202|n=>n,fun|26=>9|28=>174|24=>35|0=>0|3=>3|37=>203|48=>234|50=>144|4=>4|40=>228|39=>227|45=>177|5=>5|9=>9|51=>246|55=>250|57=>254|58=>255|33=>73|n=>n,fun|n=>n⟩
theorem Tryz.sortedB:Go.Proofs.SlLaysZ.n6 Tryz.prog Tryz.sortedB_ren:={
 mixed:=by kernel_rfl
 f6:=⟨Tryz.f108.name,by decide,Tryz.func108.trans (congrArg some (by kernel_rfl))⟩
 f8:=⟨Tryz.f154.name,by decide,Tryz.func154.trans (congrArg some (by kernel_rfl))⟩
 f11:=⟨Tryz.f179.name,by decide,Tryz.func179.trans (congrArg some (by kernel_rfl))⟩
 t0:=Tryz.underlying0
 a0:=Tryz.isAgg0
 z0:=Tryz.sizeOf0
 v0:=Tryz.zeroValue0
 t24:=Tryz.underlying35
 a24:=Tryz.isAgg35
 z24:=Tryz.sizeOf35
 v24:=Tryz.zeroValue35
 t26:=Tryz.underlying9
 a26:=Tryz.isAgg9
 z26:=Tryz.sizeOf9
 v26:=Tryz.zeroValue9
 t28:=Tryz.underlying174
 a28:=Tryz.isAgg174
 z28:=Tryz.sizeOf174
 v28:=Tryz.zeroValue174
 i26:=by kernel_rfl}
def Tryz.sortB_ren:Go.Shelf.Ren:=⟨fun|6=>83|8=>137|9=>136|19=>177|20=>178|21=>168|22=>169|23=>170|24=>171|25=>172|26=>173|27=>174|28=>175|29=>176|36=>193|31=>194|32=>195|37=>196|38=>197|39=>198|41=>202|n=>n,fun|27=>35|29=>9|3=>3|32=>203|26=>35|0=>0|44=>234|46=>144|4=>4|36=>228|35=>227|41=>177|5=>5|9=>9|53=>246|57=>250|63=>254|64=>255|n=>n,fun|n=>n⟩
theorem Tryz.sortB:Go.Proofs.SlLaysM.n6 Tryz.prog Tryz.sortB_ren:={
 mixed:=by kernel_rfl
 f6:=⟨Tryz.f83.name,by decide,Tryz.func83.trans (congrArg some (by kernel_rfl))⟩
 f8:=Tryz.func137.trans (congrArg some (by kernel_rfl))
 f9:=⟨Tryz.f136.name,by decide,Tryz.func136.trans (congrArg some (by kernel_rfl))⟩
 f19:=Tryz.func177.trans (congrArg some (by kernel_rfl))
 f20:=Tryz.func178.trans (congrArg some (by kernel_rfl))
 f21:=⟨Tryz.f168.name,by decide,Tryz.func168.trans (congrArg some (by kernel_rfl))⟩
 f22:=⟨Tryz.f169.name,by decide,Tryz.func169.trans (congrArg some (by kernel_rfl))⟩
 f23:=⟨Tryz.f170.name,by decide,Tryz.func170.trans (congrArg some (by kernel_rfl))⟩
 f24:=⟨Tryz.f171.name,by decide,Tryz.func171.trans (congrArg some (by kernel_rfl))⟩
 f25:=⟨Tryz.f172.name,by decide,Tryz.func172.trans (congrArg some (by kernel_rfl))⟩
 f26:=⟨Tryz.f173.name,by decide,Tryz.func173.trans (congrArg some (by kernel_rfl))⟩
 f27:=⟨Tryz.f174.name,by decide,Tryz.func174.trans (congrArg some (by kernel_rfl))⟩
 f28:=⟨Tryz.f175.name,by decide,Tryz.func175.trans (congrArg some (by kernel_rfl))⟩
 f29:=⟨Tryz.f176.name,by decide,Tryz.func176.trans (congrArg some (by kernel_rfl))⟩
 f31:=Tryz.func194.trans (congrArg some (by kernel_rfl))
 f32:=Tryz.func195.trans (congrArg some (by kernel_rfl))
 f36:=⟨Tryz.f193.name,by decide,Tryz.func193.trans (congrArg some (by kernel_rfl))⟩
 f37:=⟨Tryz.f196.name,by decide,Tryz.func196.trans (congrArg some (by kernel_rfl))⟩
 f38:=⟨Tryz.f197.name,by decide,Tryz.func197.trans (congrArg some (by kernel_rfl))⟩
 f39:=⟨Tryz.f198.name,by decide,Tryz.func198.trans (congrArg some (by kernel_rfl))⟩
 f41:=⟨Tryz.f202.name,by decide,Tryz.func202.trans (congrArg some (by kernel_rfl))⟩
 t0:=Tryz.underlying0
 a0:=Tryz.isAgg0
 z0:=Tryz.sizeOf0
 v0:=Tryz.zeroValue0
 t3:=Tryz.underlying3
 a3:=Tryz.isAgg3
 z3:=Tryz.sizeOf3
 v3:=Tryz.zeroValue3
 t4:=Tryz.underlying4
 a4:=Tryz.isAgg4
 z4:=Tryz.sizeOf4
 v4:=Tryz.zeroValue4
 t5:=Tryz.underlying5
 a5:=Tryz.isAgg5
 z5:=Tryz.sizeOf5
 v5:=Tryz.zeroValue5
 t9:=Tryz.underlying9
 a9:=Tryz.isAgg9
 z9:=Tryz.sizeOf9
 v9:=Tryz.zeroValue9
 t26:=Tryz.underlying35
 a26:=Tryz.isAgg35
 z26:=Tryz.sizeOf35
 v26:=Tryz.zeroValue35
 t27:=Tryz.underlying35
 a27:=Tryz.isAgg35
 z27:=Tryz.sizeOf35
 v27:=Tryz.zeroValue35
 t29:=Tryz.underlying9
 a29:=Tryz.isAgg9
 z29:=Tryz.sizeOf9
 v29:=Tryz.zeroValue9
 t32:=Tryz.underlying203
 a32:=Tryz.isAgg203
 z32:=Tryz.sizeOf203
 v32:=Tryz.zeroValue203
 t35:=Tryz.underlying227
 a35:=Tryz.isAgg227
 z35:=Tryz.sizeOf227
 v35:=Tryz.zeroValue227
 t36:=Tryz.underlying228
 a36:=Tryz.isAgg228
 z36:=Tryz.sizeOf228
 v36:=Tryz.zeroValue228
 t41:=Tryz.underlying177
 a41:=Tryz.isAgg177
 z41:=Tryz.sizeOf177
 v41:=Tryz.zeroValue177
 t44:=Tryz.underlying234
 a44:=Tryz.isAgg234
 z44:=Tryz.sizeOf234
 v44:=Tryz.zeroValue234
 t46:=Tryz.underlying144
 a46:=Tryz.isAgg144
 z46:=Tryz.sizeOf144
 v46:=Tryz.zeroValue144
 t53:=Tryz.underlying246
 a53:=Tryz.isAgg246
 z53:=Tryz.sizeOf246
 v53:=Tryz.zeroValue246
 t57:=Tryz.underlying250
 a57:=Tryz.isAgg250
 z57:=Tryz.sizeOf250
 v57:=Tryz.zeroValue250
 t63:=Tryz.underlying254
 a63:=Tryz.isAgg254
 z63:=Tryz.sizeOf254
 v63:=Tryz.zeroValue254
 t64:=Tryz.underlying255
 a64:=Tryz.isAgg255
 z64:=Tryz.sizeOf255
 v64:=Tryz.zeroValue255}
end Go.Proofs
namespace Go.Proofs.YtpndglghpojjkaaGreat
open Go.RowKit Go.Maps Go.Sort Go.Shelf
theorem strV_list (x:List UInt8):(strV x).data.toList=x:=by simp[strV]
theorem SaysS.has {D:DataW Value} {f:ByteArray→Option Value} (h:SaysS D f) (x:List UInt8):Maps.has D (.string x)=true↔f (strV x)≠none:=by
 have:=h (strV x);unfold keyS at this;rw[strV_list]at this
 cases hf:f (strV x)with
 |none=>rw[hf]at this;simp only at this;rw[this];simp
 |some v=>rw[hf]at this;simp only at this;rw[this.1];simp
def setF (s:List S):ByteArray→Option Value:=fun k=>if k.data.toList∈s then some (.agg #[])else none
end Go.Proofs.YtpndglghpojjkaaGreat
