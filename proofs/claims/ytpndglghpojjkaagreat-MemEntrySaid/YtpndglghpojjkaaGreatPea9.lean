/-
  4 texts of the proof, in one file: no condition.
-/
import Derived.Test.YtpndglghpojjkaaGreatPea8
set_option maxRecDepth 1000000
set_option maxHeartbeats 8000000
namespace Go.Proofs.YtpndglghpojjkaaGreat
open Go.RowKit Go.Deep
def atB_ (s:ByteArray):ByteArray:=⟨#[64]⟩++s
theorem refEntry_any (w0:World) (nm:List UInt8) (ps ls:List Vr) (A1 A2 A3:Option Addr) (d1 d2 n3 c3:Nat) (h1:VrAt w0 Evr ps (.slice A1 ps.length d1)) (h2:VrAt w0 Evr ls (.slice A2 ls.length d2)) (cs:List S) (Agc Aa:Option Addr) (cc na ca:Nat)
  (hc:Row w0 w0.heap.size Agc (cs.map encStr)) (hcc:cs.length≤cc) (hnP:ps.length≤7) (hnL:ls.length≤6) (hnC:cs.length≤3) (hcl:∀c∈cs,c.length≤100):
  Calls Tryz.prog 26 #[.agg (fnC nm A1 A2 A3 ps.length d1 ls.length d2 n3 c3),.agg #[.slice Agc cs.length cc,.slice Aa na ca]] w0 (REntPost w0 ps ls cs):=by
 obtain⟨A1',c1',e1,-,-,hr1,-⟩:=h1;injection e1 with e1 e1' e1'';subst e1 e1'';obtain⟨A2',c2',e2,-,-,hr2,-⟩:=h2;injection e2 with e2 e2' e2'';subst e2 e2'';obtain⟨n1,hn1⟩:∃y,y=ps.length:=⟨_,rfl⟩;obtain⟨n2,hn2⟩:∃y,y=ls.length:=⟨_,rfl⟩;obtain⟨nc,hnc⟩:∃y,y=cs.length:=⟨_,rfl⟩;rw[←hn1]at hnP;rw[←hn2]at hnL;rw[←hnc]at hnC hcc;rw[←hn1,←hn2,←hnc];have hcl:=zi hcl;obtain⟨Wa,hWa⟩:∃y,y=w0.alloc (.cells (fnC nm A1 A2 A3 n1 d1 n2 d2 n3 c3) 26):=⟨_,rfl⟩;obtain⟨Wb,hWb⟩:∃y,y=Wa.alloc (.cells #[.slice Agc nc cc,.slice Aa na ca] 48):=⟨_,rfl⟩;obtain⟨Wc,hWc⟩:∃y,y=Wb.alloc (.cells #[.bool false,.slice none 0 0,.slice none 0 0] 56):=⟨_,rfl⟩;obtain⟨W1,hW1⟩:∃y,y=Wc.alloc (.cells #[.bool true,.slice none 0 0,.slice none 0 0] 56):=⟨_,rfl⟩
 have ka:Below w0.heap.size w0 Wa:=by rw[hWa];exact below_new _ _
 have kb:Below Wa.heap.size Wa Wb:=by rw[hWb];exact below_new _ _
 have kc:Below Wb.heap.size Wb Wc:=by rw[hWc];exact below_new _ _
 have kd:Below Wc.heap.size Wc W1:=by rw[hW1];exact below_new _ _
 have za:Wa.heap.size=w0.heap.size+1:=by rw[hWa];simp
 have zb:Wb.heap.size=Wa.heap.size+1:=by rw[hWb];simp
 have zc:Wc.heap.size=Wb.heap.size+1:=by rw[hWc];simp
 have zd:W1.heap.size=Wc.heap.size+1:=by rw[hW1];simp
 have hHf:Holds W1 w0.heap.size 26 (fnC nm A1 A2 A3 n1 d1 n2 d2 n3 c3):=by have h:=Holds.new w0 26 (fnC nm A1 A2 A3 n1 d1 n2 d2 n3 c3);rw[←hWa]at h;have h:=h.below kb h.lt;have h:=h.below kc h.lt;exact h.below kd h.lt
 have hHg:Holds W1 Wa.heap.size 48 #[.slice Agc nc cc,.slice Aa na ca]:=by have h:=Holds.new Wa 48 #[.slice Agc nc cc,.slice Aa na ca];rw[←hWb]at h;have h:=h.below kc h.lt;exact h.below kd h.lt
 have hHr:Holds W1 Wb.heap.size 56 #[.bool false,.slice none 0 0,.slice none 0 0]:=by have h:=Holds.new Wb 56 #[.bool false,.slice none 0 0,.slice none 0 0];rw[←hWc]at h;exact h.below kd h.lt
 have hHm:Holds W1 Wc.heap.size 56 #[.bool true,.slice none 0 0,.slice none 0 0]:=by rw[hW1];exact Holds.new _ _ _
 have hb1:Below w0.heap.size w0 W1:=((ka.trans (kb.mono (by omega))).trans (kc.mono (by omega))).trans (kd.mono (by omega));obtain⟨gf,hgf⟩:∃y,y=w0.heap.size:=⟨_,rfl⟩;obtain⟨gg,hgg⟩:∃y,y=Wa.heap.size:=⟨_,rfl⟩;obtain⟨gr,hgr⟩:∃y,y=Wb.heap.size:=⟨_,rfl⟩;obtain⟨gm,hgm⟩:∃y,y=Wc.heap.size:=⟨_,rfl⟩;rw[←hgf]at hHf;rw[←hgg]at hHg;rw[←hgr]at hHr;rw[←hgm]at hHm;obtain⟨B,hB⟩:∃y,y=W1.heap.size:=⟨_,rfl⟩;have hr1:=zi hr1;have hr2:=zi hr2;have hc1:=zi hc;have hgmB:Hid (gm<B):=zi (by omega);have hg0:Hid (w0.heap.size≤gm∧w0.heap.size≤gr∧gr≠gm∧gf+1=gg∧gg+1=gr∧gr+1=gm):=zi (by omega);have hkeep:Hid (∀w',Writes [some gm] W1 w'→∀x,x<w0.heap.size→w'.heap[x]? =w0.heap[x]?):=zi fun w' hw x hx=>(hw.block x (Nat.lt_of_lt_of_le hx hb1.size) (by simp;omega)).trans (hb1.block x hx)
 have hFf:Hid (∀w',Writes [some gm] W1 w'→Holds w' gf 26 (fnC nm A1 A2 A3 n1 d1 n2 d2 n3 c3)∧Holds w' gg 48 #[.slice Agc nc cc,.slice Aa na ca]∧Holds w' gr 56 #[.bool false,.slice none 0 0,.slice none 0 0]∧B≤w'.heap.size):=zi fun w' hb=>
  ⟨hb.holds hHf (by simp;omega),hb.holds hHg (by simp;omega),hb.holds hHr (by simp;omega),by rw[hB];exact hb.size⟩
 have hE0:Hid (ES W1 B gm [] [] none 0 none 0 [] W1):=zi ⟨hHm,World.ownsRow_nil _ _ _ _,World.ownsRow_nil _ _ _ _,trivial,Writes.refl _ _⟩;have hb1:=zi hb1;have hB':=zi hB;have hn1':=zi hn1;have hn2':=zi hn2;have hcn:Hid (cs.length=nc):=zi hnc.symm;have hfo:Hid ((((w0.alloc (.cells (fnC nm A1 A2 A3 n1 d1 n2 d2 n3 c3) 26)).alloc (.cells #[.slice Agc nc cc,.slice Aa na ca] 48)).alloc (.cells #[.bool false,.slice none 0 0,.slice none 0 0] 56)).alloc (.cells #[.bool true,.slice none 0 0,.slice none 0 0] 56)=W1):=zi (by rw[hW1,hWc,hWb,hWa]);have hgf':=zi hgf.symm;have hgg':Hid (gf+1=gg):=zi (by omega);have hgr':Hid (gg+1=gr):=zi (by omega);have hgm':Hid (gr+1=gm):=zi (by omega);clear hc hHf hHg hHr hHm hB hn1 hn2 hnc hgf hgg hgr hgm hW1 hWa hWb hWc ka kb kc kd za zb zc zd;unfold fnC at hFf hfo⊢;go_enter Tryz.func26,Tryz.ntmps26;go_upto_region 2 with(fail);rw[hfo.out,hgf'.out,hgg'.out,hgr'.out,hgm'.out];clear hfo;obtain⟨wq,hwq⟩:∃y,y=W1:=⟨_,rfl⟩;obtain⟨qi,hqi⟩:∃y:List NRw,y= []:=⟨_,rfl⟩;obtain⟨qp,hqp⟩:∃y:List (ByteArray×Pz),y= []:=⟨_,rfl⟩
 obtain⟨lp,hlp⟩:∃y:List PRw,y= []:=⟨_,rfl⟩;obtain⟨Ai,hAi⟩:∃y:Option Addr,y=none:=⟨_,rfl⟩;obtain⟨Ap,hAp⟩:∃y:Option Addr,y=none:=⟨_,rfl⟩;obtain⟨ki,hki⟩:∃y:Nat,y=0:=⟨_,rfl⟩;obtain⟨kp,hkp⟩:∃y:Nat,y=0:=⟨_,rfl⟩;have hES:Hid (ES W1 B gm qi qp Ai ki Ap kp lp wq):=zi (by rw[hqi,hqp,hlp,hAi,hAp,hki,hkp,hwq];exact hE0.out);have hqil:Hid (qi.length≤100):=zi (by rw[hqi];simp);have hBq:Hid (B≤wq.heap.size):=zi (by rw[hwq];exact Nat.le_of_eq hB'.out);have hqi0:=zi hqi;have hqp0:=zi hqp;rw[←hwq];clear hwq hqi hqp hlp hAi hAp hki hkp hE0;refine wp_region_tabL ((eqv (.agg #[.bool true,.slice Ai qi.length ki,.slice Ap lp.length kp]))::(eqv (.agg #[.bool true,.int .i64 0,.int .i64 0]))::(fun L w v=>∃A c,v=memV A (setL kN qi ⟨retB,true,0,0⟩).length c Ap lp.length kp∧(L 3=false→w.ownsRow B 128 4 (.slice A (setL kN qi ⟨retB,true,0,0⟩).length c) (setL kN qi ⟨retB,true,0,0⟩).length ((setL kN qi ⟨retB,true,0,0⟩).flatMap encN)))::(fun _ _ _=>True)::[])
  (⟨[(5,none)],0,[3]⟩::⟨[],0,[3]⟩::⟨[(10,some 0),(11,some 1)],0,[3]⟩::⟨[(5,none),(12,some 2)],0,[]⟩::[])
  (no::no::no::no::no::no::no::no::no::no::so 0::so 1::so 2::[])
  (fun L w'=>CS 3 2 wq (fun w'=>∃A c,ES W1 B gm (setL kN qi ⟨retB,true,0,0⟩) qp A c Ap kp lp w') L w') (fun i w w'=>(i≠3→Below w.heap.size w w')) ?mixK2ret ?okK2ret ?tabK2ret ?frK2ret ?inK2ret ?keptK2ret ?startK2ret ?eachK2ret ?finK2ret
 case mixK2ret|okK2ret|tabK2ret|frK2ret=>kernel_rfl
 case inK2ret=>rfl
 case keptK2ret=>exact⟨fun _ _ _ _ _ _ _ _ _ _ _ h=>h,fun _ _ _ _ _ _ _ _ _ _ _ h=>h,fun i hne hr L w w' v hLi hC hC' hG ⟨A,c,e,h⟩=>⟨A,c,e,fun h1=>by
    simp only[Bool.or_eq_false_iff,beq_eq_false_iff_ne]at h1
    exact own_below (h h1.2) (hG fun e=>h1.1 e.symm)⟩,fun _ _ _ _ _ _ _ _ _ _ _ h=>h,trivial⟩
 case startK2ret=>exact⟨fun _=>(Below.refl _ _).drew,fun h=>by cases h⟩
 case eachK2ret=>
  refine⟨?_,?_,?_,?_,trivial⟩
  ·intro w L f hC hLi hLd hLn ⟨a,_⟩;change _=_ at a;refine Step2.live rfl ?_;have h8:L 3=false:=hLn 3 (by simp);have hb0:Below wq.heap.size wq w:=hC.bel h8;have hh:=hES.out.box.below hb0 hES.out.box.lt;have hlt:=hh.lt;have f0:=(fact_of hh 0 rfl).2;have f1:=(fact_of hh 1 rfl).2;have f2:=(fact_of hh 2 rfl).2;obtain⟨ev,ec,ef⟩:=evs f;refine relUpon_value ?_ (hC.go h8 (by decide) (Below.refl _ _)) (fun _=>Below.refl _ _) rfl;go_simp
  ·intro w L f hC hLi hLd hLn hF;refine Step2.live rfl ?_;have h8:L 3=false:=hLn 3 (by simp);have hb0:Below wq.heap.size wq w:=hC.bel h8;obtain⟨ev,ec,ef⟩:=evs f;refine relUpon_call (f:=62) (args:= #[.int .i64 0,.int .i64 0]) (w:=w) (by go_simp) (refOf_any w 0 0 (by decide)) ?_;rintro e w1 ⟨he,hB⟩;exact⟨_,he,hC.go h8 (by decide) hB,fun _=>hB,rfl⟩
  ·intro w L f hC hLi hLd hLn ⟨a,b,_⟩;change _=_ at a b;refine Step2.live rfl ?_;have h8:L 3=false:=hLn 3 (by simp);have hb0:Below wq.heap.size wq w:=hC.bel h8;have hE:=hES.out.up hb0;have hql:=hqil.out;obtain⟨Aj,cj,ej,hri,-⟩:=RowS.own (S:=Evr) hE.ints fun _ _=>trivial;injection ej with ei _ ec;subst ei ec;have hBw:=Nat.le_trans hBq.out hb0.size;obtain⟨ev,ec,ef⟩:=evs f;refine relUpon_call (f:=75) (args:= #[.agg #[.bool true,.slice Ai qi.length ki,.slice Ap lp.length kp],.string retB,.agg #[.bool true,.int .i64 0,.int .i64 0]]) (w:=w) (by go_simp<;>rfl) (setN_any w Ai Ap ki lp.length kp qi hri hql hE.c1le retB 0 0 (by decide)) ?_;rintro e w1 ⟨A,c,he,ho,hB⟩;exact⟨_,he,hC.go h8 (by decide) hB,fun _=>hB,A,c,rfl,fun _=>own_base ho hBw⟩
  ·intro w L f hC hLi hLd hLn ⟨a,d12,_⟩;change _=_ at a;refine Step2.live rfl ?_;have hb0:=hC.bel hLi;have hE:=hES.out.up hb0;obtain⟨A,c,e0,ho⟩:=d12;have hq:=hE.setN hgmB.out (ho hLi);have hlt:=hE.box.lt;have f0:=hE.box.frozen 0;have f1:=hE.box.frozen 1;have f2:=hE.box.frozen 2;have z0:=(fact_of hE.box 0 rfl).2;have z1:=(fact_of hE.box 1 rfl).2;have z2:=(fact_of hE.box 2 rfl).2;have d12:f 12= .agg #[.bool true,.slice A (setL kN qi ⟨retB,true,0,0⟩).length c,.slice Ap lp.length kp]:=e0;clear e0;obtain⟨ev,ec,ef⟩:=evs f;refine relUpon_skip ?_ (CS.last (hLd 2 (by decide)) ⟨A,c,hq⟩) (fun h=>absurd rfl h) trivial;go_simp
 intro x w' hC hV
 obtain⟨-,Ai',ki',hE1⟩:=hC.2 rfl;clear hV hC;simp only[framed];have hE1':=zi hE1;have hw1:=zi (hE1.wr);rename World=>wa
 have hL0:Hid (∃A1 c1 A2 c2 lp,ES W1 B gm (setAll kN ([zeroN retB]++celN (cs.take 0))) [] A1 c1 A2 c2 lp wa):=zi (by
  have h:=hE1;rw[hqi0.out,hqp0.out]at h
  exact⟨_,_,_,_,_,h⟩)
 clear hE1 hE1' hES hqil hBq hqi0 hqp0;have z0:=(fact_of (hFf.out wa hw1.out).2.1 0 rfl).2;go_wp2_with fail;go_loopw [6] (fun i wr=>∃(k:Nat) (Ai:Option Addr) (ki:Nat) (Ap:Option Addr) (kp:Nat) (lp:List PRw),k≤nc∧i= .int .i64 k∧Hid (ES W1 B gm (setAll kN ([zeroN retB]++celN (cs.take k))) [] Ai ki Ap kp lp wr)) (fun i _=>nc-(intOf i).toNat)
 case atStart=>
  obtain⟨a,b,c,d,e,h⟩:=hL0.out;exact⟨0,a,b,c,d,e,Nat.zero_le _,rfl,zi h⟩
 clear hL0 hw1 z0;obtain⟨k,Ai,ki,Ap,kp,lp,hk,rfl,hES⟩:=hrel;rename World=>wq;have z0:=(fact_of (hFf.out wq hES.out.wr).2.1 0 rfl).2;have zl:=(hFf.out wq hES.out.wr).2.1.lt;by_cases hlt:k<nc
 ·have hlt2:k<cs.length:=by rw[hcn.out];exact hlt
  have hcr:Row wq w0.heap.size Agc (cs.map encStr):=RowS.keep (S:=fun x=>x<w0.heap.size) (fun x hx _=>hkeep.out wq hES.out.wr x hx) hc1.out;obtain⟨b,off,rfl,hbb,hcell⟩:=hcr.at_ (k:=k) (by simpa using hlt2);rw[List.getElem_map]at hcell;have htk:=celN_take hlt2;have hln:=hcl.out cs[k] (List.getElem_mem hlt2);generalize cs[k]=s at hcell htk hln;obtain⟨sx,hsx0⟩:∃y,y=strV s:=⟨_,rfl⟩
  have hcell':wq.cell? ⟨b,off+k,none⟩=some (.string sx):=by rw[hsx0];exact hcell
  have hBq:Hid (B≤wq.heap.size):=zi (hFf.out wq hES.out.wr).2.2.2;have hqn:Hid (b<wq.heap.size∧wq.cell? ⟨b,off+k,none⟩=some (.string sx)):=zi ⟨by have h1:=hb1.out.size;have h2:=hES.out.wr.size;omega,hcell'⟩;have hkn:Hid (k<nc∧(k:Int)<(nc:Int)):=zi ⟨hlt,by omega⟩;have hsx:Hid (sx.size≤100):=zi (by rw[hsx0,strV_size];exact hln);have hqg:=zi (hFf.out wq hES.out.wr).2.1;obtain⟨qi,hqi0⟩:∃y,y=setAll kN ([zeroN retB]++celN (cs.take k)):=⟨_,rfl⟩
  have hqil:Hid (qi.length≤100):=zi (by
   rw[hqi0];refine Nat.le_trans (setAll_len _ _) ?_;simp only[List.length_append,List.length_cons,List.length_nil,celN,List.length_map,List.length_take]
   omega)
  obtain⟨qp,hqp0⟩:∃y:List (ByteArray×Pz),y= []:=⟨_,rfl⟩;rw[←hqi0,←hqp0]at hES
  have hnx:Hid (setAll kN ([zeroN retB]++celN (cs.take (k+1)))=setL kN qi ⟨atB_ sx,true,-9223372036854775808,9223372036854775807⟩):=zi (by
   rw[htk,←List.append_assoc,setAll_snoc,←hqi0,hsx0]
   rfl)
  replace hqp0:=zi hqp0;clear hcell hcell' hbb htk hqi0 hsx0 hln;go_upto_region 6 with(fail);clear z0 zl;refine wp_region_tabL ((eqv (.agg #[.bool true,.slice Ai qi.length ki,.slice Ap lp.length kp]))::(eqv (.pointer (some ⟨gg,0,none⟩)))::(eqv (.slice (some ⟨b,off,none⟩) nc cc))::(eqv (.int .i64 k))::(eqv (.pointer (some ⟨b,off+k,none⟩)))::(eqv (.string sx))::(eqv (.string (atB_ sx)))::(eqv (.agg #[.bool true,.int .i64 (-9223372036854775808),.int .i64 9223372036854775807]))::(fun L w v=>∃A c,v=memV A (setL kN qi ⟨(atB_ sx),true,(-9223372036854775808),9223372036854775807⟩).length c Ap lp.length kp∧(L 9=false→w.ownsRow B 128 4 (.slice A (setL kN qi ⟨(atB_ sx),true,(-9223372036854775808),9223372036854775807⟩).length c) (setL kN qi ⟨(atB_ sx),true,(-9223372036854775808),9223372036854775807⟩).length ((setL kN qi ⟨(atB_ sx),true,(-9223372036854775808),9223372036854775807⟩).flatMap encN)))::(fun _ _ _=>True)::[])
   (⟨[(5,none)],0,[9]⟩::⟨[(3,none)],0,[9]⟩::⟨[(21,some 1)],0,[9]⟩::⟨[(6,none)],0,[9]⟩::⟨[(22,some 2),(23,some 3)],0,[9]⟩::⟨[(24,some 4)],0,[9]⟩::⟨[(25,some 5)],0,[9]⟩::⟨[],0,[9]⟩::⟨[(20,some 0),(26,some 6),(27,some 7)],0,[9]⟩::⟨[(5,none),(28,some 8)],0,[]⟩::[])
   (no::no::no::no::no::no::no::no::no::no::no::no::no::no::no::no::no::no::no::no::so 0::so 1::so 2::so 3::so 4::so 5::so 6::so 7::so 8::[])
   (fun L w'=>CS 9 8 wq (fun w'=>∃A c,ES W1 B gm (setL kN qi ⟨(atB_ sx),true,(-9223372036854775808),9223372036854775807⟩) qp A c Ap kp lp w') L w') (fun i w w'=>(i≠9→Below w.heap.size w w')) ?mixK6cel ?okK6cel ?tabK6cel ?frK6cel ?inK6cel ?keptK6cel ?startK6cel ?eachK6cel ?finK6cel
  case mixK6cel|okK6cel|tabK6cel|frK6cel=>kernel_rfl
  case inK6cel=>rfl
  case keptK6cel=>exact⟨fun _ _ _ _ _ _ _ _ _ _ _ h=>h,fun _ _ _ _ _ _ _ _ _ _ _ h=>h,fun _ _ _ _ _ _ _ _ _ _ _ h=>h,fun _ _ _ _ _ _ _ _ _ _ _ h=>h,fun _ _ _ _ _ _ _ _ _ _ _ h=>h,fun _ _ _ _ _ _ _ _ _ _ _ h=>h,fun _ _ _ _ _ _ _ _ _ _ _ h=>h,fun _ _ _ _ _ _ _ _ _ _ _ h=>h,fun i hne hr L w w' v hLi hC hC' hG ⟨A,c,e,h⟩=>⟨A,c,e,fun h1=>by
     simp only[Bool.or_eq_false_iff,beq_eq_false_iff_ne]at h1
     exact own_below (h h1.2) (hG fun e=>h1.1 e.symm)⟩,fun _ _ _ _ _ _ _ _ _ _ _ h=>h,trivial⟩
  case startK6cel=>exact⟨fun _=>(Below.refl _ _).drew,fun h=>by cases h⟩
  case eachK6cel=>
   repeat' first|exact trivial|refine And.intro ?_ ?_
   ·intro w L f hC hLi hLd hLn ⟨a,_⟩;change _=_ at a;refine Step2.live rfl ?_;have h8:L 9=false:=hLn 9 (by simp);have hb0:Below wq.heap.size wq w:=hC.bel h8;have hh:=hES.out.box.below hb0 hES.out.box.lt;have hlt:=hh.lt;have f0:=(fact_of hh 0 rfl).2;have f1:=(fact_of hh 1 rfl).2;have f2:=(fact_of hh 2 rfl).2;obtain⟨ev,ec,ef⟩:=evs f;refine relUpon_value ?_ (hC.go h8 (by decide) (Below.refl _ _)) (fun _=>Below.refl _ _) rfl;go_simp
   iterate 2 (intro w L f hC hLi hLd hLn ⟨a,_⟩;change _=_ at a;refine Step2.live rfl ?_;have h8:L 9=false:=hLn 9 (by simp);have hb0:Below wq.heap.size wq w:=hC.bel h8;have hh:=hqg.out.below hb0 hqg.out.lt;have hlt:=hh.lt;have f0:=(fact_of hh 0 rfl).2;have f1:=(fact_of hh 1 rfl).2;obtain⟨ev,ec,ef⟩:=evs f;refine relUpon_value ?_ (hC.go h8 (by decide) (Below.refl _ _)) (fun _=>Below.refl _ _) rfl;go_simp)
   ·intro w L f hC hLi hLd hLn ⟨d,_⟩;refine Step2.live rfl ?_;exact relUpon_value (v:=f 6) rfl (hC.go (hLn 9 (by simp)) (by decide) (Below.refl _ _)) (fun _=>Below.refl _ _) d
   ·intro w L f hC hLi hLd hLn ⟨a,b,_⟩;change _=_ at a b;refine Step2.live rfl ?_;have h8:L 9=false:=hLn 9 (by simp);have hb0:Below wq.heap.size wq w:=hC.bel h8;have hlt:=Nat.lt_of_lt_of_le hqn.out.1 hb0.size;obtain⟨hkk,hkz⟩:=hkn.out;obtain⟨ev,ec,ef⟩:=evs f;refine relUpon_value ?_ (hC.go h8 (by decide) (Below.refl _ _)) (fun _=>Below.refl _ _) rfl;go_simp
   ·intro w L f hC hLi hLd hLn ⟨a,_⟩;change _=_ at a;refine Step2.live rfl ?_;have h8:L 9=false:=hLn 9 (by simp);have hb0:Below wq.heap.size wq w:=hC.bel h8;have hlt:=Nat.lt_of_lt_of_le hqn.out.1 hb0.size;have q0:w.cell? _=_:=(World.cell?_of_block (hb0.block b hqn.out.1)).trans hqn.out.2;obtain⟨ev,ec,ef⟩:=evs f;refine relUpon_value ?_ (hC.go h8 (by decide) (Below.refl _ _)) (fun _=>Below.refl _ _) rfl;go_simp
   ·intro w L f hC hLi hLd hLn ⟨a,_⟩;change _=_ at a;refine Step2.live rfl ?_;have h8:L 9=false:=hLn 9 (by simp);have hb0:Below wq.heap.size wq w:=hC.bel h8;have hsz:=hsx.out;obtain⟨ev,ec,ef⟩:=evs f;refine relUpon_value ?_ (hC.go h8 (by decide) (Below.refl _ _)) (fun _=>Below.refl _ _) rfl;unfold atB_;go_simp;omega
   ·intro w L f hC hLi hLd hLn hF;refine Step2.live rfl ?_;have h8:L 9=false:=hLn 9 (by simp);have hb0:Below wq.heap.size wq w:=hC.bel h8;obtain⟨ev,ec,ef⟩:=evs f;refine relUpon_call (f:=61) (args:= #[]) (w:=w) (by go_simp) (refTop_any w) ?_;rintro e w1 ⟨he,hB⟩;exact⟨_,he,hC.go h8 (by decide) hB,fun _=>hB,rfl⟩
   ·intro w L f hC hLi hLd hLn ⟨a,b,c,_⟩;change _=_ at a b c;refine Step2.live rfl ?_;have h8:L 9=false:=hLn 9 (by simp);have hb0:Below wq.heap.size wq w:=hC.bel h8;have hE:=hES.out.up hb0;have hql:=hqil.out;obtain⟨Aj,cj,ej,hri,-⟩:=RowS.own (S:=Evr) hE.ints fun _ _=>trivial;injection ej with ei _ ec;subst ei ec;have hBw:=Nat.le_trans hBq.out hb0.size;obtain⟨ev,ec,ef⟩:=evs f;refine relUpon_call (f:=75) (args:= #[.agg #[.bool true,.slice Ai qi.length ki,.slice Ap lp.length kp],.string (atB_ sx),.agg #[.bool true,.int .i64 (-9223372036854775808),.int .i64 9223372036854775807]]) (w:=w) (by go_simp<;>rfl) (setN_any w Ai Ap ki lp.length kp qi hri hql hE.c1le (atB_ sx) (-9223372036854775808) 9223372036854775807 (by decide)) ?_;rintro e w1 ⟨A,c,he,ho,hB⟩;exact⟨_,he,hC.go h8 (by decide) hB,fun _=>hB,A,c,rfl,fun _=>own_base ho hBw⟩
   ·intro w L f hC hLi hLd hLn ⟨a,d28,_⟩;change _=_ at a;refine Step2.live rfl ?_;have hb0:=hC.bel hLi;have hE:=hES.out.up hb0;obtain⟨A,c,e0,ho⟩:=d28;have hq:=hE.setN hgmB.out (ho hLi);have hlt:=hE.box.lt;have f0:=hE.box.frozen 0;have f1:=hE.box.frozen 1;have f2:=hE.box.frozen 2;have z0:=(fact_of hE.box 0 rfl).2;have z1:=(fact_of hE.box 1 rfl).2;have z2:=(fact_of hE.box 2 rfl).2;have d28:f 28= .agg #[.bool true,.slice A (setL kN qi ⟨(atB_ sx),true,(-9223372036854775808),9223372036854775807⟩).length c,.slice Ap lp.length kp]:=e0;clear e0;obtain⟨ev,ec,ef⟩:=evs f;refine relUpon_skip ?_ (CS.last (hLd 8 (by decide)) ⟨A,c,hq⟩) (fun h=>absurd rfl h) trivial;go_simp
  intro x w' hC hV
  obtain⟨-,Ai',ki',hE1⟩:=hC.2 rfl;clear hV hC;rename World=>wb;rw[←hnx.out,hqp0.out]at hE1;have hE1:=zi hE1;simp only[framed];clear hES hqil hBq hqn hsx hqg hnx hqp0;go_wp2_with fail;refine⟨⟨k+1,_,_,_,_,_,hlt,by go_num,hE1⟩,?_⟩;simp[intOf];omega
 have hkn:k=nc:=by omega
 have g0:Hid (ES W1 B gm (setAll kN ([zeroN retB]++celN cs)) [] Ai ki Ap kp lp wq):=zi (by have h:=hES.out;rw[hkn,←hcn.out,List.take_length]at h;exact h)
 have hltz:¬(k:Int)<(nc:Int):=by omega
 have hL1:Hid (∃A1 c1 A2 c2 lp,ES W1 B gm (setAll kN ([zeroN retB]++celN cs++locN (ls.take 0))) (setAll kQ (locP (ls.take 0))) A1 c1 A2 c2 lp wq):=zi ⟨_,_,_,_,_,by
  rw[show locN (ls.take 0)= []from rfl,show locP (ls.take 0)= []from rfl,List.append_nil]
  exact g0.out⟩
 clear hES hlt hkn;go_upto_region 8 with(fail);have y0:=(fact_of (hFf.out wq g0.out.wr).1 2 rfl).2;have y1:=(hFf.out wq g0.out.wr).1.lt;go_wp2_with fail;go_loopw [7] (fun i wr=>∃(k:Nat) (Ai:Option Addr) (ki:Nat) (Ap:Option Addr) (kp:Nat) (lp:List PRw),k≤n2∧i= .int .i64 k∧Hid (ES W1 B gm (setAll kN ([zeroN retB]++celN cs++locN (ls.take k))) (setAll kQ (locP (ls.take k))) Ai ki Ap kp lp wr)) (fun i _=>n2-(intOf i).toNat)
 case atStart=>
  obtain⟨a,b,c,d,e,h⟩:=hL1.out;exact⟨0,a,b,c,d,e,Nat.zero_le _,rfl,zi h⟩
 clear hL1 y0 y1 g0 z0 zl hltz;obtain⟨k,Ai,ki,Ap,kp,lp,hk,rfl,hES⟩:=hrel;rename World=>wq;have z0:=(fact_of (hFf.out wq hES.out.wr).1 2 rfl).2;have zl:=(hFf.out wq hES.out.wr).1.lt;by_cases hlt:k<n2
 ·have hlt2:k<ls.length:=by rw[←hn2'.out];exact hlt
  have hrr:RowS wq Evr A2 (ls.flatMap Vr.cells):=RowS.keep (fun x hx _=>hkeep.out wq hES.out.wr x hx) hr2.out;obtain⟨b,off,rfl,q0,q1⟩:=vrow_at hrr hlt2
  have hbl:b<wq.heap.size:=RowS.lt hrr (by
   intro e;have h1:=congrArg List.length e;rw[flatE_len (k:=2) (fun _=>rfl)]at h1;simp at h1
   omega) rfl
  have htN0:=locN_take hlt2;have htP0:=locP_take hlt2;generalize ls[k]=u at q0 q1 htN0 htP0;obtain⟨nx,px⟩:=u;simp only at q0 q1 htN0 htP0;obtain⟨sx,hsx⟩:∃y,y=strV nx:=⟨_,rfl⟩;rw[←hsx]at q0 htN0 htP0;clear hsx;have hBq:Hid (B≤wq.heap.size):=zi (hFf.out wq hES.out.wr).2.2.2;have hqn:Hid (b<wq.heap.size∧wq.cell? ⟨b,off+k*2,none⟩=some (.string sx)):=zi ⟨hbl,q0⟩;have hkn:Hid (k<n2∧(k:Int)<(n2:Int)):=zi ⟨hlt,by omega⟩;have hqf:=zi (hFf.out wq hES.out.wr).1;obtain⟨qi,hqi0⟩:∃y,y=setAll kN ([zeroN retB]++celN cs++locN (ls.take k)):=⟨_,rfl⟩;obtain⟨qp,hqp0⟩:∃y,y=setAll kQ (locP (ls.take k)):=⟨_,rfl⟩
  have hqil:Hid (qi.length≤100):=zi (by
   rw[hqi0];refine Nat.le_trans (setAll_len _ _) ?_;have e1:=filter_le (fun v:Vr=>if v.ptr then none else some (allN (strV v.nm))) (ps.take k);have e2:=filter_le (fun v:Vr=>if v.ptr then none else some (zeroN (strV v.nm))) (ls.take k);have e3:=filter_le (fun v:Vr=>if v.ptr then none else some (zeroN (strV v.nm))) ls;have e4:=List.length_take_le k ps;have e5:=List.length_take_le k ls;have e6:=hn1'.out;have e7:=hn2'.out;have e8:=hcn.out;simp only[List.length_append,List.length_cons,List.length_nil,celN,List.length_map,locN]
   omega)
  have hlpl:Hid (lp.length≤100):=zi (by
   rw[hES.out.all.len];refine Nat.le_trans (setAll_len _ _) ?_;have e1:=filter_le (fun v:Vr=>if v.ptr then some (strV v.nm,(⟨true,canon cs⟩:Pz))else none) (ps.take k);have e2:=filter_le (fun v:Vr=>if v.ptr then some (strV v.nm,(⟨true,[]⟩:Pz))else none) (ls.take k);have e3:=filter_le (fun v:Vr=>if v.ptr then some (strV v.nm,(⟨true,[]⟩:Pz))else none) ls;have e4:=List.length_take_le k ps;have e5:=List.length_take_le k ls;have e6:=hn1'.out;have e7:=hn2'.out;simp only[locP]
   omega)
  rw[←hqi0,←hqp0]at hES
  cases px with
  |true=>
   have hnN:Hid (setAll kN ([zeroN retB]++celN cs++locN (ls.take (k+1)))=qi):=zi (by rw[hqi0,htN0];simp)
   have hnP:Hid (setAll kQ (locP (ls.take (k+1)))=setL kQ qp (sx,⟨true,canon []⟩)):=zi (by
    rw[hqp0,htP0];simp only[if_true]
    rw[setAll_snoc,canon_nil2])
   obtain⟨Aj,cj,ej,hrp,-⟩:=RowS.own (S:=Evr) hES.out.ptrs fun _ _=>trivial;injection ej with ei _ ec;subst ei ec;have cP:=setP_any wq.drew Ai Ap qi.length ki kp lp (hrp.up (Below.refl _ wq).drew) hlpl.out hES.out.c2le sx none 0 [] (Row.nil_ _ _ _) (Nat.le_refl _) (Nat.zero_le _);have cP:=zi cP;replace hqi0:=zi hqi0;replace hqp0:=zi hqp0;have b0:=(fact_of hES.out.box 0 rfl).2;have b1:=(fact_of hES.out.box 1 rfl).2;have b2:=(fact_of hES.out.box 2 rfl).2;have b3:=hES.out.box.lt;clear hrr hrp htN0 htP0;go_upto_region 11 with(fail)
   go_still_tail 8,(by kernel_rfl)
   change wpList _ _ _ _ _ wq.drew;have hE1:=zi (hES.out.up (Below.refl _ wq).drew);have hBd:Hid (B≤wq.drew.heap.size):=zi hBq.out;obtain⟨wd,hwd⟩:∃y,y=wq.drew:=⟨_,rfl⟩;rw[←hwd]at hE1 cP hBd⊢;clear hwd b0 b1 b2 b3 z0 zl q0 q1;go_wp2_with fail;refine cP.out.mono ?_;clear cP;rintro e w2 ⟨A,c,Az,cz,he,ho,hrz,hb2⟩;unfold memV at he;subst he;have hE2:=hE1.out.up hb2;have b0:=(fact_of hE2.box 0 rfl).2;have b1:=(fact_of hE2.box 1 rfl).2;have b2:=(fact_of hE2.box 2 rfl).2;have b3:=hE2.box.lt;have f0:=hE2.box.frozen 0;have f1:=hE2.box.frozen 1;have f2:=hE2.box.frozen 2;have hE3:=hE2.setP hgmB.out (r:=⟨sx,true,Az,(canon []).length,cz⟩) (q:=(sx,⟨true,canon []⟩)) ⟨rfl,rfl,rfl,hrz⟩ (own_base ho hBd.out);have hE3:=zi hE3;clear hE2 ho hrz hb2 hE1 hES;go_wp2_with fail;refine⟨⟨k+1,_,_,_,_,_,hlt,by go_num,zi (by rw[hnN.out,hnP.out];exact hE3.out)⟩,?_⟩;simp[intOf];omega
  |false=>
   have hnP:Hid (setAll kQ (locP (ls.take (k+1)))=qp):=zi (by rw[hqp0,htP0];simp)
   have hnN:Hid (setAll kN ([zeroN retB]++celN cs++locN (ls.take (k+1)))=setL kN qi ⟨sx,true,0,0⟩):=zi (by
    rw[hqi0,htN0];simp only[Bool.false_eq_true,if_false];rw[←List.append_assoc,setAll_snoc]
    rfl)
   replace hqi0:=zi hqi0;replace hqp0:=zi hqp0;clear hrr htN0 htP0;go_upto_region 12 with(fail);clear z0 zl q0 q1;refine wp_region_tabL ((eqv (.agg #[.bool true,.slice Ai qi.length ki,.slice Ap lp.length kp]))::(eqv (.pointer (some ⟨gf,2,none⟩)))::(eqv (.slice (some ⟨b,off,none⟩) n2 d2))::(eqv (.int .i64 k))::(eqv (.pointer (some ⟨b,off+k*2,none⟩)))::(eqv (.pointer (some ⟨b,off+k*2,none⟩)))::(eqv (.string sx))::(eqv (.agg #[.bool true,.int .i64 0,.int .i64 0]))::(fun L w v=>∃A c,v=memV A (setL kN qi ⟨sx,true,0,0⟩).length c Ap lp.length kp∧(L 9=false→w.ownsRow B 128 4 (.slice A (setL kN qi ⟨sx,true,0,0⟩).length c) (setL kN qi ⟨sx,true,0,0⟩).length ((setL kN qi ⟨sx,true,0,0⟩).flatMap encN)))::(fun _ _ _=>True)::[])
    (⟨[(5,none)],0,[9]⟩::⟨[(2,none)],0,[9]⟩::⟨[(52,some 1)],0,[9]⟩::⟨[(7,none)],0,[9]⟩::⟨[(53,some 2),(54,some 3)],0,[9]⟩::⟨[(55,some 4)],0,[9]⟩::⟨[(56,some 5)],0,[9]⟩::⟨[],0,[9]⟩::⟨[(51,some 0),(57,some 6),(58,some 7)],0,[9]⟩::⟨[(5,none),(59,some 8)],0,[]⟩::[])
    (no::no::no::no::no::no::no::no::no::no::no::no::no::no::no::no::no::no::no::no::no::no::no::no::no::no::no::no::no::no::no::no::no::no::no::no::no::no::no::no::no::no::no::no::no::no::no::no::no::no::no::so 0::so 1::so 2::so 3::so 4::so 5::so 6::so 7::so 8::[])
    (fun L w'=>CS 9 8 wq (fun w'=>∃A c,ES W1 B gm (setL kN qi ⟨sx,true,0,0⟩) qp A c Ap kp lp w') L w') (fun i w w'=>(i≠9→Below w.heap.size w w')) ?mixK12loc ?okK12loc ?tabK12loc ?frK12loc ?inK12loc ?keptK12loc ?startK12loc ?eachK12loc ?finK12loc
   case mixK12loc|okK12loc|tabK12loc|frK12loc=>kernel_rfl
   case inK12loc=>rfl
   case keptK12loc=>exact⟨fun _ _ _ _ _ _ _ _ _ _ _ h=>h,fun _ _ _ _ _ _ _ _ _ _ _ h=>h,fun _ _ _ _ _ _ _ _ _ _ _ h=>h,fun _ _ _ _ _ _ _ _ _ _ _ h=>h,fun _ _ _ _ _ _ _ _ _ _ _ h=>h,fun _ _ _ _ _ _ _ _ _ _ _ h=>h,fun _ _ _ _ _ _ _ _ _ _ _ h=>h,fun _ _ _ _ _ _ _ _ _ _ _ h=>h,fun i hne hr L w w' v hLi hC hC' hG ⟨A,c,e,h⟩=>⟨A,c,e,fun h1=>by
      simp only[Bool.or_eq_false_iff,beq_eq_false_iff_ne]at h1
      exact own_below (h h1.2) (hG fun e=>h1.1 e.symm)⟩,fun _ _ _ _ _ _ _ _ _ _ _ h=>h,trivial⟩
   case startK12loc=>exact⟨fun _=>(Below.refl _ _).drew,fun h=>by cases h⟩
   case eachK12loc=>
    repeat' first|exact trivial|refine And.intro ?_ ?_
    ·intro w L f hC hLi hLd hLn ⟨a,_⟩;change _=_ at a;refine Step2.live rfl ?_;have h8:L 9=false:=hLn 9 (by simp);have hb0:Below wq.heap.size wq w:=hC.bel h8;have hh:=hES.out.box.below hb0 hES.out.box.lt;have hlt:=hh.lt;have f0:=(fact_of hh 0 rfl).2;have f1:=(fact_of hh 1 rfl).2;have f2:=(fact_of hh 2 rfl).2;obtain⟨ev,ec,ef⟩:=evs f;refine relUpon_value ?_ (hC.go h8 (by decide) (Below.refl _ _)) (fun _=>Below.refl _ _) rfl;go_simp
    iterate 2 (intro w L f hC hLi hLd hLn ⟨a,_⟩;change _=_ at a;refine Step2.live rfl ?_;have h8:L 9=false:=hLn 9 (by simp);have hb0:Below wq.heap.size wq w:=hC.bel h8;have hh:=hqf.out.below hb0 hqf.out.lt;have hlt:=hh.lt;have f0:=(fact_of hh 0 rfl).2;have f1:=(fact_of hh 1 rfl).2;have f2:=(fact_of hh 2 rfl).2;have f3:=(fact_of hh 3 rfl).2;obtain⟨ev,ec,ef⟩:=evs f;refine relUpon_value ?_ (hC.go h8 (by decide) (Below.refl _ _)) (fun _=>Below.refl _ _) rfl;go_simp)
    ·intro w L f hC hLi hLd hLn ⟨d,_⟩;refine Step2.live rfl ?_;exact relUpon_value (v:=f 7) rfl (hC.go (hLn 9 (by simp)) (by decide) (Below.refl _ _)) (fun _=>Below.refl _ _) d
    ·intro w L f hC hLi hLd hLn ⟨a,b,_⟩;change _=_ at a b;refine Step2.live rfl ?_;have h8:L 9=false:=hLn 9 (by simp);have hb0:Below wq.heap.size wq w:=hC.bel h8;have hlt:=Nat.lt_of_lt_of_le hqn.out.1 hb0.size;obtain⟨hkk,hkz⟩:=hkn.out;obtain⟨ev,ec,ef⟩:=evs f;refine relUpon_value ?_ (hC.go h8 (by decide) (Below.refl _ _)) (fun _=>Below.refl _ _) rfl;go_simp
    ·intro w L f hC hLi hLd hLn ⟨a,_⟩;change _=_ at a;refine Step2.live rfl ?_;obtain⟨ev,ec,ef⟩:=evs f;refine relUpon_value ?_ (hC.go (hLn 9 (by simp)) (by decide) (Below.refl _ _)) (fun _=>Below.refl _ _) rfl;go_simp
    ·intro w L f hC hLi hLd hLn ⟨a,_⟩;change _=_ at a;refine Step2.live rfl ?_;have h8:L 9=false:=hLn 9 (by simp);have hb0:Below wq.heap.size wq w:=hC.bel h8;have hlt:=Nat.lt_of_lt_of_le hqn.out.1 hb0.size;have q0:w.cell? _=_:=(World.cell?_of_block (hb0.block b hqn.out.1)).trans hqn.out.2;obtain⟨ev,ec,ef⟩:=evs f;refine relUpon_value ?_ (hC.go h8 (by decide) (Below.refl _ _)) (fun _=>Below.refl _ _) rfl;go_simp
    ·intro w L f hC hLi hLd hLn hF;refine Step2.live rfl ?_;have h8:L 9=false:=hLn 9 (by simp);have hb0:Below wq.heap.size wq w:=hC.bel h8;obtain⟨ev,ec,ef⟩:=evs f;refine relUpon_call (f:=62) (args:= #[.int .i64 0,.int .i64 0]) (w:=w) (by go_simp) (refOf_any w 0 0 (by decide)) ?_;rintro e w1 ⟨he,hB⟩;exact⟨_,he,hC.go h8 (by decide) hB,fun _=>hB,rfl⟩
    ·intro w L f hC hLi hLd hLn ⟨a,b,c,_⟩;change _=_ at a b c;refine Step2.live rfl ?_;have h8:L 9=false:=hLn 9 (by simp);have hb0:Below wq.heap.size wq w:=hC.bel h8;have hE:=hES.out.up hb0;have hql:=hqil.out;obtain⟨Aj,cj,ej,hri,-⟩:=RowS.own (S:=Evr) hE.ints fun _ _=>trivial;injection ej with ei _ ec;subst ei ec;have hBw:=Nat.le_trans hBq.out hb0.size;obtain⟨ev,ec,ef⟩:=evs f;refine relUpon_call (f:=75) (args:= #[.agg #[.bool true,.slice Ai qi.length ki,.slice Ap lp.length kp],.string sx,.agg #[.bool true,.int .i64 0,.int .i64 0]]) (w:=w) (by go_simp<;>rfl) (setN_any w Ai Ap ki lp.length kp qi hri hql hE.c1le sx 0 0 (by decide)) ?_;rintro e w1 ⟨A,c,he,ho,hB⟩;exact⟨_,he,hC.go h8 (by decide) hB,fun _=>hB,A,c,rfl,fun _=>own_base ho hBw⟩
    ·intro w L f hC hLi hLd hLn ⟨a,d59,_⟩;change _=_ at a;refine Step2.live rfl ?_;have hb0:=hC.bel hLi;have hE:=hES.out.up hb0;obtain⟨A,c,e0,ho⟩:=d59;have hq:=hE.setN hgmB.out (ho hLi);have hlt:=hE.box.lt;have f0:=hE.box.frozen 0;have f1:=hE.box.frozen 1;have f2:=hE.box.frozen 2;have z0:=(fact_of hE.box 0 rfl).2;have z1:=(fact_of hE.box 1 rfl).2;have z2:=(fact_of hE.box 2 rfl).2;have d59:f 59= .agg #[.bool true,.slice A (setL kN qi ⟨sx,true,0,0⟩).length c,.slice Ap lp.length kp]:=e0;clear e0;obtain⟨ev,ec,ef⟩:=evs f;refine relUpon_skip ?_ (CS.last (hLd 8 (by decide)) ⟨A,c,hq⟩) (fun h=>absurd rfl h) trivial;go_simp
   intro x w' hC hV
   obtain⟨-,Ai',ki',hE1⟩:=hC.2 rfl;clear hV hC;rename World=>wb;rw[←hnN.out,←hnP.out]at hE1;have hE1:=zi hE1;simp only[framed];clear hES hqil hBq hqn hqf;go_wp2_with fail;refine⟨⟨k+1,_,_,_,_,_,hlt,by go_num,hE1⟩,?_⟩;simp[intOf];omega
 have hkn:k=n2:=by omega
 have g0:Hid (ES W1 B gm (setAll kN ([zeroN retB]++celN cs++locN ls)) (setAll kQ (locP ls)) Ai ki Ap kp lp wq):=zi (by have h:=hES.out;rw[hkn,hn2'.out,List.take_length]at h;exact h)
 have hltz:¬(k:Int)<(n2:Int):=by omega
 clear hES hlt hkn
 have hL2:Hid (∃A1 c1 A2 c2 lp,ES W1 B gm (setAll kN ([zeroN retB]++celN cs++locN ls++parN (ps.take 0))) (setAll kQ (locP ls++parP cs (ps.take 0))) A1 c1 A2 c2 lp wq):=zi ⟨_,_,_,_,_,by
  rw[show parN (ps.take 0)= []from rfl,show parP cs (ps.take 0)= []from rfl,List.append_nil,List.append_nil]
  exact g0.out⟩
 go_upto_region 14 with(fail);have y0:=(fact_of (hFf.out wq g0.out.wr).1 1 rfl).2;have y1:=(hFf.out wq g0.out.wr).1.lt;go_wp2_with fail;go_loopw [8] (fun i wr=>∃(k:Nat) (Ai:Option Addr) (ki:Nat) (Ap:Option Addr) (kp:Nat) (lp:List PRw),k≤n1∧i= .int .i64 k∧Hid (ES W1 B gm (setAll kN ([zeroN retB]++celN cs++locN ls++parN (ps.take k))) (setAll kQ (locP ls++parP cs (ps.take k))) Ai ki Ap kp lp wr)) (fun i _=>n1-(intOf i).toNat)
 case atStart=>
  obtain⟨a,b,c,d,e,h⟩:=hL2.out;exact⟨0,a,b,c,d,e,Nat.zero_le _,rfl,zi h⟩
 clear hL2 y0 y1 g0 z0 zl hltz;obtain⟨k,Ai,ki,Ap,kp,lp,hk,rfl,hES⟩:=hrel;rename World=>wq;have z0:=(fact_of (hFf.out wq hES.out.wr).1 1 rfl).2;have zl:=(hFf.out wq hES.out.wr).1.lt;by_cases hlt:k<n1
 ·have hlt2:k<ps.length:=by rw[←hn1'.out];exact hlt
  have hrr:RowS wq Evr A1 (ps.flatMap Vr.cells):=RowS.keep (fun x hx _=>hkeep.out wq hES.out.wr x hx) hr1.out;obtain⟨b,off,rfl,q0,q1⟩:=vrow_at hrr hlt2
  have hbl:b<wq.heap.size:=RowS.lt hrr (by
   intro e;have h1:=congrArg List.length e;rw[flatE_len (k:=2) (fun _=>rfl)]at h1;simp at h1
   omega) rfl
  have htN0:=parN_take hlt2;have htP0:=parP_take cs hlt2;generalize ps[k]=u at q0 q1 htN0 htP0;obtain⟨nx,px⟩:=u;simp only at q0 q1 htN0 htP0;obtain⟨sx,hsx⟩:∃y,y=strV nx:=⟨_,rfl⟩;rw[←hsx]at q0 htN0 htP0;clear hsx;have hBq:Hid (B≤wq.heap.size):=zi (hFf.out wq hES.out.wr).2.2.2;have hqn:Hid (b<wq.heap.size∧wq.cell? ⟨b,off+k*2,none⟩=some (.string sx)):=zi ⟨hbl,q0⟩;have hkn:Hid (k<n1∧(k:Int)<(n1:Int)):=zi ⟨hlt,by omega⟩;have hqf:=zi (hFf.out wq hES.out.wr).1;obtain⟨qi,hqi0⟩:∃y,y=setAll kN ([zeroN retB]++celN cs++locN ls++parN (ps.take k)):=⟨_,rfl⟩;obtain⟨qp,hqp0⟩:∃y,y=setAll kQ (locP ls++parP cs (ps.take k)):=⟨_,rfl⟩
  have hqil:Hid (qi.length≤100):=zi (by
   rw[hqi0];refine Nat.le_trans (setAll_len _ _) ?_;have e1:=filter_le (fun v:Vr=>if v.ptr then none else some (allN (strV v.nm))) (ps.take k);have e2:=filter_le (fun v:Vr=>if v.ptr then none else some (zeroN (strV v.nm))) (ls.take k);have e3:=filter_le (fun v:Vr=>if v.ptr then none else some (zeroN (strV v.nm))) ls;have e4:=List.length_take_le k ps;have e5:=List.length_take_le k ls;have e6:=hn1'.out;have e7:=hn2'.out;have e8:=hcn.out;simp only[List.length_append,List.length_cons,List.length_nil,celN,List.length_map,locN,parN]
   omega)
  have hlpl:Hid (lp.length≤100):=zi (by
   rw[hES.out.all.len];refine Nat.le_trans (setAll_len _ _) ?_;have e1:=filter_le (fun v:Vr=>if v.ptr then some (strV v.nm,(⟨true,canon cs⟩:Pz))else none) (ps.take k);have e2:=filter_le (fun v:Vr=>if v.ptr then some (strV v.nm,(⟨true,[]⟩:Pz))else none) (ls.take k);have e3:=filter_le (fun v:Vr=>if v.ptr then some (strV v.nm,(⟨true,[]⟩:Pz))else none) ls;have e4:=List.length_take_le k ps;have e5:=List.length_take_le k ls;have e6:=hn1'.out;have e7:=hn2'.out;simp only[List.length_append,locP,parP]
   omega)
  rw[←hqi0,←hqp0]at hES
  cases px with
  |true=>
   have hnN:Hid (setAll kN ([zeroN retB]++celN cs++locN ls++parN (ps.take (k+1)))=qi):=zi (by rw[hqi0,htN0];simp)
   have hnP:Hid (setAll kQ (locP ls++parP cs (ps.take (k+1)))=setL kQ qp (sx,⟨true,canon cs⟩)):=zi (by
    rw[hqp0,htP0];simp only[if_true]
    rw[←List.append_assoc,setAll_snoc])
   obtain⟨Aj,cj,ej,hrp,-⟩:=RowS.own (S:=Evr) hES.out.ptrs fun _ _=>trivial;injection ej with ei _ ec;subst ei ec;have hcr0:Row wq wq.heap.size Agc (cs.map encStr):=Row.more (RowS.keep (S:=fun x=>x<w0.heap.size) (fun x hx _=>hkeep.out wq hES.out.wr x hx) hc1.out) (Nat.le_trans hb1.out.size hES.out.wr.size);have cP:=setP_any wq.drew Ai Ap qi.length ki kp lp (hrp.up (Below.refl _ wq).drew) hlpl.out hES.out.c2le sx Agc cc cs (hcr0.below (Below.refl _ wq).drew) (by rw[hcn.out];exact hcc) (by rw[hcn.out];omega);rw[hcn.out]at cP;clear hcr0;have cP:=zi cP;replace hqi0:=zi hqi0;replace hqp0:=zi hqp0;have b0:=(fact_of hES.out.box 0 rfl).2;have b1:=(fact_of hES.out.box 1 rfl).2;have b2:=(fact_of hES.out.box 2 rfl).2;have b3:=hES.out.box.lt;have c0:=(fact_of (hFf.out wq hES.out.wr).2.1 0 rfl).2;have c1:=(hFf.out wq hES.out.wr).2.1.lt;clear hrr hrp htN0 htP0;go_upto_region 17 with(fail)
   go_still_tail 10,(by kernel_rfl)
   change wpList _ _ _ _ _ wq.drew;have hE1:=zi (hES.out.up (Below.refl _ wq).drew);have hBd:Hid (B≤wq.drew.heap.size):=zi hBq.out;obtain⟨wd,hwd⟩:∃y,y=wq.drew:=⟨_,rfl⟩;rw[←hwd]at hE1 cP hBd⊢;clear hwd b0 b1 b2 b3 z0 zl q0 q1 c0 c1;go_wp2_with fail;refine cP.out.mono ?_;clear cP;rintro e w2 ⟨A,c,Az,cz,he,ho,hrz,hb2⟩;unfold memV at he;subst he;have hE2:=hE1.out.up hb2;have b0:=(fact_of hE2.box 0 rfl).2;have b1:=(fact_of hE2.box 1 rfl).2;have b2:=(fact_of hE2.box 2 rfl).2;have b3:=hE2.box.lt;have f0:=hE2.box.frozen 0;have f1:=hE2.box.frozen 1;have f2:=hE2.box.frozen 2;have hE3:=hE2.setP hgmB.out (r:=⟨sx,true,Az,(canon cs).length,cz⟩) (q:=(sx,⟨true,canon cs⟩)) ⟨rfl,rfl,rfl,hrz⟩ (own_base ho hBd.out);have hE3:=zi hE3;clear hE2 ho hrz hb2 hE1 hES;go_wp2_with fail;refine⟨⟨k+1,_,_,_,_,_,hlt,by go_num,zi (by rw[hnN.out,hnP.out];exact hE3.out)⟩,?_⟩;simp[intOf];omega
  |false=>
   have hnP:Hid (setAll kQ (locP ls++parP cs (ps.take (k+1)))=qp):=zi (by rw[hqp0,htP0];simp)
   have hnN:Hid (setAll kN ([zeroN retB]++celN cs++locN ls++parN (ps.take (k+1)))=setL kN qi ⟨sx,true,-9223372036854775808,9223372036854775807⟩):=zi (by
    rw[hqi0,htN0];simp only[Bool.false_eq_true,if_false];rw[←List.append_assoc,setAll_snoc]
    rfl)
   replace hqi0:=zi hqi0;replace hqp0:=zi hqp0;clear hrr htN0 htP0;go_upto_region 18 with(fail);clear z0 zl q0 q1;refine wp_region_tabL ((eqv (.agg #[.bool true,.slice Ai qi.length ki,.slice Ap lp.length kp]))::(eqv (.pointer (some ⟨gf,1,none⟩)))::(eqv (.slice (some ⟨b,off,none⟩) n1 d1))::(eqv (.int .i64 k))::(eqv (.pointer (some ⟨b,off+k*2,none⟩)))::(eqv (.pointer (some ⟨b,off+k*2,none⟩)))::(eqv (.string sx))::(eqv (.agg #[.bool true,.int .i64 (-9223372036854775808),.int .i64 9223372036854775807]))::(fun L w v=>∃A c,v=memV A (setL kN qi ⟨sx,true,(-9223372036854775808),9223372036854775807⟩).length c Ap lp.length kp∧(L 9=false→w.ownsRow B 128 4 (.slice A (setL kN qi ⟨sx,true,(-9223372036854775808),9223372036854775807⟩).length c) (setL kN qi ⟨sx,true,(-9223372036854775808),9223372036854775807⟩).length ((setL kN qi ⟨sx,true,(-9223372036854775808),9223372036854775807⟩).flatMap encN)))::(fun _ _ _=>True)::[])
    (⟨[(5,none)],0,[9]⟩::⟨[(2,none)],0,[9]⟩::⟨[(85,some 1)],0,[9]⟩::⟨[(8,none)],0,[9]⟩::⟨[(86,some 2),(87,some 3)],0,[9]⟩::⟨[(88,some 4)],0,[9]⟩::⟨[(89,some 5)],0,[9]⟩::⟨[],0,[9]⟩::⟨[(84,some 0),(90,some 6),(91,some 7)],0,[9]⟩::⟨[(5,none),(92,some 8)],0,[]⟩::[])
    (no::no::no::no::no::no::no::no::no::no::no::no::no::no::no::no::no::no::no::no::no::no::no::no::no::no::no::no::no::no::no::no::no::no::no::no::no::no::no::no::no::no::no::no::no::no::no::no::no::no::no::no::no::no::no::no::no::no::no::no::no::no::no::no::no::no::no::no::no::no::no::no::no::no::no::no::no::no::no::no::no::no::no::no::so 0::so 1::so 2::so 3::so 4::so 5::so 6::so 7::so 8::[])
    (fun L w'=>CS 9 8 wq (fun w'=>∃A c,ES W1 B gm (setL kN qi ⟨sx,true,(-9223372036854775808),9223372036854775807⟩) qp A c Ap kp lp w') L w') (fun i w w'=>(i≠9→Below w.heap.size w w')) ?mixK18par ?okK18par ?tabK18par ?frK18par ?inK18par ?keptK18par ?startK18par ?eachK18par ?finK18par
   case mixK18par|okK18par|tabK18par|frK18par=>kernel_rfl
   case inK18par=>rfl
   case keptK18par=>exact⟨fun _ _ _ _ _ _ _ _ _ _ _ h=>h,fun _ _ _ _ _ _ _ _ _ _ _ h=>h,fun _ _ _ _ _ _ _ _ _ _ _ h=>h,fun _ _ _ _ _ _ _ _ _ _ _ h=>h,fun _ _ _ _ _ _ _ _ _ _ _ h=>h,fun _ _ _ _ _ _ _ _ _ _ _ h=>h,fun _ _ _ _ _ _ _ _ _ _ _ h=>h,fun _ _ _ _ _ _ _ _ _ _ _ h=>h,fun i hne hr L w w' v hLi hC hC' hG ⟨A,c,e,h⟩=>⟨A,c,e,fun h1=>by
      simp only[Bool.or_eq_false_iff,beq_eq_false_iff_ne]at h1
      exact own_below (h h1.2) (hG fun e=>h1.1 e.symm)⟩,fun _ _ _ _ _ _ _ _ _ _ _ h=>h,trivial⟩
   case startK18par=>exact⟨fun _=>(Below.refl _ _).drew,fun h=>by cases h⟩
   case eachK18par=>
    repeat' first|exact trivial|refine And.intro ?_ ?_
    ·intro w L f hC hLi hLd hLn ⟨a,_⟩;change _=_ at a;refine Step2.live rfl ?_;have h8:L 9=false:=hLn 9 (by simp);have hb0:Below wq.heap.size wq w:=hC.bel h8;have hh:=hES.out.box.below hb0 hES.out.box.lt;have hlt:=hh.lt;have f0:=(fact_of hh 0 rfl).2;have f1:=(fact_of hh 1 rfl).2;have f2:=(fact_of hh 2 rfl).2;obtain⟨ev,ec,ef⟩:=evs f;refine relUpon_value ?_ (hC.go h8 (by decide) (Below.refl _ _)) (fun _=>Below.refl _ _) rfl;go_simp
    iterate 2 (intro w L f hC hLi hLd hLn ⟨a,_⟩;change _=_ at a;refine Step2.live rfl ?_;have h8:L 9=false:=hLn 9 (by simp);have hb0:Below wq.heap.size wq w:=hC.bel h8;have hh:=hqf.out.below hb0 hqf.out.lt;have hlt:=hh.lt;have f0:=(fact_of hh 0 rfl).2;have f1:=(fact_of hh 1 rfl).2;have f2:=(fact_of hh 2 rfl).2;have f3:=(fact_of hh 3 rfl).2;obtain⟨ev,ec,ef⟩:=evs f;refine relUpon_value ?_ (hC.go h8 (by decide) (Below.refl _ _)) (fun _=>Below.refl _ _) rfl;go_simp)
    ·intro w L f hC hLi hLd hLn ⟨d,_⟩;refine Step2.live rfl ?_;exact relUpon_value (v:=f 8) rfl (hC.go (hLn 9 (by simp)) (by decide) (Below.refl _ _)) (fun _=>Below.refl _ _) d
    ·intro w L f hC hLi hLd hLn ⟨a,b,_⟩;change _=_ at a b;refine Step2.live rfl ?_;have h8:L 9=false:=hLn 9 (by simp);have hb0:Below wq.heap.size wq w:=hC.bel h8;have hlt:=Nat.lt_of_lt_of_le hqn.out.1 hb0.size;obtain⟨hkk,hkz⟩:=hkn.out;obtain⟨ev,ec,ef⟩:=evs f;refine relUpon_value ?_ (hC.go h8 (by decide) (Below.refl _ _)) (fun _=>Below.refl _ _) rfl;go_simp
    ·intro w L f hC hLi hLd hLn ⟨a,_⟩;change _=_ at a;refine Step2.live rfl ?_;obtain⟨ev,ec,ef⟩:=evs f;refine relUpon_value ?_ (hC.go (hLn 9 (by simp)) (by decide) (Below.refl _ _)) (fun _=>Below.refl _ _) rfl;go_simp
    ·intro w L f hC hLi hLd hLn ⟨a,_⟩;change _=_ at a;refine Step2.live rfl ?_;have h8:L 9=false:=hLn 9 (by simp);have hb0:Below wq.heap.size wq w:=hC.bel h8;have hlt:=Nat.lt_of_lt_of_le hqn.out.1 hb0.size;have q0:w.cell? _=_:=(World.cell?_of_block (hb0.block b hqn.out.1)).trans hqn.out.2;obtain⟨ev,ec,ef⟩:=evs f;refine relUpon_value ?_ (hC.go h8 (by decide) (Below.refl _ _)) (fun _=>Below.refl _ _) rfl;go_simp
    ·intro w L f hC hLi hLd hLn hF;refine Step2.live rfl ?_;have h8:L 9=false:=hLn 9 (by simp);have hb0:Below wq.heap.size wq w:=hC.bel h8;obtain⟨ev,ec,ef⟩:=evs f;refine relUpon_call (f:=61) (args:= #[]) (w:=w) (by go_simp) (refTop_any w) ?_;rintro e w1 ⟨he,hB⟩;exact⟨_,he,hC.go h8 (by decide) hB,fun _=>hB,rfl⟩
    ·intro w L f hC hLi hLd hLn ⟨a,b,c,_⟩;change _=_ at a b c;refine Step2.live rfl ?_;have h8:L 9=false:=hLn 9 (by simp);have hb0:Below wq.heap.size wq w:=hC.bel h8;have hE:=hES.out.up hb0;have hql:=hqil.out;obtain⟨Aj,cj,ej,hri,-⟩:=RowS.own (S:=Evr) hE.ints fun _ _=>trivial;injection ej with ei _ ec;subst ei ec;have hBw:=Nat.le_trans hBq.out hb0.size;obtain⟨ev,ec,ef⟩:=evs f;refine relUpon_call (f:=75) (args:= #[.agg #[.bool true,.slice Ai qi.length ki,.slice Ap lp.length kp],.string sx,.agg #[.bool true,.int .i64 (-9223372036854775808),.int .i64 9223372036854775807]]) (w:=w) (by go_simp<;>rfl) (setN_any w Ai Ap ki lp.length kp qi hri hql hE.c1le sx (-9223372036854775808) 9223372036854775807 (by decide)) ?_;rintro e w1 ⟨A,c,he,ho,hB⟩;exact⟨_,he,hC.go h8 (by decide) hB,fun _=>hB,A,c,rfl,fun _=>own_base ho hBw⟩
    ·intro w L f hC hLi hLd hLn ⟨a,d92,_⟩;change _=_ at a;refine Step2.live rfl ?_;have hb0:=hC.bel hLi;have hE:=hES.out.up hb0;obtain⟨A,c,e0,ho⟩:=d92;have hq:=hE.setN hgmB.out (ho hLi);have hlt:=hE.box.lt;have f0:=hE.box.frozen 0;have f1:=hE.box.frozen 1;have f2:=hE.box.frozen 2;have z0:=(fact_of hE.box 0 rfl).2;have z1:=(fact_of hE.box 1 rfl).2;have z2:=(fact_of hE.box 2 rfl).2;have d92:f 92= .agg #[.bool true,.slice A (setL kN qi ⟨sx,true,(-9223372036854775808),9223372036854775807⟩).length c,.slice Ap lp.length kp]:=e0;clear e0;obtain⟨ev,ec,ef⟩:=evs f;refine relUpon_skip ?_ (CS.last (hLd 8 (by decide)) ⟨A,c,hq⟩) (fun h=>absurd rfl h) trivial;go_simp
   intro x w' hC hV
   obtain⟨-,Ai',ki',hE1⟩:=hC.2 rfl;clear hV hC;rename World=>wb;rw[←hnN.out,←hnP.out]at hE1;have hE1:=zi hE1;simp only[framed];clear hES hqil hBq hqn hqf;go_wp2_with fail;refine⟨⟨k+1,_,_,_,_,_,hlt,by go_num,hE1⟩,?_⟩;simp[intOf];omega
 have hkn:k=n1:=by omega
 have g0:Hid (ES W1 B gm (setAll kN ([zeroN retB]++celN cs++locN ls++parN ps)) (setAll kQ (locP ls++parP cs ps)) Ai ki Ap kp lp wq):=zi (by have h:=hES.out;rw[hkn,hn1'.out,List.take_length]at h;exact h)
 have hltz:¬(k:Int)<(n1:Int):=by omega
 clear hES hlt hkn;go_upto_region 19 with(fail);have hHr:=(hFf.out wq g0.out.wr).2.2.1;have b0:=(fact_of g0.out.box 0 rfl).2;have b1:=(fact_of g0.out.box 1 rfl).2;have b2:=(fact_of g0.out.box 2 rfl).2;have b3:=g0.out.box.lt;have q0:=(fact_of hHr 0 rfl).2;have q1:=(fact_of hHr 1 rfl).2;have q2:=(fact_of hHr 2 rfl).2;have q3:=hHr.lt;have f0:=hHr.frozen 0;have f1:=hHr.frozen 1;have f2:=hHr.frozen 2;obtain⟨QI,hQI⟩:∃y,y=setAll kN ([zeroN retB]++celN cs++locN ls++parN ps):=⟨_,rfl⟩;obtain⟨QP,hQP⟩:∃y,y=setAll kQ (locP ls++parP cs ps):=⟨_,rfl⟩;rw[←hQI]at b1;rw[←hQI,←hQP]at g0;have hst:=writes_three wq gr (.bool true) (.slice Ai QI.length ki) (.slice Ap lp.length kp)
 have hfin:Hid (REntPost w0 ps ls cs (.returned (.agg #[.bool true,.slice Ai QI.length ki,.slice Ap lp.length kp])) (((wq.setCell ⟨gr,0,none⟩ (.bool true)).setCell ⟨gr,1,none⟩ (.slice Ai QI.length ki)).setCell ⟨gr,2,none⟩ (.slice Ap lp.length kp))):=zi (by
  have hg:=hg0.out;have hgB:=hgmB.out
  have hO1:=own_kept g0.out.ints hst fun j hj=>by simp at hj;omega
  have hO2:=own_kept g0.out.ptrs hst fun j hj=>by simp at hj;omega
  obtain⟨Aj,cj,ej,hri,-⟩:=RowS.own (S:=fun x=>x<(((wq.setCell ⟨gr,0,none⟩ (.bool true)).setCell ⟨gr,1,none⟩ (.slice Ai QI.length ki)).setCell ⟨gr,2,none⟩ (.slice Ap lp.length kp)).heap.size) hO1 fun g hg=>(hO1.lt g hg).2;injection ej with ei _ ec;subst ei ec;obtain⟨Aj,cj,ej,hrp,-⟩:=RowS.own (S:=fun x=>x<(((wq.setCell ⟨gr,0,none⟩ (.bool true)).setCell ⟨gr,1,none⟩ (.slice Ai QI.length ki)).setCell ⟨gr,2,none⟩ (.slice Ap lp.length kp)).heap.size) hO2 fun g hg=>(hO2.lt g hg).2;injection ej with ei _ ec;subst ei ec;unfold REntPost refN refP;rw[←hQI,←hQP];refine⟨Ai,ki,Ap,kp,lp,rfl,hri,hrp,g0.out.all.all fun r q hr=>⟨hr.1,hr.2.1,hr.2.2.1,row_kept hr.2.2.2 hHr (kinds3 (fun s e=>by cases e) fun s e=>by cases e) hst⟩,?_⟩
  exact(hb1.out.trans (g0.out.wr.below hb1.out.size fun j hj=>by simp at hj;omega)).trans (hst.below (Nat.le_trans hb1.out.size g0.out.wr.size) fun j hj=>by simp at hj;omega))
 have hh3:=zi (holds_three hHr (.bool true) (.slice Ai QI.length ki) (.slice Ap lp.length kp));replace hQI:=zi hQI;replace hQP:=zi hQP;clear hHr hst;go_wp2_with fail;exact ret_cellO rfl rfl (by simp) hh3.out Tryz.underlying56 Tryz.szMemS hfin.out
structure FnV where
 nm:List UInt8
 ps:List Vr
 ls:List Vr
 A1:Option Addr
 A2:Option Addr
 A3:Option Addr
 c1:Nat
 c2:Nat
 n3:Nat
 c3:Nat
def FnV.cells (F:FnV):Array Value:= #[.string (strV F.nm),.slice F.A1 F.ps.length F.c1,.slice F.A2 F.ls.length F.c2,.slice F.A3 F.n3 F.c3]
def FnV.ok (F:FnV) (w:World):Prop:=VrAt w Evr F.ps (.slice F.A1 F.ps.length F.c1)∧VrAt w Evr F.ls (.slice F.A2 F.ls.length F.c2)
def FnV.K (F:FnV):List UInt8→Nat:=kindL (F.ps++F.ls)
theorem FnV.ok.below {F:FnV} {w w':World} (h:F.ok w) (hb:Below w.heap.size w w'):F.ok w':=⟨h.1.keep fun x hx _=>hb.block x hx,h.2.keep fun x hx _=>hb.block x hx⟩
theorem kindF_any (F:FnV) (w:World) (h:F.ok w) (z:List UInt8):Calls Tryz.prog 142 #[.agg F.cells,.string (strV z)] w fun e w'=>e= .returned (.int .i64 (F.K z))∧Below w.heap.size w w':=
 kind_any w F.nm F.ps F.ls F.A1 F.A2 F.A3 F.c1 F.c2 F.n3 F.c3 h.1 h.2 z
theorem bne_cast (n:Nat):(((n:Nat):Int) !=2)=(n !=2):=by
 show(!((n:Int)==((2:Nat):Int)))= !(n==2);rw[beq_cast]
structure RfB (F:FnV) (g:Nat) (w0 w:World):Prop where
 hg:Holds w g 26 F.cells
 ok:F.ok w
 bl:Below w0.heap.size w0 w
section
variable {F:FnV} {g:Nat} {w0 w w':World}
theorem RfB.below (h:RfB F g w0 w) (hb:Below w.heap.size w w'):RfB F g w0 w':=⟨h.hg.below hb h.hg.lt,h.ok.below hb,h.bl.trans (hb.mono h.bl.size)⟩
theorem RfB.new (h:F.ok w):RfB F w.heap.size w (w.alloc (.cells F.cells 26)):=⟨Holds.new w _ _,h.below (below_new w _),below_new w _⟩
theorem RfB.facts (h:RfB F g w0 w):w.cell? ⟨g,0,none⟩=some (.string (strV F.nm))∧w.cell? ⟨g,1,none⟩=some (.slice F.A1 F.ps.length F.c1)∧w.cell? ⟨g,2,none⟩=some (.slice F.A2 F.ls.length F.c2)∧w.cell? ⟨g,3,none⟩=some (.slice F.A3 F.n3 F.c3)∧g<w.heap.size:=
 ⟨h.hg.cell 0,h.hg.cell 1,h.hg.cell 2,h.hg.cell 3,h.hg.lt⟩
end
theorem ints_any (F:FnV):∀(e:Ex) (w:World) (v:Value),F.ok w→ExAt w Evr e v→Calls Tryz.prog 144 #[.agg F.cells,v] w fun e' w'=>e'= .returned (.bool (intsF F.K e))∧Below w.heap.size w w'
 | .nil,w,v,hF,h=>by
  obtain rfl:v= .pointer none:=h;have hb:=zi (below_new w (.cells F.cells 26));unfold FnV.cells at hb⊢;go_enter Tryz.func144,Tryz.ntmps144;go_wp2_with fail;go_ret;exact⟨rfl,hb.out⟩
 | .mk k n nm a b,w,v,hF,h=>by
  have hR:=RfB.new hF;obtain⟨gx,va,vb,rfl,-,hn,hk,hH,ha,hb⟩:=h;have hbn:=below_new w (.cells F.cells 26);obtain⟨w1,hw1⟩:∃y,y=w.alloc (.cells F.cells 26):=⟨_,rfl⟩;obtain⟨g,hg⟩:∃y,y=w.heap.size:=⟨_,rfl⟩;rw[←hw1,←hg]at hR;rw[←hw1]at hbn;have hH1:=zi (hH.below hbn hH.lt);have ha1:=zi (ha.below hbn);have hb1:=zi (hb.below hbn);have hR1:=zi hR;have hfo:=zi hw1.symm;have hg':=zi hg.symm;obtain⟨pa,rfl⟩:=ha.vp;obtain⟨pb,rfl⟩:=hb.vp;obtain⟨R,hRR⟩:∃R,R=intsF F.K (.mk k n nm a b):=⟨_,rfl⟩;rw[←hRR];have hRR':=zi hRR;unfold FnV.cells at hfo;clear hR hbn hw1 hg hH ha hb hF hRR;unfold FnV.cells;have q0:w1.cell? ⟨gx,0,none⟩=some (.int .i64 k):=hH1.out.cell 0;have q2:w1.cell? ⟨gx,2,none⟩=some (.string (strV nm)):=hH1.out.cell 2;have q3:w1.cell? ⟨gx,3,none⟩=some (.pointer pa):=hH1.out.cell 3;have q4:w1.cell? ⟨gx,4,none⟩=some (.pointer pb):=hH1.out.cell 4;have qx:=hH1.out.lt;obtain⟨p0,p1,p2,p3,pl⟩:=hR1.out.facts;go_enter Tryz.func144,Tryz.ntmps144;go_upto_region 1 with(fail);rw[hfo.out,hg'.out];clear hfo hg';obtain⟨wW,hwd⟩:∃y,y=w1.drew:=⟨_,rfl⟩
  have hbd:Below w1.heap.size w1 wW:=by rw[hwd];exact(Below.refl _ w1).drew
  have hRd:=zi (hR1.out.below hbd);have had:=zi (ha1.out.below hbd);have hbd':=zi (hb1.out.below hbd);have hHd:=zi (hH1.out.below hbd hH1.out.lt);have hfd:=zi hwd.symm;clear hwd hbd hR1 ha1 hb1 hH1;by_cases hk1:k=1
  ·subst hk1;have hR2:Hid (R=(F.K nm !=2)):=zi (by rw[hRR'.out];unfold intsF;rw[if_pos rfl]);have hc:=zi (kindF_any F wW hRd.out.ok nm);unfold FnV.cells at hc;go_wp2_with fail
   go_still_tail 5,(by kernel_rfl)
   change wpList _ _ _ _ _ w1.drew;rw[hfd.out];clear q0 q2 q3 q4 qx p0 p1 p2 p3 pl hfd;go_wp2_with fail;refine hc.out.mono ?_;rintro e5 w5 ⟨rfl,hb5⟩;have hB5:=zi (hRd.out.below hb5).bl;clear hb5 hc;go_wp2_with fail;go_ret;refine⟨?_,hB5.out⟩;rw[hR2.out];exact congrArg (fun b=>Ending.returned (.bool b)) (bne_cast (F.K nm))
  ·have hR2:Hid (R=(intsF F.K a&&intsF F.K b)):=zi (by rw[hRR'.out];conv=>lhs;unfold intsF;rw[if_neg hk1])
   have hk2:((k:Int)==1)=false:=by simp;omega
   have cx:=zi fun(w:World) (hb:Below wW.heap.size wW w)=>ints_any F a w _ (hRd.out.ok.below hb) (had.out.below hb);have cb:=zi fun(w:World) (hb:Below wW.heap.size wW w)=>ints_any F b w _ (hRd.out.ok.below hb) (hbd'.out.below hb)
   have hfc:Hid (∀w:World,Below wW.heap.size wW w→w.cell? ⟨g,0,none⟩=some (.string (strV F.nm))∧w.cell? ⟨g,1,none⟩=some (.slice F.A1 F.ps.length F.c1)∧w.cell? ⟨g,2,none⟩=some (.slice F.A2 F.ls.length F.c2)∧w.cell? ⟨g,3,none⟩=some (.slice F.A3 F.n3 F.c3)∧g<w.heap.size∧w.cell? ⟨gx,3,none⟩=some (.pointer pa)∧w.cell? ⟨gx,4,none⟩=some (.pointer pb)∧gx<w.heap.size):=zi fun w hb=>by obtain⟨x0,x1,x2,x3,xl⟩:=(hRd.out.below hb).facts;have hx:=hHd.out.below hb hHd.out.lt;exact⟨x0,x1,x2,x3,xl,hx.cell 3,hx.cell 4,hx.lt⟩
   unfold FnV.cells at cx cb;have hBd:=zi hRd.out.bl;clear hk1;go_wp2_with fail;clear q0 q2 q3 q4 qx p0 p1 p2 p3 pl hRd had hbd' hHd hRR';have hgo:Hid (Below wW.heap.size wW w1.drew):=zi (by rw[hfd.out];exact Below.refl _ _);clear hfd
   cases hA:intsF F.K a with
   |false=>
    have hR3:Hid (R=false):=zi (by rw[hR2.out,hA];rfl);rw[hA]at cx;have ca:=cx;clear hA cx;refine wp_region_tabL ((eqv (.agg #[.string (strV F.nm),.slice F.A1 F.ps.length F.c1,.slice F.A2 F.ls.length F.c2,.slice F.A3 F.n3 F.c3]))::(eqv (.pointer (some ⟨gx,0,none⟩)))::(eqv (.pointer (some ⟨gx,0,none⟩)))::(eqv (.pointer (some ⟨gx,3,none⟩)))::(eqv (.pointer pa))::(eqv (.bool false))::(eqv (.bool false))::eud::eud::eud::eud::eud::eud::(eqv (.bool false))::(eqv (.bool false))::[])
     ((rn1 2)::(rn1 1)::(rd1 20 1)::(rd1 21 2)::(rd1 22 3)::⟨[(19,some 0),(23,some 4)],0,[]⟩::(rd1 24 5)::(rq1 2 25 6)::(rq1 1 25 6)::(rg1 27 8 25 6)::(rg1 28 9 25 6)::(rg1 29 10 25 6)::⟨[(26,some 7),(30,some 11),(25,some 6)],25,[]⟩::⟨[(25,some 6),(31,some 12)],0,[]⟩::(rd1 32 13)::[])
     (no::no::no::no::so 14::no::no::no::no::no::no::no::no::no::no::no::no::no::no::so 0::so 1::so 2::so 3::so 4::so 5::so 6::so 7::so 8::so 9::so 10::so 11::so 12::so 13::[])
     (fun _ w'=>Below wW.heap.size wW w') (fun _ w w'=>Below w.heap.size w w') ?mixK5intsF ?okK5intsF ?tabK5intsF ?frK5intsF ?inK5intsF ?keptK5intsF ?startK5intsF ?eachK5intsF ?finK5intsF
    case mixK5intsF|okK5intsF|tabK5intsF|frK5intsF=>kernel_rfl
    case inK5intsF=>rfl
    case keptK5intsF=>((repeat refine⟨fun _ _ _ _ _ _ _ _ _ _ _ h=>h,?_⟩);exact trivial)
    case startK5intsF=>exact hgo.out
    case eachK5intsF=>
     repeat' first|exact trivial|refine And.intro ?_ ?_
     ·intro w L f hC hLi hLd hLn ⟨a,_⟩;change _=_ at a;refine Step2.live rfl ?_;obtain⟨p0,p1,p2,p3,pl,q3,q4,qx⟩:=hfc.out w hC;obtain⟨ev,ec,ef⟩:=evs f;refine relUpon_value ?_ hC (Below.refl _ _) rfl;go_simp
     ·intro w L f hC hLi hLd hLn ⟨d,_⟩;refine Step2.live rfl ?_;exact relUpon_value (v:=f 1) rfl (hC) (Below.refl _ _) d
     iterate 3 (intro w L f hC hLi hLd hLn ⟨a,_⟩;change _=_ at a;refine Step2.live rfl ?_;obtain⟨p0,p1,p2,p3,pl,q3,q4,qx⟩:=hfc.out w hC;obtain⟨ev,ec,ef⟩:=evs f;refine relUpon_value ?_ hC (Below.refl _ _) rfl;go_simp)
     ·intro w L f hC hLi hLd hLn ⟨a,b,_⟩;change _=_ at a b;refine Step2.live rfl ?_;obtain⟨ev,ec,ef⟩:=evs f;refine relUpon_call (f:=144) (args:= #[.agg #[.string (strV F.nm),.slice F.A1 F.ps.length F.c1,.slice F.A2 F.ls.length F.c2,.slice F.A3 F.n3 F.c3],.pointer pa]) (w:=w) (by go_simp) (ca.out w hC) ?_;rintro e w1 ⟨he,hB⟩;exact⟨_,he,hC.trans (hB.mono hC.size),hB,rfl⟩
     ·intro w L f hC hLi hLd hLn ⟨d,_⟩;refine Step2.live rfl ?_;exact relUpon_value (v:=f 24) rfl (hC) (Below.refl _ _) d
     iterate 5 (intro w L f hC hLi hLd hLn ⟨_,d,_⟩;refine StepL2.dead (show wantedBy _ (f 25)=false by rw[show f 25=_ from d];rfl) (hC) ?_ (Below.refl _ _);exact rfl)
     ·intro w L f hC hLi hLd hLn ⟨_,_,d,_⟩;refine StepL2.dead (show wantedBy _ (f 25)=false by rw[show f 25=_ from d];rfl) (hC) ?_ (Below.refl _ _);exact rfl
     ·intro w L f hC hLi hLd hLn ⟨a,b,_⟩;change _=_ at a b;refine Step2.live rfl ?_;obtain⟨ev,ec,ef⟩:=evs f;refine relUpon_value ?_ (hC) (Below.refl _ _) rfl;go_simp
     ·intro w L f hC hLi hLd hLn ⟨d,_⟩;refine Step2.live rfl ?_;exact relUpon_value (v:=f 32) rfl (hC) (Below.refl _ _) d
    intro x w' hC hV
    have e4:=hV 14 _ rfl rfl;have hC':=zi (hBd.out.trans (hC.mono hBd.out.size));clear hV hC;simp only[framed];rw[e4];go_wp2_with fail;go_ret;exact⟨by rw[hR3.out];rfl,hC'.out⟩
   |true=>
    have hR3:Hid (R=intsF F.K b):=zi (by rw[hR2.out,hA];rfl);rw[hA]at cx;have ca:=cx;clear hA cx;refine wp_region_tabL ((eqv (.agg #[.string (strV F.nm),.slice F.A1 F.ps.length F.c1,.slice F.A2 F.ls.length F.c2,.slice F.A3 F.n3 F.c3]))::(eqv (.pointer (some ⟨gx,0,none⟩)))::(eqv (.pointer (some ⟨gx,0,none⟩)))::(eqv (.pointer (some ⟨gx,3,none⟩)))::(eqv (.pointer pa))::(eqv (.bool true))::(eqv (.bool true))::(eqv (.agg #[.string (strV F.nm),.slice F.A1 F.ps.length F.c1,.slice F.A2 F.ls.length F.c2,.slice F.A3 F.n3 F.c3]))::(eqv (.pointer (some ⟨gx,0,none⟩)))::(eqv (.pointer (some ⟨gx,0,none⟩)))::(eqv (.pointer (some ⟨gx,4,none⟩)))::(eqv (.pointer pb))::(eqv (.bool (intsF F.K b)))::(eqv (.bool (intsF F.K b)))::(eqv (.bool (intsF F.K b)))::[])
     ((rn1 2)::(rn1 1)::(rd1 20 1)::(rd1 21 2)::(rd1 22 3)::⟨[(19,some 0),(23,some 4)],0,[]⟩::(rd1 24 5)::(rq1 2 25 6)::(rq1 1 25 6)::(rg1 27 8 25 6)::(rg1 28 9 25 6)::(rg1 29 10 25 6)::⟨[(26,some 7),(30,some 11),(25,some 6)],25,[]⟩::⟨[(25,some 6),(31,some 12)],0,[]⟩::(rd1 32 13)::[])
     (no::no::no::no::so 14::no::no::no::no::no::no::no::no::no::no::no::no::no::no::so 0::so 1::so 2::so 3::so 4::so 5::so 6::so 7::so 8::so 9::so 10::so 11::so 12::so 13::[])
     (fun _ w'=>Below wW.heap.size wW w') (fun _ w w'=>Below w.heap.size w w') ?mixK5intsT ?okK5intsT ?tabK5intsT ?frK5intsT ?inK5intsT ?keptK5intsT ?startK5intsT ?eachK5intsT ?finK5intsT
    case mixK5intsT|okK5intsT|tabK5intsT|frK5intsT=>kernel_rfl
    case inK5intsT=>rfl
    case keptK5intsT=>((repeat refine⟨fun _ _ _ _ _ _ _ _ _ _ _ h=>h,?_⟩);exact trivial)
    case startK5intsT=>exact hgo.out
    case eachK5intsT=>
     repeat' first|exact trivial|refine And.intro ?_ ?_
     ·intro w L f hC hLi hLd hLn ⟨a,_⟩;change _=_ at a;refine Step2.live rfl ?_;obtain⟨p0,p1,p2,p3,pl,q3,q4,qx⟩:=hfc.out w hC;obtain⟨ev,ec,ef⟩:=evs f;refine relUpon_value ?_ hC (Below.refl _ _) rfl;go_simp
     ·intro w L f hC hLi hLd hLn ⟨d,_⟩;refine Step2.live rfl ?_;exact relUpon_value (v:=f 1) rfl (hC) (Below.refl _ _) d
     iterate 3 (intro w L f hC hLi hLd hLn ⟨a,_⟩;change _=_ at a;refine Step2.live rfl ?_;obtain⟨p0,p1,p2,p3,pl,q3,q4,qx⟩:=hfc.out w hC;obtain⟨ev,ec,ef⟩:=evs f;refine relUpon_value ?_ hC (Below.refl _ _) rfl;go_simp)
     ·intro w L f hC hLi hLd hLn ⟨a,b,_⟩;change _=_ at a b;refine Step2.live rfl ?_;obtain⟨ev,ec,ef⟩:=evs f;refine relUpon_call (f:=144) (args:= #[.agg #[.string (strV F.nm),.slice F.A1 F.ps.length F.c1,.slice F.A2 F.ls.length F.c2,.slice F.A3 F.n3 F.c3],.pointer pa]) (w:=w) (by go_simp) (ca.out w hC) ?_;rintro e w1 ⟨he,hB⟩;exact⟨_,he,hC.trans (hB.mono hC.size),hB,rfl⟩
     ·intro w L f hC hLi hLd hLn ⟨d,_⟩;refine Step2.live rfl ?_;exact relUpon_value (v:=f 24) rfl (hC) (Below.refl _ _) d
     ·intro w L f hC hLi hLd hLn ⟨a,d25,_⟩;change _=_ at a d25;refine Step2.live (show wantedBy _ (f 25)=true by rw[d25];rfl) ?_;obtain⟨p0,p1,p2,p3,pl,q3,q4,qx⟩:=hfc.out w hC;obtain⟨ev,ec,ef⟩:=evs f;refine relUpon_value ?_ hC (Below.refl _ _) rfl;go_simp
     ·intro w L f hC hLi hLd hLn ⟨d1,d25,_⟩;change _=_ at d1 d25;refine Step2.live (show wantedBy _ (f 25)=true by rw[d25];rfl) ?_;exact relUpon_value (v:=f 1) rfl (hC) (Below.refl _ _) d1
     iterate 3 (intro w L f hC hLi hLd hLn ⟨a,d25,_⟩;change _=_ at a d25;refine Step2.live (show wantedBy _ (f 25)=true by rw[d25];rfl) ?_;obtain⟨p0,p1,p2,p3,pl,q3,q4,qx⟩:=hfc.out w hC;obtain⟨ev,ec,ef⟩:=evs f;refine relUpon_value ?_ hC (Below.refl _ _) rfl;go_simp)
     ·intro w L f hC hLi hLd hLn ⟨a,b,d25,_⟩;change _=_ at a b d25;refine Step2.live (show wantedBy _ (f 25)=true by rw[d25];rfl) ?_;obtain⟨ev,ec,ef⟩:=evs f;refine relUpon_call (f:=144) (args:= #[.agg #[.string (strV F.nm),.slice F.A1 F.ps.length F.c1,.slice F.A2 F.ls.length F.c2,.slice F.A3 F.n3 F.c3],.pointer pb]) (w:=w) (by go_simp) (cb.out w hC) ?_;rintro e w1 ⟨he,hB⟩;exact⟨_,he,hC.trans (hB.mono hC.size),hB,rfl⟩
     ·intro w L f hC hLi hLd hLn ⟨a,b,_⟩;change _=_ at a b;refine Step2.live rfl ?_;obtain⟨ev,ec,ef⟩:=evs f;refine relUpon_value ?_ (hC) (Below.refl _ _) rfl;go_simp
     ·intro w L f hC hLi hLd hLn ⟨d,_⟩;refine Step2.live rfl ?_;exact relUpon_value (v:=f 32) rfl (hC) (Below.refl _ _) d
    intro x w' hC hV
    have e4:=hV 14 _ rfl rfl;have hC':=zi (hBd.out.trans (hC.mono hBd.out.size));clear hV hC;simp only[framed];rw[e4];go_wp2_with fail;go_ret;exact⟨by rw[hR3.out];rfl,hC'.out⟩
theorem conds_any (F:FnV):∀(e:Cn) (w:World) (v:Value),F.ok w→CnAt w Evr e v→Calls Tryz.prog 145 #[.agg F.cells,v] w fun e' w'=>e'= .returned (.bool (condsF F.K e))∧Below w.heap.size w w'
 | .nil,w,v,hF,h=>by
  obtain rfl:v= .pointer none:=h;have hb:=zi (below_new w (.cells F.cells 26));unfold FnV.cells at hb⊢;go_enter Tryz.func145,Tryz.ntmps145;go_wp2_with fail;go_ret;exact⟨rfl,hb.out⟩
 | .mk k a b p q nm,w,v,hF,h=>by
  have hR:=RfB.new hF;obtain⟨gx,va,vb,vp,vq,rfl,-,hn,hk,hH,ha,hb,hp,hq⟩:=h;have hbn:=below_new w (.cells F.cells 26);obtain⟨w1,hw1⟩:∃y,y=w.alloc (.cells F.cells 26):=⟨_,rfl⟩;obtain⟨g,hg⟩:∃y,y=w.heap.size:=⟨_,rfl⟩;rw[←hw1,←hg]at hR;rw[←hw1]at hbn;have hH1:=zi (hH.below hbn hH.lt);have ha1:=zi (ha.below hbn);have hb1:=zi (hb.below hbn);have hp1:=zi (hp.keep fun x hx _=>hbn.block x hx);have hq1:=zi (hq.keep fun x hx _=>hbn.block x hx);have hR1:=zi hR;have hfo:=zi hw1.symm;have hg':=zi hg.symm;obtain⟨pa,rfl⟩:=ha.vp;obtain⟨pb,rfl⟩:=hb.vp;obtain⟨pp,rfl⟩:=hp.vp;obtain⟨pq,rfl⟩:=hq.vp;obtain⟨R,hRR⟩:∃R,R=condsF F.K (.mk k a b p q nm):=⟨_,rfl⟩;rw[←hRR];have hRR':=zi hRR;unfold FnV.cells at hfo;clear hR hbn hw1 hg hH ha hb hp hq hF hRR;unfold FnV.cells;have q0:w1.cell? ⟨gx,0,none⟩=some (.int .i64 k):=hH1.out.cell 0;have q5:w1.cell? ⟨gx,5,none⟩=some (.string (strV nm)):=hH1.out.cell 5;have qx:=hH1.out.lt;obtain⟨p0,p1,p2,p3,pl⟩:=hR1.out.facts;go_enter Tryz.func145,Tryz.ntmps145;go_upto_region 1 with(fail);rw[hfo.out,hg'.out];clear hfo hg'
  obtain⟨wW,hwd⟩:∃y,y=w1.drew:=⟨_,rfl⟩
  have hbd:Below w1.heap.size w1 wW:=by rw[hwd];exact(Below.refl _ w1).drew
  have hRd:=zi (hR1.out.below hbd);have had:=zi (ha1.out.below hbd);have hbd':=zi (hb1.out.below hbd);have hpd:=zi (hp1.out.keep fun x hx _=>hbd.block x hx);have hqd:=zi (hq1.out.keep fun x hx _=>hbd.block x hx);have hHd:=zi (hH1.out.below hbd hH1.out.lt);have hfd:=zi hwd.symm;clear hwd hbd hR1 ha1 hb1 hp1 hq1 hH1;by_cases hk1:k=9
  ·subst hk1;have hR2:Hid (R=(F.K nm==2)):=zi (by rw[hRR'.out];unfold condsF;rw[if_pos rfl]);have hc:=zi (kindF_any F wW hRd.out.ok nm);unfold FnV.cells at hc;go_wp2_with fail
   go_still_tail 5,(by kernel_rfl)
   change wpList _ _ _ _ _ w1.drew;rw[hfd.out];clear q0 q5 qx p0 p1 p2 p3 pl hfd;go_wp2_with fail;refine hc.out.mono ?_;rintro e5 w5 ⟨rfl,hb5⟩;have hB5:=zi (hRd.out.below hb5).bl;clear hb5 hc;go_wp2_with fail;go_ret;refine⟨?_,hB5.out⟩;rw[hR2.out];exact congrArg (fun b=>Ending.returned (.bool b)) (beq_cast (F.K nm) 2)
  ·have hR2:Hid (R=(intsF F.K a&&intsF F.K b&&condsF F.K p&&condsF F.K q)):=zi (by rw[hRR'.out];conv=>lhs;unfold condsF;rw[if_neg hk1])
   have hk2:((k:Int)==9)=false:=by simp;omega
   have cxa:=zi fun(w:World) (hb:Below wW.heap.size wW w)=>ints_any F a w _ (hRd.out.ok.below hb) (had.out.below hb);have cxb:=zi fun(w:World) (hb:Below wW.heap.size wW w)=>ints_any F b w _ (hRd.out.ok.below hb) (hbd'.out.below hb);have cxp:=zi fun(w:World) (hb:Below wW.heap.size wW w)=>conds_any F p w _ (hRd.out.ok.below hb) (hpd.out.keep fun x hx _=>hb.block x hx);have cq:=zi fun(w:World) (hb:Below wW.heap.size wW w)=>conds_any F q w _ (hRd.out.ok.below hb) (hqd.out.keep fun x hx _=>hb.block x hx)
   have hfc:Hid (∀w:World,Below wW.heap.size wW w→w.cell? ⟨g,0,none⟩=some (.string (strV F.nm))∧w.cell? ⟨g,1,none⟩=some (.slice F.A1 F.ps.length F.c1)∧w.cell? ⟨g,2,none⟩=some (.slice F.A2 F.ls.length F.c2)∧w.cell? ⟨g,3,none⟩=some (.slice F.A3 F.n3 F.c3)∧g<w.heap.size∧w.cell? ⟨gx,1,none⟩=some (.pointer pa)∧w.cell? ⟨gx,2,none⟩=some (.pointer pb)∧w.cell? ⟨gx,3,none⟩=some (.pointer pp)∧w.cell? ⟨gx,4,none⟩=some (.pointer pq)∧gx<w.heap.size):=zi fun w hb=>by obtain⟨x0,x1,x2,x3,xl⟩:=(hRd.out.below hb).facts;have hx:=hHd.out.below hb hHd.out.lt;exact⟨x0,x1,x2,x3,xl,hx.cell 1,hx.cell 2,hx.cell 3,hx.cell 4,hx.lt⟩
   unfold FnV.cells at cxa cxb cxp cq;have hBd:=zi hRd.out.bl;clear hk1;go_wp2_with fail;clear q0 q5 qx p0 p1 p2 p3 pl hRd had hbd' hpd hqd hHd hRR';have hgo:Hid (Below wW.heap.size wW w1.drew):=zi (by rw[hfd.out];exact Below.refl _ _);clear hfd
   cases hA:intsF F.K a with
   |false=>
    have hR3:Hid (R=false):=zi (by rw[hR2.out,hA];simp);rw[hA]at cxa;have ca:=cxa;clear hA cxa;refine wp_region_tabL ((eqv (.agg #[.string (strV F.nm),.slice F.A1 F.ps.length F.c1,.slice F.A2 F.ls.length F.c2,.slice F.A3 F.n3 F.c3]))::(eqv (.pointer (some ⟨gx,0,none⟩)))::(eqv (.pointer (some ⟨gx,0,none⟩)))::(eqv (.pointer (some ⟨gx,1,none⟩)))::(eqv (.pointer pa))::(eqv (.bool false))::(eqv (.bool false))::eud::eud::eud::eud::eud::eud::(eqv (.bool false))::(eqv (.bool false))::eud::eud::eud::eud::eud::eud::(eqv (.bool false))::(eqv (.bool false))::eud::eud::eud::eud::eud::eud::(eqv (.bool false))::(eqv (.bool false))::[])
     ((rn1 2)::(rn1 1)::(rd1 20 1)::(rd1 21 2)::(rd1 22 3)::⟨[(19,some 0),(23,some 4)],0,[]⟩::(rd1 24 5)::(rq1 2 25 6)::(rq1 1 25 6)::(rg1 27 8 25 6)::(rg1 28 9 25 6)::(rg1 29 10 25 6)::⟨[(26,some 7),(30,some 11),(25,some 6)],25,[]⟩::⟨[(25,some 6),(31,some 12)],0,[]⟩::(rd1 32 13)::(rq1 2 33 14)::(rq1 1 33 14)::(rg1 35 16 33 14)::(rg1 36 17 33 14)::(rg1 37 18 33 14)::⟨[(34,some 15),(38,some 19),(33,some 14)],33,[]⟩::⟨[(33,some 14),(39,some 20)],0,[]⟩::(rd1 40 21)::(rq1 2 41 22)::(rq1 1 41 22)::(rg1 43 24 41 22)::(rg1 44 25 41 22)::(rg1 45 26 41 22)::⟨[(42,some 23),(46,some 27),(41,some 22)],41,[]⟩::⟨[(41,some 22),(47,some 28)],0,[]⟩::(rd1 48 29)::[])
     (no::no::no::no::so 30::no::no::no::no::no::no::no::no::no::no::no::no::no::no::so 0::so 1::so 2::so 3::so 4::so 5::so 6::so 7::so 8::so 9::so 10::so 11::so 12::so 13::so 14::so 15::so 16::so 17::so 18::so 19::so 20::so 21::so 22::so 23::so 24::so 25::so 26::so 27::so 28::so 29::[])
     (fun _ w'=>Below wW.heap.size wW w') (fun _ w w'=>Below w.heap.size w w') ?mixK5condsA ?okK5condsA ?tabK5condsA ?frK5condsA ?inK5condsA ?keptK5condsA ?startK5condsA ?eachK5condsA ?finK5condsA
    case mixK5condsA|okK5condsA|tabK5condsA|frK5condsA=>kernel_rfl
    case inK5condsA=>rfl
    case keptK5condsA=>((repeat refine⟨fun _ _ _ _ _ _ _ _ _ _ _ h=>h,?_⟩);exact trivial)
    case startK5condsA=>exact hgo.out
    case eachK5condsA=>
     repeat' first|exact trivial|refine And.intro ?_ ?_
     ·intro w L f hC hLi hLd hLn ⟨a,_⟩;change _=_ at a;refine Step2.live rfl ?_;obtain⟨p0,p1,p2,p3,pl,q1,q2,q3,q4,qx⟩:=hfc.out w hC;obtain⟨ev,ec,ef⟩:=evs f;refine relUpon_value ?_ hC (Below.refl _ _) rfl;go_simp
     ·intro w L f hC hLi hLd hLn ⟨d,_⟩;refine Step2.live rfl ?_;exact relUpon_value (v:=f 1) rfl (hC) (Below.refl _ _) d
     iterate 3 (intro w L f hC hLi hLd hLn ⟨a,_⟩;change _=_ at a;refine Step2.live rfl ?_;obtain⟨p0,p1,p2,p3,pl,q1,q2,q3,q4,qx⟩:=hfc.out w hC;obtain⟨ev,ec,ef⟩:=evs f;refine relUpon_value ?_ hC (Below.refl _ _) rfl;go_simp)
     ·intro w L f hC hLi hLd hLn ⟨a,b,_⟩;change _=_ at a b;refine Step2.live rfl ?_;obtain⟨ev,ec,ef⟩:=evs f;refine relUpon_call (f:=144) (args:= #[.agg #[.string (strV F.nm),.slice F.A1 F.ps.length F.c1,.slice F.A2 F.ls.length F.c2,.slice F.A3 F.n3 F.c3],.pointer pa]) (w:=w) (by go_simp) (ca.out w hC) ?_;rintro e w1 ⟨he,hB⟩;exact⟨_,he,hC.trans (hB.mono hC.size),hB,rfl⟩
     ·intro w L f hC hLi hLd hLn ⟨d,_⟩;refine Step2.live rfl ?_;exact relUpon_value (v:=f 24) rfl (hC) (Below.refl _ _) d
     iterate 5 (intro w L f hC hLi hLd hLn ⟨_,d,_⟩;refine StepL2.dead (show wantedBy _ (f 25)=false by rw[show f 25=_ from d];rfl) (hC) ?_ (Below.refl _ _);exact rfl)
     ·intro w L f hC hLi hLd hLn ⟨_,_,d,_⟩;refine StepL2.dead (show wantedBy _ (f 25)=false by rw[show f 25=_ from d];rfl) (hC) ?_ (Below.refl _ _);exact rfl
     ·intro w L f hC hLi hLd hLn ⟨a,b,_⟩;change _=_ at a b;refine Step2.live rfl ?_;obtain⟨ev,ec,ef⟩:=evs f;refine relUpon_value ?_ (hC) (Below.refl _ _) rfl;go_simp
     ·intro w L f hC hLi hLd hLn ⟨d,_⟩;refine Step2.live rfl ?_;exact relUpon_value (v:=f 32) rfl (hC) (Below.refl _ _) d
     iterate 5 (intro w L f hC hLi hLd hLn ⟨_,d,_⟩;refine StepL2.dead (show wantedBy _ (f 33)=false by rw[show f 33=_ from d];rfl) (hC) ?_ (Below.refl _ _);exact rfl)
     ·intro w L f hC hLi hLd hLn ⟨_,_,d,_⟩;refine StepL2.dead (show wantedBy _ (f 33)=false by rw[show f 33=_ from d];rfl) (hC) ?_ (Below.refl _ _);exact rfl
     ·intro w L f hC hLi hLd hLn ⟨a,b,_⟩;change _=_ at a b;refine Step2.live rfl ?_;obtain⟨ev,ec,ef⟩:=evs f;refine relUpon_value ?_ (hC) (Below.refl _ _) rfl;go_simp
     ·intro w L f hC hLi hLd hLn ⟨d,_⟩;refine Step2.live rfl ?_;exact relUpon_value (v:=f 40) rfl (hC) (Below.refl _ _) d
     iterate 5 (intro w L f hC hLi hLd hLn ⟨_,d,_⟩;refine StepL2.dead (show wantedBy _ (f 41)=false by rw[show f 41=_ from d];rfl) (hC) ?_ (Below.refl _ _);exact rfl)
     ·intro w L f hC hLi hLd hLn ⟨_,_,d,_⟩;refine StepL2.dead (show wantedBy _ (f 41)=false by rw[show f 41=_ from d];rfl) (hC) ?_ (Below.refl _ _);exact rfl
     ·intro w L f hC hLi hLd hLn ⟨a,b,_⟩;change _=_ at a b;refine Step2.live rfl ?_;obtain⟨ev,ec,ef⟩:=evs f;refine relUpon_value ?_ (hC) (Below.refl _ _) rfl;go_simp
     ·intro w L f hC hLi hLd hLn ⟨d,_⟩;refine Step2.live rfl ?_;exact relUpon_value (v:=f 48) rfl (hC) (Below.refl _ _) d
    intro x w' hC hV
    have e4:=hV 30 _ rfl rfl;have hC':=zi (hBd.out.trans (hC.mono hBd.out.size));clear hV hC;simp only[framed];rw[e4];go_wp2_with fail;go_ret;exact⟨by rw[hR3.out];rfl,hC'.out⟩
   |true=>
    rw[hA]at cxa;have ca:=cxa;clear cxa
    cases hB2:intsF F.K b with
    |false=>
     have hR3:Hid (R=false):=zi (by rw[hR2.out,hA,hB2];simp);rw[hB2]at cxb;have cb:=cxb;clear hA hB2 cxb;refine wp_region_tabL ((eqv (.agg #[.string (strV F.nm),.slice F.A1 F.ps.length F.c1,.slice F.A2 F.ls.length F.c2,.slice F.A3 F.n3 F.c3]))::(eqv (.pointer (some ⟨gx,0,none⟩)))::(eqv (.pointer (some ⟨gx,0,none⟩)))::(eqv (.pointer (some ⟨gx,1,none⟩)))::(eqv (.pointer pa))::(eqv (.bool true))::(eqv (.bool true))::(eqv (.agg #[.string (strV F.nm),.slice F.A1 F.ps.length F.c1,.slice F.A2 F.ls.length F.c2,.slice F.A3 F.n3 F.c3]))::(eqv (.pointer (some ⟨gx,0,none⟩)))::(eqv (.pointer (some ⟨gx,0,none⟩)))::(eqv (.pointer (some ⟨gx,2,none⟩)))::(eqv (.pointer pb))::(eqv (.bool false))::(eqv (.bool false))::(eqv (.bool false))::eud::eud::eud::eud::eud::eud::(eqv (.bool false))::(eqv (.bool false))::eud::eud::eud::eud::eud::eud::(eqv (.bool false))::(eqv (.bool false))::[])
      ((rn1 2)::(rn1 1)::(rd1 20 1)::(rd1 21 2)::(rd1 22 3)::⟨[(19,some 0),(23,some 4)],0,[]⟩::(rd1 24 5)::(rq1 2 25 6)::(rq1 1 25 6)::(rg1 27 8 25 6)::(rg1 28 9 25 6)::(rg1 29 10 25 6)::⟨[(26,some 7),(30,some 11),(25,some 6)],25,[]⟩::⟨[(25,some 6),(31,some 12)],0,[]⟩::(rd1 32 13)::(rq1 2 33 14)::(rq1 1 33 14)::(rg1 35 16 33 14)::(rg1 36 17 33 14)::(rg1 37 18 33 14)::⟨[(34,some 15),(38,some 19),(33,some 14)],33,[]⟩::⟨[(33,some 14),(39,some 20)],0,[]⟩::(rd1 40 21)::(rq1 2 41 22)::(rq1 1 41 22)::(rg1 43 24 41 22)::(rg1 44 25 41 22)::(rg1 45 26 41 22)::⟨[(42,some 23),(46,some 27),(41,some 22)],41,[]⟩::⟨[(41,some 22),(47,some 28)],0,[]⟩::(rd1 48 29)::[])
      (no::no::no::no::so 30::no::no::no::no::no::no::no::no::no::no::no::no::no::no::so 0::so 1::so 2::so 3::so 4::so 5::so 6::so 7::so 8::so 9::so 10::so 11::so 12::so 13::so 14::so 15::so 16::so 17::so 18::so 19::so 20::so 21::so 22::so 23::so 24::so 25::so 26::so 27::so 28::so 29::[])
      (fun _ w'=>Below wW.heap.size wW w') (fun _ w w'=>Below w.heap.size w w') ?mixK5condsB ?okK5condsB ?tabK5condsB ?frK5condsB ?inK5condsB ?keptK5condsB ?startK5condsB ?eachK5condsB ?finK5condsB
     case mixK5condsB|okK5condsB|tabK5condsB|frK5condsB=>kernel_rfl
     case inK5condsB=>rfl
     case keptK5condsB=>((repeat refine⟨fun _ _ _ _ _ _ _ _ _ _ _ h=>h,?_⟩);exact trivial)
     case startK5condsB=>exact hgo.out
     case eachK5condsB=>
      repeat' first|exact trivial|refine And.intro ?_ ?_
      ·intro w L f hC hLi hLd hLn ⟨a,_⟩;change _=_ at a;refine Step2.live rfl ?_;obtain⟨p0,p1,p2,p3,pl,q1,q2,q3,q4,qx⟩:=hfc.out w hC;obtain⟨ev,ec,ef⟩:=evs f;refine relUpon_value ?_ hC (Below.refl _ _) rfl;go_simp
      ·intro w L f hC hLi hLd hLn ⟨d,_⟩;refine Step2.live rfl ?_;exact relUpon_value (v:=f 1) rfl (hC) (Below.refl _ _) d
      iterate 3 (intro w L f hC hLi hLd hLn ⟨a,_⟩;change _=_ at a;refine Step2.live rfl ?_;obtain⟨p0,p1,p2,p3,pl,q1,q2,q3,q4,qx⟩:=hfc.out w hC;obtain⟨ev,ec,ef⟩:=evs f;refine relUpon_value ?_ hC (Below.refl _ _) rfl;go_simp)
      ·intro w L f hC hLi hLd hLn ⟨a,b,_⟩;change _=_ at a b;refine Step2.live rfl ?_;obtain⟨ev,ec,ef⟩:=evs f;refine relUpon_call (f:=144) (args:= #[.agg #[.string (strV F.nm),.slice F.A1 F.ps.length F.c1,.slice F.A2 F.ls.length F.c2,.slice F.A3 F.n3 F.c3],.pointer pa]) (w:=w) (by go_simp) (ca.out w hC) ?_;rintro e w1 ⟨he,hB⟩;exact⟨_,he,hC.trans (hB.mono hC.size),hB,rfl⟩
      ·intro w L f hC hLi hLd hLn ⟨d,_⟩;refine Step2.live rfl ?_;exact relUpon_value (v:=f 24) rfl (hC) (Below.refl _ _) d
      ·intro w L f hC hLi hLd hLn ⟨a,d25,_⟩;change _=_ at a d25;refine Step2.live (show wantedBy _ (f 25)=true by rw[d25];rfl) ?_;obtain⟨p0,p1,p2,p3,pl,q1,q2,q3,q4,qx⟩:=hfc.out w hC;obtain⟨ev,ec,ef⟩:=evs f;refine relUpon_value ?_ hC (Below.refl _ _) rfl;go_simp
      ·intro w L f hC hLi hLd hLn ⟨d1,d25,_⟩;change _=_ at d1 d25;refine Step2.live (show wantedBy _ (f 25)=true by rw[d25];rfl) ?_;exact relUpon_value (v:=f 1) rfl (hC) (Below.refl _ _) d1
      iterate 3 (intro w L f hC hLi hLd hLn ⟨a,d25,_⟩;change _=_ at a d25;refine Step2.live (show wantedBy _ (f 25)=true by rw[d25];rfl) ?_;obtain⟨p0,p1,p2,p3,pl,q1,q2,q3,q4,qx⟩:=hfc.out w hC;obtain⟨ev,ec,ef⟩:=evs f;refine relUpon_value ?_ hC (Below.refl _ _) rfl;go_simp)
      ·intro w L f hC hLi hLd hLn ⟨a,b,d25,_⟩;change _=_ at a b d25;refine Step2.live (show wantedBy _ (f 25)=true by rw[d25];rfl) ?_;obtain⟨ev,ec,ef⟩:=evs f;refine relUpon_call (f:=144) (args:= #[.agg #[.string (strV F.nm),.slice F.A1 F.ps.length F.c1,.slice F.A2 F.ls.length F.c2,.slice F.A3 F.n3 F.c3],.pointer pb]) (w:=w) (by go_simp) (cb.out w hC) ?_;rintro e w1 ⟨he,hB⟩;exact⟨_,he,hC.trans (hB.mono hC.size),hB,rfl⟩
      ·intro w L f hC hLi hLd hLn ⟨a,b,_⟩;change _=_ at a b;refine Step2.live rfl ?_;obtain⟨ev,ec,ef⟩:=evs f;refine relUpon_value ?_ (hC) (Below.refl _ _) rfl;go_simp
      ·intro w L f hC hLi hLd hLn ⟨d,_⟩;refine Step2.live rfl ?_;exact relUpon_value (v:=f 32) rfl (hC) (Below.refl _ _) d
      iterate 5 (intro w L f hC hLi hLd hLn ⟨_,d,_⟩;refine StepL2.dead (show wantedBy _ (f 33)=false by rw[show f 33=_ from d];rfl) (hC) ?_ (Below.refl _ _);exact rfl)
      ·intro w L f hC hLi hLd hLn ⟨_,_,d,_⟩;refine StepL2.dead (show wantedBy _ (f 33)=false by rw[show f 33=_ from d];rfl) (hC) ?_ (Below.refl _ _);exact rfl
      ·intro w L f hC hLi hLd hLn ⟨a,b,_⟩;change _=_ at a b;refine Step2.live rfl ?_;obtain⟨ev,ec,ef⟩:=evs f;refine relUpon_value ?_ (hC) (Below.refl _ _) rfl;go_simp
      ·intro w L f hC hLi hLd hLn ⟨d,_⟩;refine Step2.live rfl ?_;exact relUpon_value (v:=f 40) rfl (hC) (Below.refl _ _) d
      iterate 5 (intro w L f hC hLi hLd hLn ⟨_,d,_⟩;refine StepL2.dead (show wantedBy _ (f 41)=false by rw[show f 41=_ from d];rfl) (hC) ?_ (Below.refl _ _);exact rfl)
      ·intro w L f hC hLi hLd hLn ⟨_,_,d,_⟩;refine StepL2.dead (show wantedBy _ (f 41)=false by rw[show f 41=_ from d];rfl) (hC) ?_ (Below.refl _ _);exact rfl
      ·intro w L f hC hLi hLd hLn ⟨a,b,_⟩;change _=_ at a b;refine Step2.live rfl ?_;obtain⟨ev,ec,ef⟩:=evs f;refine relUpon_value ?_ (hC) (Below.refl _ _) rfl;go_simp
      ·intro w L f hC hLi hLd hLn ⟨d,_⟩;refine Step2.live rfl ?_;exact relUpon_value (v:=f 48) rfl (hC) (Below.refl _ _) d
     intro x w' hC hV
     have e4:=hV 30 _ rfl rfl;have hC':=zi (hBd.out.trans (hC.mono hBd.out.size));clear hV hC;simp only[framed];rw[e4];go_wp2_with fail;go_ret;exact⟨by rw[hR3.out];rfl,hC'.out⟩
    |true=>
     rw[hB2]at cxb;have cb:=cxb;clear cxb
     cases hP:condsF F.K p with
     |false=>
      have hR3:Hid (R=false):=zi (by rw[hR2.out,hA,hB2,hP];simp);rw[hP]at cxp;have cp:=cxp;clear hA hB2 hP cxp;refine wp_region_tabL ((eqv (.agg #[.string (strV F.nm),.slice F.A1 F.ps.length F.c1,.slice F.A2 F.ls.length F.c2,.slice F.A3 F.n3 F.c3]))::(eqv (.pointer (some ⟨gx,0,none⟩)))::(eqv (.pointer (some ⟨gx,0,none⟩)))::(eqv (.pointer (some ⟨gx,1,none⟩)))::(eqv (.pointer pa))::(eqv (.bool true))::(eqv (.bool true))::(eqv (.agg #[.string (strV F.nm),.slice F.A1 F.ps.length F.c1,.slice F.A2 F.ls.length F.c2,.slice F.A3 F.n3 F.c3]))::(eqv (.pointer (some ⟨gx,0,none⟩)))::(eqv (.pointer (some ⟨gx,0,none⟩)))::(eqv (.pointer (some ⟨gx,2,none⟩)))::(eqv (.pointer pb))::(eqv (.bool true))::(eqv (.bool true))::(eqv (.bool true))::(eqv (.agg #[.string (strV F.nm),.slice F.A1 F.ps.length F.c1,.slice F.A2 F.ls.length F.c2,.slice F.A3 F.n3 F.c3]))::(eqv (.pointer (some ⟨gx,0,none⟩)))::(eqv (.pointer (some ⟨gx,0,none⟩)))::(eqv (.pointer (some ⟨gx,3,none⟩)))::(eqv (.pointer pp))::(eqv (.bool false))::(eqv (.bool false))::(eqv (.bool false))::eud::eud::eud::eud::eud::eud::(eqv (.bool false))::(eqv (.bool false))::[])
       ((rn1 2)::(rn1 1)::(rd1 20 1)::(rd1 21 2)::(rd1 22 3)::⟨[(19,some 0),(23,some 4)],0,[]⟩::(rd1 24 5)::(rq1 2 25 6)::(rq1 1 25 6)::(rg1 27 8 25 6)::(rg1 28 9 25 6)::(rg1 29 10 25 6)::⟨[(26,some 7),(30,some 11),(25,some 6)],25,[]⟩::⟨[(25,some 6),(31,some 12)],0,[]⟩::(rd1 32 13)::(rq1 2 33 14)::(rq1 1 33 14)::(rg1 35 16 33 14)::(rg1 36 17 33 14)::(rg1 37 18 33 14)::⟨[(34,some 15),(38,some 19),(33,some 14)],33,[]⟩::⟨[(33,some 14),(39,some 20)],0,[]⟩::(rd1 40 21)::(rq1 2 41 22)::(rq1 1 41 22)::(rg1 43 24 41 22)::(rg1 44 25 41 22)::(rg1 45 26 41 22)::⟨[(42,some 23),(46,some 27),(41,some 22)],41,[]⟩::⟨[(41,some 22),(47,some 28)],0,[]⟩::(rd1 48 29)::[])
       (no::no::no::no::so 30::no::no::no::no::no::no::no::no::no::no::no::no::no::no::so 0::so 1::so 2::so 3::so 4::so 5::so 6::so 7::so 8::so 9::so 10::so 11::so 12::so 13::so 14::so 15::so 16::so 17::so 18::so 19::so 20::so 21::so 22::so 23::so 24::so 25::so 26::so 27::so 28::so 29::[])
       (fun _ w'=>Below wW.heap.size wW w') (fun _ w w'=>Below w.heap.size w w') ?mixK5condsP ?okK5condsP ?tabK5condsP ?frK5condsP ?inK5condsP ?keptK5condsP ?startK5condsP ?eachK5condsP ?finK5condsP
      case mixK5condsP|okK5condsP|tabK5condsP|frK5condsP=>kernel_rfl
      case inK5condsP=>rfl
      case keptK5condsP=>((repeat refine⟨fun _ _ _ _ _ _ _ _ _ _ _ h=>h,?_⟩);exact trivial)
      case startK5condsP=>exact hgo.out
      case eachK5condsP=>
       repeat' first|exact trivial|refine And.intro ?_ ?_
       ·intro w L f hC hLi hLd hLn ⟨a,_⟩;change _=_ at a;refine Step2.live rfl ?_;obtain⟨p0,p1,p2,p3,pl,q1,q2,q3,q4,qx⟩:=hfc.out w hC;obtain⟨ev,ec,ef⟩:=evs f;refine relUpon_value ?_ hC (Below.refl _ _) rfl;go_simp
       ·intro w L f hC hLi hLd hLn ⟨d,_⟩;refine Step2.live rfl ?_;exact relUpon_value (v:=f 1) rfl (hC) (Below.refl _ _) d
       iterate 3 (intro w L f hC hLi hLd hLn ⟨a,_⟩;change _=_ at a;refine Step2.live rfl ?_;obtain⟨p0,p1,p2,p3,pl,q1,q2,q3,q4,qx⟩:=hfc.out w hC;obtain⟨ev,ec,ef⟩:=evs f;refine relUpon_value ?_ hC (Below.refl _ _) rfl;go_simp)
       ·intro w L f hC hLi hLd hLn ⟨a,b,_⟩;change _=_ at a b;refine Step2.live rfl ?_;obtain⟨ev,ec,ef⟩:=evs f;refine relUpon_call (f:=144) (args:= #[.agg #[.string (strV F.nm),.slice F.A1 F.ps.length F.c1,.slice F.A2 F.ls.length F.c2,.slice F.A3 F.n3 F.c3],.pointer pa]) (w:=w) (by go_simp) (ca.out w hC) ?_;rintro e w1 ⟨he,hB⟩;exact⟨_,he,hC.trans (hB.mono hC.size),hB,rfl⟩
       ·intro w L f hC hLi hLd hLn ⟨d,_⟩;refine Step2.live rfl ?_;exact relUpon_value (v:=f 24) rfl (hC) (Below.refl _ _) d
       ·intro w L f hC hLi hLd hLn ⟨a,d25,_⟩;change _=_ at a d25;refine Step2.live (show wantedBy _ (f 25)=true by rw[d25];rfl) ?_;obtain⟨p0,p1,p2,p3,pl,q1,q2,q3,q4,qx⟩:=hfc.out w hC;obtain⟨ev,ec,ef⟩:=evs f;refine relUpon_value ?_ hC (Below.refl _ _) rfl;go_simp
       ·intro w L f hC hLi hLd hLn ⟨d1,d25,_⟩;change _=_ at d1 d25;refine Step2.live (show wantedBy _ (f 25)=true by rw[d25];rfl) ?_;exact relUpon_value (v:=f 1) rfl (hC) (Below.refl _ _) d1
       iterate 3 (intro w L f hC hLi hLd hLn ⟨a,d25,_⟩;change _=_ at a d25;refine Step2.live (show wantedBy _ (f 25)=true by rw[d25];rfl) ?_;obtain⟨p0,p1,p2,p3,pl,q1,q2,q3,q4,qx⟩:=hfc.out w hC;obtain⟨ev,ec,ef⟩:=evs f;refine relUpon_value ?_ hC (Below.refl _ _) rfl;go_simp)
       ·intro w L f hC hLi hLd hLn ⟨a,b,d25,_⟩;change _=_ at a b d25;refine Step2.live (show wantedBy _ (f 25)=true by rw[d25];rfl) ?_;obtain⟨ev,ec,ef⟩:=evs f;refine relUpon_call (f:=144) (args:= #[.agg #[.string (strV F.nm),.slice F.A1 F.ps.length F.c1,.slice F.A2 F.ls.length F.c2,.slice F.A3 F.n3 F.c3],.pointer pb]) (w:=w) (by go_simp) (cb.out w hC) ?_;rintro e w1 ⟨he,hB⟩;exact⟨_,he,hC.trans (hB.mono hC.size),hB,rfl⟩
       ·intro w L f hC hLi hLd hLn ⟨a,b,_⟩;change _=_ at a b;refine Step2.live rfl ?_;obtain⟨ev,ec,ef⟩:=evs f;refine relUpon_value ?_ (hC) (Below.refl _ _) rfl;go_simp
       ·intro w L f hC hLi hLd hLn ⟨d,_⟩;refine Step2.live rfl ?_;exact relUpon_value (v:=f 32) rfl (hC) (Below.refl _ _) d
       ·intro w L f hC hLi hLd hLn ⟨a,d33,_⟩;change _=_ at a d33;refine Step2.live (show wantedBy _ (f 33)=true by rw[d33];rfl) ?_;obtain⟨p0,p1,p2,p3,pl,q1,q2,q3,q4,qx⟩:=hfc.out w hC;obtain⟨ev,ec,ef⟩:=evs f;refine relUpon_value ?_ hC (Below.refl _ _) rfl;go_simp
       ·intro w L f hC hLi hLd hLn ⟨d1,d33,_⟩;change _=_ at d1 d33;refine Step2.live (show wantedBy _ (f 33)=true by rw[d33];rfl) ?_;exact relUpon_value (v:=f 1) rfl (hC) (Below.refl _ _) d1
       iterate 3 (intro w L f hC hLi hLd hLn ⟨a,d33,_⟩;change _=_ at a d33;refine Step2.live (show wantedBy _ (f 33)=true by rw[d33];rfl) ?_;obtain⟨p0,p1,p2,p3,pl,q1,q2,q3,q4,qx⟩:=hfc.out w hC;obtain⟨ev,ec,ef⟩:=evs f;refine relUpon_value ?_ hC (Below.refl _ _) rfl;go_simp)
       ·intro w L f hC hLi hLd hLn ⟨a,b,d33,_⟩;change _=_ at a b d33;refine Step2.live (show wantedBy _ (f 33)=true by rw[d33];rfl) ?_;obtain⟨ev,ec,ef⟩:=evs f;refine relUpon_call (f:=145) (args:= #[.agg #[.string (strV F.nm),.slice F.A1 F.ps.length F.c1,.slice F.A2 F.ls.length F.c2,.slice F.A3 F.n3 F.c3],.pointer pp]) (w:=w) (by go_simp) (cp.out w hC) ?_;rintro e w1 ⟨he,hB⟩;exact⟨_,he,hC.trans (hB.mono hC.size),hB,rfl⟩
       ·intro w L f hC hLi hLd hLn ⟨a,b,_⟩;change _=_ at a b;refine Step2.live rfl ?_;obtain⟨ev,ec,ef⟩:=evs f;refine relUpon_value ?_ (hC) (Below.refl _ _) rfl;go_simp
       ·intro w L f hC hLi hLd hLn ⟨d,_⟩;refine Step2.live rfl ?_;exact relUpon_value (v:=f 40) rfl (hC) (Below.refl _ _) d
       iterate 5 (intro w L f hC hLi hLd hLn ⟨_,d,_⟩;refine StepL2.dead (show wantedBy _ (f 41)=false by rw[show f 41=_ from d];rfl) (hC) ?_ (Below.refl _ _);exact rfl)
       ·intro w L f hC hLi hLd hLn ⟨_,_,d,_⟩;refine StepL2.dead (show wantedBy _ (f 41)=false by rw[show f 41=_ from d];rfl) (hC) ?_ (Below.refl _ _);exact rfl
       ·intro w L f hC hLi hLd hLn ⟨a,b,_⟩;change _=_ at a b;refine Step2.live rfl ?_;obtain⟨ev,ec,ef⟩:=evs f;refine relUpon_value ?_ (hC) (Below.refl _ _) rfl;go_simp
       ·intro w L f hC hLi hLd hLn ⟨d,_⟩;refine Step2.live rfl ?_;exact relUpon_value (v:=f 48) rfl (hC) (Below.refl _ _) d
      intro x w' hC hV
      have e4:=hV 30 _ rfl rfl;have hC':=zi (hBd.out.trans (hC.mono hBd.out.size));clear hV hC;simp only[framed];rw[e4];go_wp2_with fail;go_ret;exact⟨by rw[hR3.out];rfl,hC'.out⟩
     |true=>
      rw[hP]at cxp;have cp:=cxp;clear cxp;have hR3:Hid (R=condsF F.K q):=zi (by rw[hR2.out,hA,hB2,hP];rfl);clear hA hB2 hP
      refine wp_region_tabL ((eqv (.agg #[.string (strV F.nm),.slice F.A1 F.ps.length F.c1,.slice F.A2 F.ls.length F.c2,.slice F.A3 F.n3 F.c3]))::(eqv (.pointer (some ⟨gx,0,none⟩)))::(eqv (.pointer (some ⟨gx,0,none⟩)))::(eqv (.pointer (some ⟨gx,1,none⟩)))::(eqv (.pointer pa))::(eqv (.bool true))::(eqv (.bool true))::(eqv (.agg #[.string (strV F.nm),.slice F.A1 F.ps.length F.c1,.slice F.A2 F.ls.length F.c2,.slice F.A3 F.n3 F.c3]))::(eqv (.pointer (some ⟨gx,0,none⟩)))::(eqv (.pointer (some ⟨gx,0,none⟩)))::(eqv (.pointer (some ⟨gx,2,none⟩)))::(eqv (.pointer pb))::(eqv (.bool true))::(eqv (.bool true))::(eqv (.bool true))::(eqv (.agg #[.string (strV F.nm),.slice F.A1 F.ps.length F.c1,.slice F.A2 F.ls.length F.c2,.slice F.A3 F.n3 F.c3]))::(eqv (.pointer (some ⟨gx,0,none⟩)))::(eqv (.pointer (some ⟨gx,0,none⟩)))::(eqv (.pointer (some ⟨gx,3,none⟩)))::(eqv (.pointer pp))::(eqv (.bool true))::(eqv (.bool true))::(eqv (.bool true))::(eqv (.agg #[.string (strV F.nm),.slice F.A1 F.ps.length F.c1,.slice F.A2 F.ls.length F.c2,.slice F.A3 F.n3 F.c3]))::(eqv (.pointer (some ⟨gx,0,none⟩)))::(eqv (.pointer (some ⟨gx,0,none⟩)))::(eqv (.pointer (some ⟨gx,4,none⟩)))::(eqv (.pointer pq))::(eqv (.bool (condsF F.K q)))::(eqv (.bool (condsF F.K q)))::(eqv (.bool (condsF F.K q)))::[])
       ((rn1 2)::(rn1 1)::(rd1 20 1)::(rd1 21 2)::(rd1 22 3)::⟨[(19,some 0),(23,some 4)],0,[]⟩::(rd1 24 5)::(rq1 2 25 6)::(rq1 1 25 6)::(rg1 27 8 25 6)::(rg1 28 9 25 6)::(rg1 29 10 25 6)::⟨[(26,some 7),(30,some 11),(25,some 6)],25,[]⟩::⟨[(25,some 6),(31,some 12)],0,[]⟩::(rd1 32 13)::(rq1 2 33 14)::(rq1 1 33 14)::(rg1 35 16 33 14)::(rg1 36 17 33 14)::(rg1 37 18 33 14)::⟨[(34,some 15),(38,some 19),(33,some 14)],33,[]⟩::⟨[(33,some 14),(39,some 20)],0,[]⟩::(rd1 40 21)::(rq1 2 41 22)::(rq1 1 41 22)::(rg1 43 24 41 22)::(rg1 44 25 41 22)::(rg1 45 26 41 22)::⟨[(42,some 23),(46,some 27),(41,some 22)],41,[]⟩::⟨[(41,some 22),(47,some 28)],0,[]⟩::(rd1 48 29)::[])
       (no::no::no::no::so 30::no::no::no::no::no::no::no::no::no::no::no::no::no::no::so 0::so 1::so 2::so 3::so 4::so 5::so 6::so 7::so 8::so 9::so 10::so 11::so 12::so 13::so 14::so 15::so 16::so 17::so 18::so 19::so 20::so 21::so 22::so 23::so 24::so 25::so 26::so 27::so 28::so 29::[])
       (fun _ w'=>Below wW.heap.size wW w') (fun _ w w'=>Below w.heap.size w w') ?mixK5condsQ ?okK5condsQ ?tabK5condsQ ?frK5condsQ ?inK5condsQ ?keptK5condsQ ?startK5condsQ ?eachK5condsQ ?finK5condsQ
      case mixK5condsQ|okK5condsQ|tabK5condsQ|frK5condsQ=>kernel_rfl
      case inK5condsQ=>rfl
      case keptK5condsQ=>((repeat refine⟨fun _ _ _ _ _ _ _ _ _ _ _ h=>h,?_⟩);exact trivial)
      case startK5condsQ=>exact hgo.out
      case eachK5condsQ=>
       repeat' first|exact trivial|refine And.intro ?_ ?_
       ·intro w L f hC hLi hLd hLn ⟨a,_⟩;change _=_ at a;refine Step2.live rfl ?_;obtain⟨p0,p1,p2,p3,pl,q1,q2,q3,q4,qx⟩:=hfc.out w hC;obtain⟨ev,ec,ef⟩:=evs f;refine relUpon_value ?_ hC (Below.refl _ _) rfl;go_simp
       ·intro w L f hC hLi hLd hLn ⟨d,_⟩;refine Step2.live rfl ?_;exact relUpon_value (v:=f 1) rfl (hC) (Below.refl _ _) d
       iterate 3 (intro w L f hC hLi hLd hLn ⟨a,_⟩;change _=_ at a;refine Step2.live rfl ?_;obtain⟨p0,p1,p2,p3,pl,q1,q2,q3,q4,qx⟩:=hfc.out w hC;obtain⟨ev,ec,ef⟩:=evs f;refine relUpon_value ?_ hC (Below.refl _ _) rfl;go_simp)
       ·intro w L f hC hLi hLd hLn ⟨a,b,_⟩;change _=_ at a b;refine Step2.live rfl ?_;obtain⟨ev,ec,ef⟩:=evs f;refine relUpon_call (f:=144) (args:= #[.agg #[.string (strV F.nm),.slice F.A1 F.ps.length F.c1,.slice F.A2 F.ls.length F.c2,.slice F.A3 F.n3 F.c3],.pointer pa]) (w:=w) (by go_simp) (ca.out w hC) ?_;rintro e w1 ⟨he,hB⟩;exact⟨_,he,hC.trans (hB.mono hC.size),hB,rfl⟩
       ·intro w L f hC hLi hLd hLn ⟨d,_⟩;refine Step2.live rfl ?_;exact relUpon_value (v:=f 24) rfl (hC) (Below.refl _ _) d
       ·intro w L f hC hLi hLd hLn ⟨a,d25,_⟩;change _=_ at a d25;refine Step2.live (show wantedBy _ (f 25)=true by rw[d25];rfl) ?_;obtain⟨p0,p1,p2,p3,pl,q1,q2,q3,q4,qx⟩:=hfc.out w hC;obtain⟨ev,ec,ef⟩:=evs f;refine relUpon_value ?_ hC (Below.refl _ _) rfl;go_simp
       ·intro w L f hC hLi hLd hLn ⟨d1,d25,_⟩;change _=_ at d1 d25;refine Step2.live (show wantedBy _ (f 25)=true by rw[d25];rfl) ?_;exact relUpon_value (v:=f 1) rfl (hC) (Below.refl _ _) d1
       iterate 3 (intro w L f hC hLi hLd hLn ⟨a,d25,_⟩;change _=_ at a d25;refine Step2.live (show wantedBy _ (f 25)=true by rw[d25];rfl) ?_;obtain⟨p0,p1,p2,p3,pl,q1,q2,q3,q4,qx⟩:=hfc.out w hC;obtain⟨ev,ec,ef⟩:=evs f;refine relUpon_value ?_ hC (Below.refl _ _) rfl;go_simp)
       ·intro w L f hC hLi hLd hLn ⟨a,b,d25,_⟩;change _=_ at a b d25;refine Step2.live (show wantedBy _ (f 25)=true by rw[d25];rfl) ?_;obtain⟨ev,ec,ef⟩:=evs f;refine relUpon_call (f:=144) (args:= #[.agg #[.string (strV F.nm),.slice F.A1 F.ps.length F.c1,.slice F.A2 F.ls.length F.c2,.slice F.A3 F.n3 F.c3],.pointer pb]) (w:=w) (by go_simp) (cb.out w hC) ?_;rintro e w1 ⟨he,hB⟩;exact⟨_,he,hC.trans (hB.mono hC.size),hB,rfl⟩
       ·intro w L f hC hLi hLd hLn ⟨a,b,_⟩;change _=_ at a b;refine Step2.live rfl ?_;obtain⟨ev,ec,ef⟩:=evs f;refine relUpon_value ?_ (hC) (Below.refl _ _) rfl;go_simp
       ·intro w L f hC hLi hLd hLn ⟨d,_⟩;refine Step2.live rfl ?_;exact relUpon_value (v:=f 32) rfl (hC) (Below.refl _ _) d
       ·intro w L f hC hLi hLd hLn ⟨a,d33,_⟩;change _=_ at a d33;refine Step2.live (show wantedBy _ (f 33)=true by rw[d33];rfl) ?_;obtain⟨p0,p1,p2,p3,pl,q1,q2,q3,q4,qx⟩:=hfc.out w hC;obtain⟨ev,ec,ef⟩:=evs f;refine relUpon_value ?_ hC (Below.refl _ _) rfl;go_simp
       ·intro w L f hC hLi hLd hLn ⟨d1,d33,_⟩;change _=_ at d1 d33;refine Step2.live (show wantedBy _ (f 33)=true by rw[d33];rfl) ?_;exact relUpon_value (v:=f 1) rfl (hC) (Below.refl _ _) d1
       iterate 3 (intro w L f hC hLi hLd hLn ⟨a,d33,_⟩;change _=_ at a d33;refine Step2.live (show wantedBy _ (f 33)=true by rw[d33];rfl) ?_;obtain⟨p0,p1,p2,p3,pl,q1,q2,q3,q4,qx⟩:=hfc.out w hC;obtain⟨ev,ec,ef⟩:=evs f;refine relUpon_value ?_ hC (Below.refl _ _) rfl;go_simp)
       ·intro w L f hC hLi hLd hLn ⟨a,b,d33,_⟩;change _=_ at a b d33;refine Step2.live (show wantedBy _ (f 33)=true by rw[d33];rfl) ?_;obtain⟨ev,ec,ef⟩:=evs f;refine relUpon_call (f:=145) (args:= #[.agg #[.string (strV F.nm),.slice F.A1 F.ps.length F.c1,.slice F.A2 F.ls.length F.c2,.slice F.A3 F.n3 F.c3],.pointer pp]) (w:=w) (by go_simp) (cp.out w hC) ?_;rintro e w1 ⟨he,hB⟩;exact⟨_,he,hC.trans (hB.mono hC.size),hB,rfl⟩
       ·intro w L f hC hLi hLd hLn ⟨a,b,_⟩;change _=_ at a b;refine Step2.live rfl ?_;obtain⟨ev,ec,ef⟩:=evs f;refine relUpon_value ?_ (hC) (Below.refl _ _) rfl;go_simp
       ·intro w L f hC hLi hLd hLn ⟨d,_⟩;refine Step2.live rfl ?_;exact relUpon_value (v:=f 40) rfl (hC) (Below.refl _ _) d
       ·intro w L f hC hLi hLd hLn ⟨a,d41,_⟩;change _=_ at a d41;refine Step2.live (show wantedBy _ (f 41)=true by rw[d41];rfl) ?_;obtain⟨p0,p1,p2,p3,pl,q1,q2,q3,q4,qx⟩:=hfc.out w hC;obtain⟨ev,ec,ef⟩:=evs f;refine relUpon_value ?_ hC (Below.refl _ _) rfl;go_simp
       ·intro w L f hC hLi hLd hLn ⟨d1,d41,_⟩;change _=_ at d1 d41;refine Step2.live (show wantedBy _ (f 41)=true by rw[d41];rfl) ?_;exact relUpon_value (v:=f 1) rfl (hC) (Below.refl _ _) d1
       iterate 3 (intro w L f hC hLi hLd hLn ⟨a,d41,_⟩;change _=_ at a d41;refine Step2.live (show wantedBy _ (f 41)=true by rw[d41];rfl) ?_;obtain⟨p0,p1,p2,p3,pl,q1,q2,q3,q4,qx⟩:=hfc.out w hC;obtain⟨ev,ec,ef⟩:=evs f;refine relUpon_value ?_ hC (Below.refl _ _) rfl;go_simp)
       ·intro w L f hC hLi hLd hLn ⟨a,b,d41,_⟩;change _=_ at a b d41;refine Step2.live (show wantedBy _ (f 41)=true by rw[d41];rfl) ?_;obtain⟨ev,ec,ef⟩:=evs f;refine relUpon_call (f:=145) (args:= #[.agg #[.string (strV F.nm),.slice F.A1 F.ps.length F.c1,.slice F.A2 F.ls.length F.c2,.slice F.A3 F.n3 F.c3],.pointer pq]) (w:=w) (by go_simp) (cq.out w hC) ?_;rintro e w1 ⟨he,hB⟩;exact⟨_,he,hC.trans (hB.mono hC.size),hB,rfl⟩
       ·intro w L f hC hLi hLd hLn ⟨a,b,_⟩;change _=_ at a b;refine Step2.live rfl ?_;obtain⟨ev,ec,ef⟩:=evs f;refine relUpon_value ?_ (hC) (Below.refl _ _) rfl;go_simp
       ·intro w L f hC hLi hLd hLn ⟨d,_⟩;refine Step2.live rfl ?_;exact relUpon_value (v:=f 48) rfl (hC) (Below.refl _ _) d
      intro x w' hC hV
      have e4:=hV 30 _ rfl rfl;have hC':=zi (hBd.out.trans (hC.mono hBd.out.size));clear hV hC;simp only[framed];rw[e4];go_wp2_with fail;go_ret;exact⟨by rw[hR3.out];rfl,hC'.out⟩
theorem pointer10_any (F:FnV) (e:Ex) (w:World) (v:Value) (hF:F.ok w) (h:ExAt w Evr e v):Calls Tryz.prog 143 #[.agg F.cells,v] w fun e' w'=>e'= .returned (.bool (ptrF F.K e))∧Below w.heap.size w w':=by
 have hR:=RfB.new hF;have hbn:=below_new w (.cells F.cells 26);obtain⟨w1,hw1⟩:∃y,y=w.alloc (.cells F.cells 26):=⟨_,rfl⟩;obtain⟨g,hg⟩:∃y,y=w.heap.size:=⟨_,rfl⟩;rw[←hw1,←hg]at hR;rw[←hw1]at hbn;have hx1:=zi (h.below hbn);obtain⟨wW,hwd⟩:∃y,y=w1.drew:=⟨_,rfl⟩
 have hbd:Below w1.heap.size w1 wW:=by rw[hwd];exact(Below.refl _ w1).drew
 have hRd:=zi (hR.below hbd);have hxd:=zi (hx1.out.below hbd);have hBd:=zi hRd.out.bl;have hgo:Hid (Below wW.heap.size wW w1.drew):=zi (by rw[←hwd];exact Below.refl _ _);have hfo:=zi hw1.symm;have hg':=zi hg.symm;unfold FnV.cells at hfo;clear hR hbn hw1 hg hx1 hwd hbd hF h;unfold FnV.cells;obtain⟨R,hRR⟩:∃R,R=ptrF F.K e:=⟨_,rfl⟩;rw[←hRR];have hRR':=zi hRR;clear hRR
 cases e with
 |nil=>
  obtain rfl:v= .pointer none:=hxd.out;have hR3:Hid (R=false):=zi (by rw[hRR'.out];rfl);have hfc:Hid (∀w:World,Below wW.heap.size wW w→w.cell? ⟨g,0,none⟩=some (.string (strV F.nm))∧w.cell? ⟨g,1,none⟩=some (.slice F.A1 F.ps.length F.c1)∧w.cell? ⟨g,2,none⟩=some (.slice F.A2 F.ls.length F.c2)∧w.cell? ⟨g,3,none⟩=some (.slice F.A3 F.n3 F.c3)∧g<w.heap.size):=zi fun w hb=>(hRd.out.below hb).facts;clear hRd hxd hRR';go_enter Tryz.func143,Tryz.ntmps143;go_upto_region 1 with(fail);rw[hfo.out,hg'.out];clear hfo hg';refine wp_region_tabL ((eqv (.pointer none))::(eqv (.bool false))::(eqv (.bool false))::eud::eud::eud::eud::eud::(eqv (.bool false))::(eqv (.bool false))::eud::eud::eud::eud::eud::eud::eud::(eqv (.bool false))::(eqv (.bool false))::[])
   ((rn1 1)::(rd1 5 0)::(rd1 6 1)::(rq1 1 7 2)::(rg1 8 3 7 2)::(rg1 9 4 7 2)::(rg1 10 5 7 2)::(rg1 11 6 7 2)::⟨[(7,some 2),(12,some 7)],0,[]⟩::(rd1 13 8)::(rq1 2 14 9)::(rq1 1 14 9)::(rg1 16 11 14 9)::(rg1 17 12 14 9)::(rg1 18 13 14 9)::⟨[(15,some 10),(19,some 14),(14,some 9)],14,[]⟩::(rg1 20 15 14 9)::⟨[(14,some 9),(21,some 16)],0,[]⟩::(rd1 22 17)::[])
   (no::no::no::no::so 18::so 0::so 1::so 2::so 3::so 4::so 5::so 6::so 7::so 8::so 9::so 10::so 11::so 12::so 13::so 14::so 15::so 16::so 17::[])
   (fun _ w'=>Below wW.heap.size wW w') (fun _ w w'=>Below w.heap.size w w') ?mixK1pointernil ?okK1pointernil ?tabK1pointernil ?frK1pointernil ?inK1pointernil ?keptK1pointernil ?startK1pointernil ?eachK1pointernil ?finK1pointernil
  case mixK1pointernil|okK1pointernil|tabK1pointernil|frK1pointernil=>kernel_rfl
  case inK1pointernil=>rfl
  case keptK1pointernil=>((repeat refine⟨fun _ _ _ _ _ _ _ _ _ _ _ h=>h,?_⟩);exact trivial)
  case startK1pointernil=>exact hgo.out
  case eachK1pointernil=>
   repeat' first|exact trivial|refine And.intro ?_ ?_
   ·intro w L f hC hLi hLd hLn ⟨d,_⟩;refine Step2.live rfl ?_;exact relUpon_value (v:=f 1) rfl (hC) (Below.refl _ _) d
   ·intro w L f hC hLi hLd hLn ⟨a,_⟩;change _=_ at a;refine Step2.live rfl ?_;obtain⟨ev,ec,ef⟩:=evs f;refine relUpon_value ?_ (hC) (Below.refl _ _) rfl;go_simp
   ·intro w L f hC hLi hLd hLn ⟨d,_⟩;refine Step2.live rfl ?_;exact relUpon_value (v:=f 6) rfl (hC) (Below.refl _ _) d
   iterate 5 (intro w L f hC hLi hLd hLn ⟨_,d,_⟩;refine StepL2.dead (show wantedBy _ (f 7)=false by rw[show f 7=_ from d];rfl) (hC) ?_ (Below.refl _ _);exact rfl)
   ·intro w L f hC hLi hLd hLn ⟨a,b,_⟩;change _=_ at a b;refine Step2.live rfl ?_;obtain⟨ev,ec,ef⟩:=evs f;refine relUpon_value ?_ (hC) (Below.refl _ _) rfl;go_simp
   ·intro w L f hC hLi hLd hLn ⟨d,_⟩;refine Step2.live rfl ?_;exact relUpon_value (v:=f 13) rfl (hC) (Below.refl _ _) d
   iterate 5 (intro w L f hC hLi hLd hLn ⟨_,d,_⟩;refine StepL2.dead (show wantedBy _ (f 14)=false by rw[show f 14=_ from d];rfl) (hC) ?_ (Below.refl _ _);exact rfl)
   ·intro w L f hC hLi hLd hLn ⟨_,_,d,_⟩;refine StepL2.dead (show wantedBy _ (f 14)=false by rw[show f 14=_ from d];rfl) (hC) ?_ (Below.refl _ _);exact rfl
   ·intro w L f hC hLi hLd hLn ⟨_,d,_⟩;refine StepL2.dead (show wantedBy _ (f 14)=false by rw[show f 14=_ from d];rfl) (hC) ?_ (Below.refl _ _);exact rfl
   ·intro w L f hC hLi hLd hLn ⟨a,b,_⟩;change _=_ at a b;refine Step2.live rfl ?_;obtain⟨ev,ec,ef⟩:=evs f;refine relUpon_value ?_ (hC) (Below.refl _ _) rfl;go_simp
   ·intro w L f hC hLi hLd hLn ⟨d,_⟩;refine Step2.live rfl ?_;exact relUpon_value (v:=f 22) rfl (hC) (Below.refl _ _) d
  intro x w' hC hV
  have e4:=hV 18 _ rfl rfl;have hC':=zi (hBd.out.trans (hC.mono hBd.out.size));clear hV hC;simp only[framed];rw[e4];go_wp2_with fail;go_ret;exact⟨by rw[hR3.out];rfl,hC'.out⟩
 |mk k n nm a b=>
  obtain⟨gx,va,vb,rfl,-,hn,hk,hH,-,-⟩:=hxd.out;by_cases hk1:k=1
  ·subst hk1;have hR3:Hid (R=(F.K nm==2)):=zi (by rw[hRR'.out];unfold ptrF;simp)
   have hfc:Hid (∀w:World,Below wW.heap.size wW w→w.cell? ⟨g,0,none⟩=some (.string (strV F.nm))∧w.cell? ⟨g,1,none⟩=some (.slice F.A1 F.ps.length F.c1)∧w.cell? ⟨g,2,none⟩=some (.slice F.A2 F.ls.length F.c2)∧w.cell? ⟨g,3,none⟩=some (.slice F.A3 F.n3 F.c3)∧g<w.heap.size∧w.cell? ⟨gx,0,none⟩=some (.int .i64 1)∧w.cell? ⟨gx,2,none⟩=some (.string (strV nm))∧gx<w.heap.size):=zi fun w hb=>by obtain⟨x0,x1,x2,x3,xl⟩:=(hRd.out.below hb).facts;have hx:=hH.below hb hH.lt;exact⟨x0,x1,x2,x3,xl,hx.cell 0,hx.cell 2,hx.lt⟩
   have ck:=zi fun(w:World) (hb:Below wW.heap.size wW w)=>kindF_any F w (hRd.out.ok.below hb) nm;unfold FnV.cells at ck;clear hRd hxd hRR' hH;go_enter Tryz.func143,Tryz.ntmps143;go_upto_region 1 with(fail);rw[hfo.out,hg'.out];clear hfo hg';refine wp_region_tabL ((eqv (.pointer (some ⟨gx,0,none⟩)))::(eqv (.bool true))::(eqv (.bool true))::(eqv (.pointer (some ⟨gx,0,none⟩)))::(eqv (.pointer (some ⟨gx,0,none⟩)))::(eqv (.pointer (some ⟨gx,0,none⟩)))::(eqv (.int .i64 1))::(eqv (.bool true))::(eqv (.bool true))::(eqv (.bool true))::(eqv (.agg #[.string (strV F.nm),.slice F.A1 F.ps.length F.c1,.slice F.A2 F.ls.length F.c2,.slice F.A3 F.n3 F.c3]))::(eqv (.pointer (some ⟨gx,0,none⟩)))::(eqv (.pointer (some ⟨gx,0,none⟩)))::(eqv (.pointer (some ⟨gx,2,none⟩)))::(eqv (.string (strV nm)))::(eqv (.int .i64 (F.K nm)))::(eqv (.bool (((F.K nm:Nat):Int)==2)))::(eqv (.bool (((F.K nm:Nat):Int)==2)))::(eqv (.bool (((F.K nm:Nat):Int)==2)))::[])
    ((rn1 1)::(rd1 5 0)::(rd1 6 1)::(rq1 1 7 2)::(rg1 8 3 7 2)::(rg1 9 4 7 2)::(rg1 10 5 7 2)::(rg1 11 6 7 2)::⟨[(7,some 2),(12,some 7)],0,[]⟩::(rd1 13 8)::(rq1 2 14 9)::(rq1 1 14 9)::(rg1 16 11 14 9)::(rg1 17 12 14 9)::(rg1 18 13 14 9)::⟨[(15,some 10),(19,some 14),(14,some 9)],14,[]⟩::(rg1 20 15 14 9)::⟨[(14,some 9),(21,some 16)],0,[]⟩::(rd1 22 17)::[])
    (no::no::no::no::so 18::so 0::so 1::so 2::so 3::so 4::so 5::so 6::so 7::so 8::so 9::so 10::so 11::so 12::so 13::so 14::so 15::so 16::so 17::[])
    (fun _ w'=>Below wW.heap.size wW w') (fun _ w w'=>Below w.heap.size w w') ?mixK1pointeryes ?okK1pointeryes ?tabK1pointeryes ?frK1pointeryes ?inK1pointeryes ?keptK1pointeryes ?startK1pointeryes ?eachK1pointeryes ?finK1pointeryes
   case mixK1pointeryes|okK1pointeryes|tabK1pointeryes|frK1pointeryes=>kernel_rfl
   case inK1pointeryes=>rfl
   case keptK1pointeryes=>((repeat refine⟨fun _ _ _ _ _ _ _ _ _ _ _ h=>h,?_⟩);exact trivial)
   case startK1pointeryes=>exact hgo.out
   case eachK1pointeryes=>
    repeat' first|exact trivial|refine And.intro ?_ ?_
    ·intro w L f hC hLi hLd hLn ⟨d,_⟩;refine Step2.live rfl ?_;exact relUpon_value (v:=f 1) rfl (hC) (Below.refl _ _) d
    ·intro w L f hC hLi hLd hLn ⟨a,_⟩;change _=_ at a;refine Step2.live rfl ?_;obtain⟨ev,ec,ef⟩:=evs f;refine relUpon_value ?_ (hC) (Below.refl _ _) rfl;go_simp
    ·intro w L f hC hLi hLd hLn ⟨d,_⟩;refine Step2.live rfl ?_;exact relUpon_value (v:=f 6) rfl (hC) (Below.refl _ _) d
    ·intro w L f hC hLi hLd hLn ⟨d1,d7,_⟩;change _=_ at d1 d7;refine Step2.live (show wantedBy _ (f 7)=true by rw[d7];rfl) ?_;exact relUpon_value (v:=f 1) rfl (hC) (Below.refl _ _) d1
    iterate 3 (intro w L f hC hLi hLd hLn ⟨a,d7,_⟩;change _=_ at a d7;refine Step2.live (show wantedBy _ (f 7)=true by rw[d7];rfl) ?_;obtain⟨p0,p1,p2,p3,pl,q0,q2,qx⟩:=hfc.out w hC;obtain⟨ev,ec,ef⟩:=evs f;refine relUpon_value ?_ hC (Below.refl _ _) rfl;go_simp)
    ·intro w L f hC hLi hLd hLn ⟨a,d7,_⟩;change _=_ at a d7;refine Step2.live (show wantedBy _ (f 7)=true by rw[d7];rfl) ?_;obtain⟨ev,ec,ef⟩:=evs f;refine relUpon_value ?_ (hC) (Below.refl _ _) rfl;go_simp
    ·intro w L f hC hLi hLd hLn ⟨a,b,_⟩;change _=_ at a b;refine Step2.live rfl ?_;obtain⟨ev,ec,ef⟩:=evs f;refine relUpon_value ?_ (hC) (Below.refl _ _) rfl;go_simp
    ·intro w L f hC hLi hLd hLn ⟨d,_⟩;refine Step2.live rfl ?_;exact relUpon_value (v:=f 13) rfl (hC) (Below.refl _ _) d
    ·intro w L f hC hLi hLd hLn ⟨a,d14,_⟩;change _=_ at a d14;refine Step2.live (show wantedBy _ (f 14)=true by rw[d14];rfl) ?_;obtain⟨p0,p1,p2,p3,pl,q0,q2,qx⟩:=hfc.out w hC;obtain⟨ev,ec,ef⟩:=evs f;refine relUpon_value ?_ hC (Below.refl _ _) rfl;go_simp
    ·intro w L f hC hLi hLd hLn ⟨d1,d14,_⟩;change _=_ at d1 d14;refine Step2.live (show wantedBy _ (f 14)=true by rw[d14];rfl) ?_;exact relUpon_value (v:=f 1) rfl (hC) (Below.refl _ _) d1
    iterate 3 (intro w L f hC hLi hLd hLn ⟨a,d14,_⟩;change _=_ at a d14;refine Step2.live (show wantedBy _ (f 14)=true by rw[d14];rfl) ?_;obtain⟨p0,p1,p2,p3,pl,q0,q2,qx⟩:=hfc.out w hC;obtain⟨ev,ec,ef⟩:=evs f;refine relUpon_value ?_ hC (Below.refl _ _) rfl;go_simp)
    ·intro w L f hC hLi hLd hLn ⟨a,b,d14,_⟩;change _=_ at a b d14;refine Step2.live (show wantedBy _ (f 14)=true by rw[d14];rfl) ?_;obtain⟨ev,ec,ef⟩:=evs f;refine relUpon_call (f:=142) (args:= #[.agg #[.string (strV F.nm),.slice F.A1 F.ps.length F.c1,.slice F.A2 F.ls.length F.c2,.slice F.A3 F.n3 F.c3],.string (strV nm)]) (w:=w) (by go_simp) (ck.out w hC) ?_;rintro e w1 ⟨he,hB⟩;exact⟨_,he,hC.trans (hB.mono hC.size),hB,rfl⟩
    ·intro w L f hC hLi hLd hLn ⟨a,d14,_⟩;change _=_ at a d14;refine Step2.live (show wantedBy _ (f 14)=true by rw[d14];rfl) ?_;obtain⟨ev,ec,ef⟩:=evs f;refine relUpon_value ?_ (hC) (Below.refl _ _) rfl;go_simp
    ·intro w L f hC hLi hLd hLn ⟨a,b,_⟩;change _=_ at a b;refine Step2.live rfl ?_;obtain⟨ev,ec,ef⟩:=evs f;refine relUpon_value ?_ (hC) (Below.refl _ _) rfl;go_simp
    ·intro w L f hC hLi hLd hLn ⟨d,_⟩;refine Step2.live rfl ?_;exact relUpon_value (v:=f 22) rfl (hC) (Below.refl _ _) d
   intro x w' hC hV
   have e4:=hV 18 _ rfl rfl;have hC':=zi (hBd.out.trans (hC.mono hBd.out.size));clear hV hC;simp only[framed];rw[e4];go_wp2_with fail;go_ret;refine⟨?_,hC'.out⟩;rw[hR3.out];exact congrArg (fun b=>Ending.returned (.bool b)) (beq_cast (F.K nm) 2)
  ·have hR3:Hid (R=false):=zi (by rw[hRR'.out];unfold ptrF;simp[hk1])
   have hk2:((k:Int)==1)=false:=by simp;omega
   have hfc:Hid (∀w:World,Below wW.heap.size wW w→w.cell? ⟨g,0,none⟩=some (.string (strV F.nm))∧w.cell? ⟨g,1,none⟩=some (.slice F.A1 F.ps.length F.c1)∧w.cell? ⟨g,2,none⟩=some (.slice F.A2 F.ls.length F.c2)∧w.cell? ⟨g,3,none⟩=some (.slice F.A3 F.n3 F.c3)∧g<w.heap.size∧w.cell? ⟨gx,0,none⟩=some (.int .i64 k)∧w.cell? ⟨gx,2,none⟩=some (.string (strV nm))∧gx<w.heap.size):=zi fun w hb=>by obtain⟨x0,x1,x2,x3,xl⟩:=(hRd.out.below hb).facts;have hx:=hH.below hb hH.lt;exact⟨x0,x1,x2,x3,xl,hx.cell 0,hx.cell 2,hx.lt⟩
   clear hRd hxd hRR' hH hk1;go_enter Tryz.func143,Tryz.ntmps143;go_upto_region 1 with(fail);rw[hfo.out,hg'.out];clear hfo hg';refine wp_region_tabL ((eqv (.pointer (some ⟨gx,0,none⟩)))::(eqv (.bool true))::(eqv (.bool true))::(eqv (.pointer (some ⟨gx,0,none⟩)))::(eqv (.pointer (some ⟨gx,0,none⟩)))::(eqv (.pointer (some ⟨gx,0,none⟩)))::(eqv (.int .i64 k))::(eqv (.bool false))::(eqv (.bool false))::(eqv (.bool false))::eud::eud::eud::eud::eud::eud::eud::(eqv (.bool false))::(eqv (.bool false))::[])
    ((rn1 1)::(rd1 5 0)::(rd1 6 1)::(rq1 1 7 2)::(rg1 8 3 7 2)::(rg1 9 4 7 2)::(rg1 10 5 7 2)::(rg1 11 6 7 2)::⟨[(7,some 2),(12,some 7)],0,[]⟩::(rd1 13 8)::(rq1 2 14 9)::(rq1 1 14 9)::(rg1 16 11 14 9)::(rg1 17 12 14 9)::(rg1 18 13 14 9)::⟨[(15,some 10),(19,some 14),(14,some 9)],14,[]⟩::(rg1 20 15 14 9)::⟨[(14,some 9),(21,some 16)],0,[]⟩::(rd1 22 17)::[])
    (no::no::no::no::so 18::so 0::so 1::so 2::so 3::so 4::so 5::so 6::so 7::so 8::so 9::so 10::so 11::so 12::so 13::so 14::so 15::so 16::so 17::[])
    (fun _ w'=>Below wW.heap.size wW w') (fun _ w w'=>Below w.heap.size w w') ?mixK1pointerno ?okK1pointerno ?tabK1pointerno ?frK1pointerno ?inK1pointerno ?keptK1pointerno ?startK1pointerno ?eachK1pointerno ?finK1pointerno
   case mixK1pointerno|okK1pointerno|tabK1pointerno|frK1pointerno=>kernel_rfl
   case inK1pointerno=>rfl
   case keptK1pointerno=>((repeat refine⟨fun _ _ _ _ _ _ _ _ _ _ _ h=>h,?_⟩);exact trivial)
   case startK1pointerno=>exact hgo.out
   case eachK1pointerno=>
    repeat' first|exact trivial|refine And.intro ?_ ?_
    ·intro w L f hC hLi hLd hLn ⟨d,_⟩;refine Step2.live rfl ?_;exact relUpon_value (v:=f 1) rfl (hC) (Below.refl _ _) d
    ·intro w L f hC hLi hLd hLn ⟨a,_⟩;change _=_ at a;refine Step2.live rfl ?_;obtain⟨ev,ec,ef⟩:=evs f;refine relUpon_value ?_ (hC) (Below.refl _ _) rfl;go_simp
    ·intro w L f hC hLi hLd hLn ⟨d,_⟩;refine Step2.live rfl ?_;exact relUpon_value (v:=f 6) rfl (hC) (Below.refl _ _) d
    ·intro w L f hC hLi hLd hLn ⟨d1,d7,_⟩;change _=_ at d1 d7;refine Step2.live (show wantedBy _ (f 7)=true by rw[d7];rfl) ?_;exact relUpon_value (v:=f 1) rfl (hC) (Below.refl _ _) d1
    iterate 3 (intro w L f hC hLi hLd hLn ⟨a,d7,_⟩;change _=_ at a d7;refine Step2.live (show wantedBy _ (f 7)=true by rw[d7];rfl) ?_;obtain⟨p0,p1,p2,p3,pl,q0,q2,qx⟩:=hfc.out w hC;obtain⟨ev,ec,ef⟩:=evs f;refine relUpon_value ?_ hC (Below.refl _ _) rfl;go_simp)
    ·intro w L f hC hLi hLd hLn ⟨a,d7,_⟩;change _=_ at a d7;refine Step2.live (show wantedBy _ (f 7)=true by rw[d7];rfl) ?_;obtain⟨ev,ec,ef⟩:=evs f;refine relUpon_value ?_ (hC) (Below.refl _ _) rfl;go_simp
    ·intro w L f hC hLi hLd hLn ⟨a,b,_⟩;change _=_ at a b;refine Step2.live rfl ?_;obtain⟨ev,ec,ef⟩:=evs f;refine relUpon_value ?_ (hC) (Below.refl _ _) rfl;go_simp
    ·intro w L f hC hLi hLd hLn ⟨d,_⟩;refine Step2.live rfl ?_;exact relUpon_value (v:=f 13) rfl (hC) (Below.refl _ _) d
    iterate 5 (intro w L f hC hLi hLd hLn ⟨_,d,_⟩;refine StepL2.dead (show wantedBy _ (f 14)=false by rw[show f 14=_ from d];rfl) (hC) ?_ (Below.refl _ _);exact rfl)
    ·intro w L f hC hLi hLd hLn ⟨_,_,d,_⟩;refine StepL2.dead (show wantedBy _ (f 14)=false by rw[show f 14=_ from d];rfl) (hC) ?_ (Below.refl _ _);exact rfl
    ·intro w L f hC hLi hLd hLn ⟨_,d,_⟩;refine StepL2.dead (show wantedBy _ (f 14)=false by rw[show f 14=_ from d];rfl) (hC) ?_ (Below.refl _ _);exact rfl
    ·intro w L f hC hLi hLd hLn ⟨a,b,_⟩;change _=_ at a b;refine Step2.live rfl ?_;obtain⟨ev,ec,ef⟩:=evs f;refine relUpon_value ?_ (hC) (Below.refl _ _) rfl;go_simp
    ·intro w L f hC hLi hLd hLn ⟨d,_⟩;refine Step2.live rfl ?_;exact relUpon_value (v:=f 22) rfl (hC) (Below.refl _ _) d
   intro x w' hC hV
   have e4:=hV 18 _ rfl rfl;have hC':=zi (hBd.out.trans (hC.mono hBd.out.size));clear hV hC;simp only[framed];rw[e4];go_wp2_with fail;go_ret;exact⟨by rw[hR3.out];rfl,hC'.out⟩
theorem kindL_le:∀(l:List Vr) (x:List UInt8),kindL l x=0∨kindL l x=1∨kindL l x=2
 | [],_=> .inl rfl
 |v::l,x=>by
  unfold kindL;split
  ·split
   ·exact .inr (.inr rfl)
   ·exact .inr (.inl rfl)
  ·exact kindL_le l x
def zeroS:Array Value:= #[.int .i64 0,.string ⟨#[]⟩,.string ⟨#[]⟩,.pointer none,.pointer none,.pointer none,.slice none 0 0,.slice none 0 0,.slice none 0 0,.int .i64 0]
def Apt (S:Nat→Prop) (gs gr B:Nat) (x:Nat):Prop:=x≠gs∧x≠gr∧(S x∨B≤x)
def StOut (S:Nat→Prop) (K:List UInt8→Nat) (h:Hd) (At Al:Option Addr) (nt ct nl cl:Nat) (w:World) (e:Ending) (w':World):Prop:=
 ∃h' pe pf pc Aa na ca At' nt' ct' Al' nl' cl',e= .returned (.tuple #[.agg (stC h' pe pf pc Aa At' Al' na ca nt' ct' nl' cl'),.bool (stmtR K h).2])∧Below w.heap.size w w'∧
  ((stmtR K h).2=true→h'=(stmtR K h).1∧HdAt w' (fun x=>S x∨w.heap.size≤x) h' (.pointer pe) (.pointer pf) (.pointer pc) (.slice Aa na ca)∧(turned K h=true→At'=none∧nt'=0∧ct'=0∧Al'=none∧nl'=0∧cl'=0)∧(turned K h=false→At'=At∧nt'=nt∧ct'=ct∧Al'=Al∧nl'=nl∧cl'=cl))
theorem ret_cell2 {fn:Func} {p u:Tmp} {ty:TypeId} {R:Ending→World→Prop} {a:Act} {w:World} {g:Nat} {t:TypeId} {cs:Array Value} {fs:Array Field} (h:fn.results= #[.cell p ty,.tmp u]) (hd0:a.defers= []) (hp:a.tmps.getD p undef= .pointer (some ⟨g,0,none⟩))
  (hg:Holds w g t cs) (hu:Tryz.prog.underlying ty=some (.struct fs)) (hi:(Tryz.prog.info? ty).map (·.size)=some cs.size)
  (hR:R (.returned (.tuple #[.agg cs,a.tmps.getD u undef])) w):bodyPost Tryz.prog fn R .ret a w:=by
 refine bodyPost_ret_by (v:= .tuple #[.agg cs,a.tmps.getD u undef]) ?_ hd0 hR
 have hp':a.tmps[p]?.getD undef= .pointer (some ⟨g,0,none⟩):=by simpa[Array.getD_eq_getD_getElem?]using hp
 simp[results,h,hp',asAddr,run_loadVar_row w g t ty cs (0,0) _ hg hu rfl hi,Result.andThen,Array.getD_eq_getD_getElem?]
structure StB (S:Nat→Prop) (F:FnV) (h:Hd) (pe pf pc Aa:Option Addr) (na ca:Nat) (cs:Array Value) (g gs gr:Nat) (w0 w:World):Prop where
 rf:RfB F g w0 w
 hs:Holds w gs 63 cs
 hr:Holds w gr 63 zeroS
 hd:HdAt w (Apt S gs gr w0.heap.size) h (.pointer pe) (.pointer pf) (.pointer pc) (.slice Aa na ca)
 g0:w0.heap.size≤gs
 gl:gs<gr
section
variable {S:Nat→Prop} {F:FnV} {h:Hd} {pe pf pc Aa At Al:Option Addr} {na ca nt ct nl cl:Nat} {cs:Array Value} {g gs gr:Nat} {w0 w w':World}
theorem StB.below (H:StB S F h pe pf pc Aa na ca cs g gs gr w0 w) (hb:Below w.heap.size w w'):StB S F h pe pf pc Aa na ca cs g gs gr w0 w':=⟨H.rf.below hb,H.hs.below hb H.hs.lt,H.hr.below hb H.hr.lt,H.hd.below hb,H.g0,H.gl⟩
theorem StB.fr (H:StB S F h pe pf pc Aa na ca cs g gs gr w0 w):w.cell? ⟨gr,0,none⟩=some (.int .i64 0)∧w.cell? ⟨gr,1,none⟩=some (.string ⟨#[]⟩)∧w.cell? ⟨gr,2,none⟩=some (.string ⟨#[]⟩)∧w.cell? ⟨gr,3,none⟩=some (.pointer none)∧w.cell? ⟨gr,4,none⟩=some (.pointer none)∧w.cell? ⟨gr,5,none⟩=some (.pointer none)∧w.cell? ⟨gr,6,none⟩=some (.slice none 0 0)∧w.cell? ⟨gr,7,none⟩=some (.slice none 0 0)∧w.cell? ⟨gr,8,none⟩=some (.slice none 0 0)∧w.cell? ⟨gr,9,none⟩=some (.int .i64 0)∧gr<w.heap.size∧Hid (∀i,w.frozen? ⟨gr,i,none⟩=false):=
 ⟨H.hr.cell 0,H.hr.cell 1,H.hr.cell 2,H.hr.cell 3,H.hr.cell 4,H.hr.cell 5,H.hr.cell 6,H.hr.cell 7,H.hr.cell 8,H.hr.cell 9,H.hr.lt,zi fun i=>H.hr.frozen i⟩
theorem StB.end_ {K:List UInt8→Nat} {ok:Bool} (H:StB S F h pe pf pc Aa na ca (stC h pe pf pc Aa At Al na ca nt ct nl cl) g gs gr w0 w) (h0:Hd) (e2:(stmtR K h0).2=ok) (e1:ok=true→(stmtR K h0).1=h∧turned K h0=false):
  StOut S K h0 At Al nt ct nl cl w0 (.returned (.tuple #[.agg (stC h pe pf pc Aa At Al na ca nt ct nl cl),.bool ok])) (put10 w gr (.int .i64 h.k) (.string (strV h.x)) (.string (strV h.y)) (.pointer pe) (.pointer pf) (.pointer pc) (.slice Aa na ca) (.slice At nt ct) (.slice Al nl cl) (.int .i64 h.at_)):=by
 have hW:=put10_writes w gr (.int .i64 h.k) (.string (strV h.x)) (.string (strV h.y)) (.pointer pe) (.pointer pf) (.pointer pc) (.slice Aa na ca) (.slice At nt ct) (.slice Al nl cl) (.int .i64 h.at_);refine⟨h,pe,pf,pc,Aa,na,ca,At,nt,ct,Al,nl,cl,by rw[e2],H.rf.bl.trans (hW.below H.rf.bl.size fun j hj=>by have h1:=H.g0;have h2:=H.gl;simp at hj;omega),fun hok=> ?_⟩;obtain⟨y1,y2⟩:=e1 (e2▸hok);refine⟨y1.symm,(H.hd.keep fun x hx hS=>hW.block x hx (by simp;exact hS.2.1)).mono fun _ _ hS=>hS.2.2,fun ht=> ?_,fun _=>⟨rfl,rfl,rfl,rfl,rfl,rfl⟩⟩;rw[y2]at ht;cases ht
theorem StB.fin {K:List UInt8→Nat} {ok:Bool} {fn:Func} {p u:Tmp} {ty:TypeId} {a:Act} {fs:Array Field} (H:StB S F h pe pf pc Aa na ca (stC h pe pf pc Aa At Al na ca nt ct nl cl) g gs gr w0 w) (h0:Hd) (e2:(stmtR K h0).2=ok) (e1:ok=true→(stmtR K h0).1=h∧turned K h0=false)
  (hfn:fn.results= #[.cell p ty,.tmp u]) (hd0:a.defers= []) (hp:a.tmps.getD p undef= .pointer (some ⟨gr,0,none⟩)) (hok:a.tmps.getD u undef= .bool ok) (hu:Tryz.prog.underlying ty=some (.struct fs)) (hi:(Tryz.prog.info? ty).map (·.size)=some 10):
  bodyPost Tryz.prog fn (StOut S K h0 At Al nt ct nl cl w0) .ret a (put10 w gr (.int .i64 h.k) (.string (strV h.x)) (.string (strV h.y)) (.pointer pe) (.pointer pf) (.pointer pc) (.slice Aa na ca) (.slice At nt ct) (.slice Al nl cl) (.int .i64 h.at_)):=
 ret_cell2 hfn hd0 hp (put10_holds H.hr _ _ _ _ _ _ _ _ _ _) hu hi (by rw[hok];exact H.end_ h0 e2 e1)
theorem StB.gx (H:StB S F h pe pf pc Aa na ca cs g gs gr w0 w):HdAt w Evr h (.pointer pe) (.pointer pf) (.pointer pc) (.slice Aa na ca):=H.hd.mono fun _ _ _=>trivial
theorem StB.facts (H:StB S F h pe pf pc Aa na ca (stC h pe pf pc Aa At Al na ca nt ct nl cl) g gs gr w0 w):(w.cell? ⟨g,0,none⟩=some (.string (strV F.nm))∧w.cell? ⟨g,1,none⟩=some (.slice F.A1 F.ps.length F.c1)∧w.cell? ⟨g,2,none⟩=some (.slice F.A2 F.ls.length F.c2)∧w.cell? ⟨g,3,none⟩=some (.slice F.A3 F.n3 F.c3)∧g<w.heap.size)∧(w.cell? ⟨gs,0,none⟩=some (.int .i64 h.k)∧w.cell? ⟨gs,1,none⟩=some (.string (strV h.x))∧w.cell? ⟨gs,2,none⟩=some (.string (strV h.y))∧w.cell? ⟨gs,3,none⟩=some (.pointer pe)∧w.cell? ⟨gs,4,none⟩=some (.pointer pf)∧w.cell? ⟨gs,5,none⟩=some (.pointer pc)∧w.cell? ⟨gs,6,none⟩=some (.slice Aa na ca)∧w.cell? ⟨gs,7,none⟩=some (.slice At nt ct)∧w.cell? ⟨gs,8,none⟩=some (.slice Al nl cl)∧w.cell? ⟨gs,9,none⟩=some (.int .i64 h.at_)∧gs<w.heap.size):=⟨H.rf.facts,H.hs.cell 0,H.hs.cell 1,H.hs.cell 2,H.hs.cell 3,H.hs.cell 4,H.hs.cell 5,H.hs.cell 6,H.hs.cell 7,H.hs.cell 8,H.hs.cell 9,H.hs.lt⟩
end
end Go.Proofs.YtpndglghpojjkaaGreat
