/-
  1 texts of the proof, in one file: no condition.
-/
import Derived.Test.YtpndglghpojjkaaGreatPea13
set_option maxRecDepth 1000000
set_option maxHeartbeats 8000000
namespace Go.Proofs.YtpndglghpojjkaaGreat
open Go.RowKit Go.Deep
def gIt:Nat→List GIt
 |0=> [.cell [99],.cell [100],.arr [116] [52],.arr [117] [49]]
 |1=> [.cell [99],.arr [116] [50]]
 |2=> []
 |3=> [.cell [99],.cell [100],.cell [101],.arr [116] [57]]
 |_=> [.cell [100],.arr [117] [51]]
def gTx:Nat→ByteArray
 |0=>⟨#[99,101,108,108,32,99,59,32,99,101,108,108,32,100,59,32,97,114,114,97,121,32,116,91,52,93,59,32,97,114,114,97,121,32,117,91,49,93,59]⟩
 |1=>⟨#[99,101,108,108,32,99,59,32,97,114,114,97,121,32,116,91,50,93,59]⟩
 |2=>⟨#[]⟩
 |3=>⟨#[99,101,108,108,32,99,59,32,99,101,108,108,32,100,59,32,99,101,108,108,32,101,59,32,97,114,114,97,121,32,116,91,57,93,59]⟩
 |_=>⟨#[99,101,108,108,32,100,59,32,97,114,114,97,121,32,117,91,51,93,59]⟩
theorem gTx_all:(List.range 5).all (fun i=>(lexF (gTx i).data.toList).2==(0,0)&&(lexF (gTx i).data.toList).1.map tkOf==(gIt i).flatMap GIt.toks)=true:=by kernel_rfl
theorem gTx_told {i:Nat} (hi:i<5):(lexF (gTx i).data.toList).2=(0,0)∧(lexF (gTx i).data.toList).1.map tkOf=(gIt i).flatMap GIt.toks:=by
 have h:=List.all_eq_true.1 gTx_all i (List.mem_range.2 hi);simpa using h
theorem gIt_ok {i:Nat} (hi:i<5):(∀it∈gIt i,it.Ok)∧(gIt i).length≤4∧(gCells (gIt i)).length≤3∧(∀c∈gCells (gIt i),c.length≤100)∧(gCells (gIt i)).Nodup∧(gTx i).size≤100:=by
 have key:∀it:GIt,(match it with| .cell x=>wordF x=false| .arr x d=>wordF x=false∧0<numF d 0∧numF d 0≤1048576)→it.Ok:=fun it h=>by cases it<;>exact h
 match i,hi with
 |0,_=>exact⟨fun it h=>by simp[gIt]at h;rcases h with rfl|rfl|rfl|rfl<;>exact key _ (by decide),by decide,by decide,by decide,by decide,by decide⟩
 |1,_=>exact⟨fun it h=>by simp[gIt]at h;rcases h with rfl|rfl<;>exact key _ (by decide),by decide,by decide,by decide,by decide,by decide⟩
 |2,_=>exact⟨fun it h=>(nomatch h),by decide,by decide,by decide,by decide,by decide⟩
 |3,_=>exact⟨fun it h=>by simp[gIt]at h;rcases h with rfl|rfl|rfl|rfl<;>exact key _ (by decide),by decide,by decide,by decide,by decide,by decide⟩
 |4,_=>exact⟨fun it h=>by simp[gIt]at h;rcases h with rfl|rfl<;>exact key _ (by decide),by decide,by decide,by decide,by decide,by decide⟩
theorem gtext_any (w:World) (g:Nat) (hg:g<256):Calls Tryz.prog 23 #[.int .u8 g] w fun e w'=>(∃i,i<5∧e= .returned (.string (gTx i)))∧w'=w:=by
 have h5:g%5=0∨g%5=1∨g%5=2∨g%5=3∨g%5=4:=by omega
 rcases h5 with h|h|h|h|h
 all_goals
  have hz:(g:Int).tmod 5=((g%5:Nat):Int):=by rw[Int.tmod_eq_emod_of_nonneg (by omega)];omega
  rw[h]at hz;go_enter Tryz.func23,Tryz.ntmps23;go_wp2_with fail;go_ret
 ·exact⟨⟨0,by decide,rfl⟩,rfl⟩
 ·exact⟨⟨1,by decide,rfl⟩,rfl⟩
 ·exact⟨⟨2,by decide,rfl⟩,rfl⟩
 ·exact⟨⟨3,by decide,rfl⟩,rfl⟩
 ·exact⟨⟨4,by decide,rfl⟩,rfl⟩
theorem ent_memQ {w0 w':World} {ps ls:List Vr} {cs:List S} {e:Ending} {QI:List NRw} {QP:List (ByteArray×Pz)} (h:EntPost w0 ps ls cs e w') (hN:((entN ps ls cs).map fun x=>nmB x.nm).Nodup) (hP:((entP ps ls cs).map fun q=>nmB q.1).Nodup) (hQ:QI=setAll kN (refN ps ls cs)∧QP=setAll kQ (refP ps ls cs)):
  (∃v,e= .returned v∧MemAt w' QI QP v)∧Below w0.heap.size w0 w':=by rw[hQ.1,hQ.2];exact ent_mem h hN hP
theorem rent_memQ {w0 w':World} {ps ls:List Vr} {cs:List S} {e:Ending} {QI:List NRw} {QP:List (ByteArray×Pz)} (h:REntPost w0 ps ls cs e w') (hQ:QI=setAll kN (refN ps ls cs)∧QP=setAll kQ (refP ps ls cs)):
  (∃v,e= .returned v∧MemAt w' QI QP v)∧Below w0.heap.size w0 w':=by rw[hQ.1,hQ.2];exact rent_mem h
theorem mem_setAll_of {α:Type} (key:α→List UInt8):∀(l acc:List α) (x:α),x∈l.foldl (setL key) acc→x∈acc∨x∈l
 | [],_,_,h=> .inl h
 |y::l,acc,x,h=>by
  rcases mem_setAll_of key l _ x h with h1|h1
  ·rcases mem_setL key h1 with h2|h2
   ·exact .inr (by rw[h2];exact List.mem_cons_self ..)
   ·exact .inl h2
  ·exact .inr (List.mem_cons_of_mem _ h1)
theorem place4_any (w:World) (k:Int):Calls Tryz.prog 14 #[.int .i64 k,.int .i64 4] w fun e w'=>(∃r:Nat,e= .returned (.int .i64 r)∧r<4)∧w'=w:=by
 have h1: -4<k.tmod 4:=by have:=Int.lt_tmod_of_pos k (b:=4) (by decide);omega
 have h2:k.tmod 4<4:=Int.tmod_lt_of_pos k (by decide);by_cases hn:k.tmod 4<0
 ·go_enter Tryz.func14,Tryz.ntmps14;go_wp2_with fail;go_ret;exact⟨⟨(k.tmod 4+4).toNat,by rw[Int.toNat_of_nonneg (by omega)];rfl,by omega⟩,rfl⟩
 ·go_enter Tryz.func14,Tryz.ntmps14;go_wp2_with fail;go_ret;exact⟨⟨(k.tmod 4).toNat,by rw[Int.toNat_of_nonneg (by omega)];rfl,by omega⟩,rfl⟩
theorem got_nodup {r:Fnc} {cs:List S} (h:r=Fnc.none∨∃t:ByteArray,TxOk t∧Told t.data.toList r) (hc:cs.Nodup):((entN r.ps r.ls cs).map fun x=>nmB x.nm).Nodup∧((entP r.ps r.ls cs).map fun q=>nmB q.1).Nodup:=by
 rcases h with rfl| ⟨t,-,u,f,a,hf,hr⟩
 ·exact ent_nodup (fun v h=>nomatch h) List.nodup_nil hc
 ·obtain⟨-,e,-,hd,-⟩:=res_zero hr;have hw:=funcF_wd t.data.toList (by rw[hf]);rw[hf]at hw;subst e;exact ent_nodup hw ((dupB_nodup _).1 hd) hc
theorem mentry_walk (W:World) (v0 v1 v2:Value) (o0:ArgOk 3 W v0) (o1:ArgOk 37 W v1) (o2:ArgOk 5 W v2):Calls Tryz.prog 7 #[v0,v1,v2] W fun e w'=>e= .returned (.bool true)∧Below W.heap.size W w':=by
 obtain⟨k,rfl,-⟩:=o0.int;obtain⟨A,n,c,b,rfl,hn,hnc,hcm,hb⟩:=o1.bytes;obtain⟨g,rfl,hg⟩:=o2.u8;have hb':=zi hb;have hn':=zi hn;clear o0 o1 o2 hb hn;by_cases hl:n≤100
 case neg=>
  go_enter Tryz.func7,Tryz.ntmps7;go_wp2_with fail;refine(known15_any W).mono ?_;rintro e w1 ⟨rfl,hb1⟩;have hB1:=zi hb1;clear hb1;go_wp2_with fail;go_ret;exact⟨rfl,hB1.out⟩
 go_enter Tryz.func7,Tryz.ntmps7;go_wp2_with fail;refine(known15_any W).mono ?_;rintro e w1 ⟨rfl,hb1⟩;have hB1:=zi hb1;have hby:=zi (show Bytes w1 w1.heap.size A b from Row.more (Row.below hb'.out hb1) hb1.size);clear hb1;go_wp2_with fail;refine(place4_any w1 k).mono ?_;rintro e w1 ⟨⟨kk,rfl,hkk⟩,rfl⟩;have cF:=fn_any b w1 A c hby.out (by have:=hn'.out;omega) kk hkk;rw[hn'.out]at cF;replace cF:=zi cF;go_wp2_with fail;refine cF.out.mono ?_;clear cF;rintro e w2 ⟨r,B1,B2,B3,b1,b2,n3,d1,d2,d3,rfl,hF2,hb2,hT⟩;have hp:=hF2.ps;have hls:=hF2.ls;obtain⟨A1',c1',e1,-,-,-,-⟩:=hF2.ps;injection e1 with e1 e1' e1'';subst e1';obtain⟨A2',c2',e2,-,-,-,-⟩:=hF2.ls;injection e2 with e2 e2' e2'';subst e2';clear e1 e1'' e2 e2'' A1' c1' A2' c2' hF2;have k3:=below_new w2 (.cells (fnC r.nm B1 B2 B3 r.ps.length d1 r.ls.length d2 n3 d3) 26);have hf3:=Holds.new w2 26 (fnC r.nm B1 B2 B3 r.ps.length d1 r.ls.length d2 n3 d3);obtain⟨w3,hw3⟩:∃x,x=w2.alloc (.cells (fnC r.nm B1 B2 B3 r.ps.length d1 r.ls.length d2 n3 d3) 26):=⟨_,rfl⟩;obtain⟨gf,hgf⟩:∃x,x=w2.heap.size:=⟨_,rfl⟩;rw[←hw3]at k3 hf3;rw[←hgf]at hf3
 have hB2:=hB1.out.trans (hb2.mono hB1.out.size);have hB3:=zi (hB2.trans (k3.mono hB2.size));have hp3:=zi (hp.keep fun x hx _=>k3.block x hx);have hl3:=zi (hls.keep fun x hx _=>k3.block x hx);have hf3:=zi hf3;have hfew:=zi (got_few hT);have hT':=zi hT;have hfo:Hid (w2.alloc (.cells #[.string (strV r.nm),.slice B1 r.ps.length d1,.slice B2 r.ls.length d2,.slice B3 n3 d3] 26)=w3):=zi hw3.symm;have hgo:=zi hgf.symm;clear hp hls hT k3 hw3 hgf hB2 hb2 hB1 hby;go_upto_region 6 with(fail);rw[hfo.out,hgo.out];clear hfo hgo;go_wp2_with fail;refine(gtext_any w3 g hg).mono ?_;rintro e w3 ⟨⟨i,hi,rfl⟩,rfl⟩;have cG:=zi (globals_any w3 (gTx i) (Nat.le_trans (gIt_ok hi).2.2.2.2.2 (by decide)) (lexF (gTx i).data.toList).1 (gIt i) (by rw[←(gTx_told hi).1]) (gTx_told hi).2 (gIt_ok hi).1 (gIt_ok hi).2.1);obtain⟨cs,hcs0⟩:∃y,y=gCells (gIt i):=⟨_,rfl⟩;rw[←hcs0]at cG;have hcs:=zi (show cs.length≤3∧(∀c∈cs,c.length≤100)∧cs.Nodup by rw[hcs0];exact⟨(gIt_ok hi).2.2.1,(gIt_ok hi).2.2.2.1,(gIt_ok hi).2.2.2.2.1⟩);obtain⟨tx,htx⟩:∃y,y=gTx i:=⟨_,rfl⟩;rw[←htx]at cG⊢;clear hcs0 htx hi;go_wp2_with fail
 refine cG.out.mono ?_;clear cG;rintro e w4 ⟨X1,x1,X2,m2,x2,rfl,hr4,hxc,hb4⟩;have hB4:=hB3.out.trans (hb4.mono hB3.out.size);have k5:=below_new w4 (.cells #[.slice X1 cs.length x1,.slice X2 m2 x2] 48);have hx5:=Holds.new w4 48 #[.slice X1 cs.length x1,.slice X2 m2 x2];obtain⟨wq,hwq⟩:∃x,x=w4.alloc (.cells #[.slice X1 cs.length x1,.slice X2 m2 x2] 48):=⟨_,rfl⟩;obtain⟨gx,hgx⟩:∃x,x=w4.heap.size:=⟨_,rfl⟩;rw[←hwq]at k5 hx5;rw[←hgx]at hx5;have kk5:Below w3.heap.size w3 wq:=hb4.trans (k5.mono hb4.size);have hqf:=zi (hf3.out.below kk5 hf3.out.lt);have hqx:=zi hx5;have hqp:=zi (hp3.out.keep fun x hx _=>kk5.block x hx);have hql:=zi (hl3.out.keep fun x hx _=>kk5.block x hx);have hqr:=zi ((hr4.below k5).more k5.size);have hBq:=zi (hB4.trans (k5.mono hB4.size));have hnd:=zi (got_nodup hT'.out hcs.out.2.2);replace hxc:=zi hxc;obtain⟨QI,hQI⟩:∃y,y=setAll kN (refN r.ps r.ls cs):=⟨_,rfl⟩;obtain⟨QP,hQP⟩:∃y,y=setAll kQ (refP r.ps r.ls cs):=⟨_,rfl⟩;have hQ:Hid (QI=setAll kN (refN r.ps r.ls cs)∧QP=setAll kQ (refP r.ps r.ls cs)):=zi ⟨hQI,hQP⟩
 have hQl:Hid (QI.length≤1000∧QP.length≤1000∧∀q∈QP,q.2.cells.length≤1000):=zi (by
  have g1:=hfew.out.1;have g2:=hfew.out.2;have g3:=hcs.out.1;have e1:=filter_le (fun v:Vr=>if v.ptr then none else some (allN (strV v.nm))) r.ps;have e2:=filter_le (fun v:Vr=>if v.ptr then none else some (zeroN (strV v.nm))) r.ls;have e3:=filter_le (fun v:Vr=>if v.ptr then some (strV v.nm,(⟨true,canon cs⟩:Pz))else none) r.ps;have e4:=filter_le (fun v:Vr=>if v.ptr then some (strV v.nm,(⟨true,[]⟩:Pz))else none) r.ls;rw[hQI,hQP];refine⟨Nat.le_trans (setAll_len _ _) ?_,Nat.le_trans (setAll_len _ _) ?_,fun q hq=> ?_⟩
  ·simp only[refN,List.length_append,List.length_cons,List.length_nil,celN,List.length_map,locN,parN];omega
  ·simp only[refP,List.length_append,locP,parP];omega
  ·rcases mem_setAll_of kQ _ _ _ hq with h|h
   ·exact nomatch h
   ·have g4:=canon_len cs;rcases List.mem_append.1 h with h|h
    ·unfold locP at h;obtain⟨v,-,hv⟩:=List.mem_filterMap.1 h;cases hvp:v.ptr
     ·rw[hvp]at hv;simp at hv
     ·rw[hvp]at hv;simp at hv;rw[←hv];simp
    ·unfold parP at h;obtain⟨v,-,hv⟩:=List.mem_filterMap.1 h;cases hvp:v.ptr
     ·rw[hvp]at hv;simp at hv
     ·rw[hvp]at hv;simp at hv;rw[←hv];simp only;omega)
 replace hwq:=zi hwq.symm;replace hgx:=zi hgx.symm;clear hQI hQP k5 hx5 kk5 hr4 hb4 hB4 hf3 hp3 hl3 hT';go_upto_region 7 with(fail);rw[hwq.out,hgx.out];clear hwq hgx;refine wp_region_tab ((eqw (.agg (fnC r.nm B1 B2 B3 r.ps.length d1 r.ls.length d2 n3 d3)))::(eqw (.agg #[.slice X1 cs.length x1,.slice X2 m2 x2]))::(fun w v=>MemAt w QI QP v)::(eqw (.agg (fnC r.nm B1 B2 B3 r.ps.length d1 r.ls.length d2 n3 d3)))::(eqw (.agg #[.slice X1 cs.length x1,.slice X2 m2 x2]))::(fun w v=>MemAt w QI QP v)::(eqw (.bool true))::(eqw (.bool true))::[])
  ((rn1 7)::(rn1 8)::⟨[(27,some 0),(28,some 1)],0,[]⟩::(rn1 7)::(rn1 8)::⟨[(30,some 3),(31,some 4)],0,[]⟩::⟨[(29,some 2),(32,some 5)],0,[]⟩::(rd1 33 6)::[])
  (no::no::no::no::no::no::so 7::no::no::no::no::no::no::no::no::no::no::no::no::no::no::no::no::no::no::no::no::so 0::so 1::so 2::so 3::so 4::so 5::so 6::[])
  (fun _ w'=>Below wq.heap.size wq w') (fun _ w w'=>Below w.heap.size w w') ?mixK7 ?okK7 ?tabK7 ?frK7 ?inK7 ?keptK7 ?startK7 ?eachK7 ?finK7
 case mixK7|okK7|tabK7|frK7=>kernel_rfl
 case inK7=>rfl
 case keptK7=>exact⟨fun _ _ _ _ _ _ _ h=>h,fun _ _ _ _ _ _ _ h=>h,fun _ _ _=>fun w w' v hG h=>h.up hG,fun _ _ _ _ _ _ _ h=>h,fun _ _ _ _ _ _ _ h=>h,fun _ _ _=>fun w w' v hG h=>h.up hG,fun _ _ _ _ _ _ _ h=>h,fun _ _ _ _ _ _ _ h=>h,trivial⟩
 case startK7=>exact(Below.refl _ _).drew
 case eachK7=>
  repeat' first|exact trivial|refine And.intro ?_ ?_
  ·intro w L f hC hLi hLd hLn ⟨a,_⟩;change _=_ at a;refine Step2.live rfl ?_;have hh:=hqf.out.below hC hqf.out.lt;have hlt:=hh.lt;have f0:=(fact_of hh 0 rfl).2;have f1:=(fact_of hh 1 rfl).2;have f2:=(fact_of hh 2 rfl).2;have f3:=(fact_of hh 3 rfl).2;obtain⟨ev,ec,ef⟩:=evs f;refine relUpon_value ?_ hC (Below.refl _ _) rfl;go_simp;rfl
  ·intro w L f hC hLi hLd hLn ⟨a,_⟩;change _=_ at a;refine Step2.live rfl ?_;have hh:=hqx.out.below hC hqx.out.lt;have hlt:=hh.lt;have f0:=(fact_of hh 0 rfl).2;have f1:=(fact_of hh 1 rfl).2;obtain⟨ev,ec,ef⟩:=evs f;refine relUpon_value ?_ hC (Below.refl _ _) rfl;go_simp
  ·intro w L f hC hLi hLd hLn ⟨a,b,_⟩;change _=_ at a b;refine Step2.live rfl ?_;have hk:=fun x hx (_:Evr x)=>hC.block x hx;obtain⟨ev,ec,ef⟩:=evs f;refine relUpon_call (f:=25) (args:= #[.agg (fnC r.nm B1 B2 B3 r.ps.length d1 r.ls.length d2 n3 d3),.agg #[.slice X1 cs.length x1,.slice X2 m2 x2]]) (w:=w) (by go_simp) ((entry_any w r.nm r.ps r.ls B1 B2 B3 d1 d2 n3 d3 (hqp.out.keep hk) (hql.out.keep hk) cs X1 X2 x1 m2 x2 ((hqr.out.below hC).more hC.size) hfew.out.1 hfew.out.2 hcs.out.1 hcs.out.2.1 hnd.out.1 hnd.out.2).mono fun e w' h=>ent_memQ h hnd.out.1 hnd.out.2 hQ.out) ?_;rintro e w1 ⟨⟨v,he,hM⟩,hB⟩;exact⟨v,he,hC.trans (hB.mono hC.size),hB,hM⟩
  ·intro w L f hC hLi hLd hLn ⟨a,_⟩;change _=_ at a;refine Step2.live rfl ?_;have hh:=hqf.out.below hC hqf.out.lt;have hlt:=hh.lt;have f0:=(fact_of hh 0 rfl).2;have f1:=(fact_of hh 1 rfl).2;have f2:=(fact_of hh 2 rfl).2;have f3:=(fact_of hh 3 rfl).2;obtain⟨ev,ec,ef⟩:=evs f;refine relUpon_value ?_ hC (Below.refl _ _) rfl;go_simp;rfl
  ·intro w L f hC hLi hLd hLn ⟨a,_⟩;change _=_ at a;refine Step2.live rfl ?_;have hh:=hqx.out.below hC hqx.out.lt;have hlt:=hh.lt;have f0:=(fact_of hh 0 rfl).2;have f1:=(fact_of hh 1 rfl).2;obtain⟨ev,ec,ef⟩:=evs f;refine relUpon_value ?_ hC (Below.refl _ _) rfl;go_simp
  ·intro w L f hC hLi hLd hLn ⟨a,b,_⟩;change _=_ at a b;refine Step2.live rfl ?_;have hk:=fun x hx (_:Evr x)=>hC.block x hx;obtain⟨ev,ec,ef⟩:=evs f;refine relUpon_call (f:=26) (args:= #[.agg (fnC r.nm B1 B2 B3 r.ps.length d1 r.ls.length d2 n3 d3),.agg #[.slice X1 cs.length x1,.slice X2 m2 x2]]) (w:=w) (by go_simp) ((refEntry_any w r.nm r.ps r.ls B1 B2 B3 d1 d2 n3 d3 (hqp.out.keep hk) (hql.out.keep hk) cs X1 X2 x1 m2 x2 ((hqr.out.below hC).more hC.size) hxc.out hfew.out.1 hfew.out.2 hcs.out.1 hcs.out.2.1).mono fun e w' h=>rent_memQ h hQ.out) ?_;rintro e w1 ⟨⟨v,he,hM⟩,hB⟩;exact⟨v,he,hC.trans (hB.mono hC.size),hB,hM⟩
  ·intro w L f hC hLi hLd hLn ⟨d29,d32,_⟩;refine Step2.live rfl ?_;obtain⟨Aa,ka,Ab,kb,la,e1,a1,a2,a3⟩:=d29;obtain⟨Ac,kc,Ad,kd,lb,e2,b1,b2,b3⟩:=d32;have e1:f 29=_:=e1;have e2:f 32=_:=e2;obtain⟨ev,ec,ef⟩:=evs f;refine relUpon_call (f:=24) (args:= #[memV Aa QI.length ka Ab la.length kb,memV Ac QI.length kc Ad lb.length kd]) (w:=w) (by go_simp) (helpMem_any w QI la lb QP Aa Ab Ac Ad ka kb kc kd a1 a2 b1 b2 a3 b3 hQl.out.1 hQl.out.2.1 hQl.out.2.2) ?_;rintro e w1 ⟨he,hB⟩;exact⟨_,he,hC.trans (hB.mono hC.size),hB,rfl⟩
  ·intro w L f hC hLi hLd hLn ⟨d,_⟩;refine Step2.live rfl ?_;exact relUpon_value (v:=f 33) rfl (hC) (Below.refl _ _) d
 intro x w' hC hV
 obtain⟨vv,hvv⟩:∃v,v=x 7:=⟨_,rfl⟩;have e0:=hV 7 _ rfl rfl;rw[←hvv]at e0;simp only[framed];rw[←hvv];clear hvv hV;have hfin:=zi (hBq.out.trans (hC.mono hBq.out.size));clear hC;subst e0;go_wp2_with fail;go_ret;exact⟨rfl,hfin.out⟩
end Go.Proofs.YtpndglghpojjkaaGreat
