/-
  7 texts of the proof, in one file: no condition.
-/
import Derived.Deep.CutBlock
import Derived.Test.YtpndglghpojjkaaGreatPea11
set_option maxRecDepth 1000000
set_option maxHeartbeats 8000000
namespace Go.Proofs.YtpndglghpojjkaaGreat
open Go.RowKit Go.Deep
def Told (l:List UInt8) (r:Fnc):Prop:=∃(u:List UInt8) (f:Fnc) (a:Nat),funcF l=(f,a,0)∧resolveP f u=(r,0,0)
def FnL (l:List UInt8) (w:World) (v:Value):Prop:=v= .slice none 0 0∨∃q c r A1 A2 A3 n1 n2 n3 c1 c2 c3,v= .slice (some ⟨q,0,none⟩) 1 c∧Row w w.heap.size (some ⟨q,0,none⟩) [.string (strV r.nm),.slice A1 n1 c1,.slice A2 n2 c2,.slice A3 n3 c3]∧FnAt w Evr r (.slice A1 n1 c1) (.slice A2 n2 c2) (.slice A3 n3 c3)∧Told l r
theorem FnL.below {l:List UInt8} {w w':World} {v:Value} (h:FnL l w v) (hb:Below w.heap.size w w'):FnL l w' v:=by
 rcases h with h| ⟨q,c,r,A1,A2,A3,n1,n2,n3,c1,c2,c3,e,hr,hF,hT⟩
 ·exact .inl h
 ·exact .inr ⟨q,c,r,A1,A2,A3,n1,n2,n3,c1,c2,c3,e,(hr.below hb).more hb.size,hF.below hb,hT⟩
theorem CS.same {n m i:Nat} {w0 w:World} {F:World→Prop} {L:Nat→Bool} (h:CS n m w0 F L w) (hi:(n==i)=false):CS n m w0 F (fun k=>k==i||L k) w:=
 ⟨fun e=>h.1 (by simpa[hi]using e),fun e=>by
  have:=h.2 (by simpa[hi]using e)
  exact⟨by simp[this.1],this.2⟩⟩
theorem own4 {w:World} {base:Nat} {e:TypeId} {sz:Nat} {v:Value} {xs:List Value} (h:w.ownsRow base e sz v 1 xs):∃g c,v= .slice (some ⟨g,0,none⟩) 1 c∧Row w w.heap.size (some ⟨g,0,none⟩) xs:=by
 obtain⟨-,⟨-,h0⟩| ⟨g,cap,cur,rfl,hb,hg,hn,hcap,hs,ht⟩⟩:=h
 ·cases h0
 ·refine⟨g,cap,rfl,fun _=>⟨g,0,rfl,(Array.getElem?_eq_some_iff.1 hg).1,fun j u hu=> ?_⟩⟩;rw[Nat.zero_add,cell_of_row w g j cur e (0,0) hg];rw[←ht,List.getElem?_take]at hu;split at hu
  ·simpa using hu
  ·cases hu
theorem rowS_of {w:World} {B:Nat} {A:Option Addr} {xs:List Value} (h:Row w B A xs):RowS w Evr A xs:=fun hn=>by
 obtain⟨b,off,e,-,hc⟩:=h hn;exact⟨b,off,e,trivial,hc⟩
theorem own_fresh (w:World) {base:Nat} (hb:base≤w.heap.size) {T:TypeId} {a b c d:Value}:(w.alloc (.cells #[a,b,c,d] T)).ownsRow base T 4 (.slice (some ⟨w.heap.size,0,none⟩) 1 1) 1 [a,b,c,d]:=
 ⟨rfl,.inr ⟨w.heap.size,1,#[a,b,c,d],rfl,hb,heap_alloc_new w _,by decide,by decide,rfl,rfl⟩⟩
theorem grown4 {w0 w w':World} {e:TypeId} {sz:Nat} {v:Value} {xs:List Value} (hB:Below w0.heap.size w0 w) (ho:w.ownsRow w0.heap.size e sz v 1 xs) (hg:w.grownBy w' v.ownBlock):Below w0.heap.size w0 w':=by
 obtain⟨-,⟨-,h0⟩| ⟨g,cap,cur,rfl,hb,-⟩⟩:=ho
 ·cases h0
 ·exact hB.trans ⟨hg.os,hg.tape,hg.output,hg.size,fun k hk=>hg.block k (Nat.lt_of_lt_of_le hk hB.size) (fun h=>by simp[Value.ownBlock]at h;omega)⟩
theorem Tryz.clFn:(Tryz.prog.info? 26).map (fun i=>(i.zero,i.size,i.bytes))=some (some (.agg #[.string ⟨#[]⟩,.slice none 0 0,.slice none 0 0,.slice none 0 0]),4,88):=by kernel_rfl
theorem ret_cell1 {fn:Func} {p:Tmp} {ty:TypeId} {R:Ending→World→Prop} {a:Act} {w:World} {g:Nat} {t:TypeId} {cs:Array Value} {fs:Array Field} (h:fn.results= #[.cell p ty]) (hd0:a.defers= []) (hp:a.tmps.getD p undef= .pointer (some ⟨g,0,none⟩))
  (hg:Holds w g t cs) (hu:Tryz.prog.underlying ty=some (.struct fs)) (hi:(Tryz.prog.info? ty).map (·.size)=some cs.size) (hR:R (.returned (.agg cs)) w):bodyPost Tryz.prog fn R .ret a w:=by
 refine bodyPost_ret_by (v:= .agg cs) ?_ hd0 hR
 have hp':a.tmps[p]?.getD undef= .pointer (some ⟨g,0,none⟩):=by simpa[Array.getD_eq_getD_getElem?]using hp
 simp[results,h,hp',asAddr,run_loadVar_row w g t ty cs (0,0) _ hg hu rfl hi]
theorem Tryz.sProg:(Tryz.prog.info? 97).map (·.size)=some 3:=by kernel_rfl
def ProgZ:Array Value:= #[.slice none 0 0,.slice none 0 0,.slice none 0 0]
def PEnd (l:List UInt8) (w0:World) (gR gP:Nat) (w:World):Prop:=Below w0.heap.size w0 w∧Holds w gR 97 ProgZ∧∃v,Holds w gP 97 #[.slice none 0 0,.slice none 0 0,v]∧FnL l w v
theorem FnL.slice {l:List UInt8} {w:World} {v:Value} (h:FnL l w v):∃A n c,v= .slice A n c:=by
 rcases h with h| ⟨q,c,r,A1,A2,A3,n1,n2,n3,c1,c2,c3,e,-⟩
 ·exact⟨_,_,_,h⟩
 ·exact⟨_,_,_,e⟩
theorem FnL.stored {l:List UInt8} {w w':World} {v:Value} {gR:Nat} (h:FnL l w v) (hR:Holds w gR 97 ProgZ) (hW:Writes [some gR] w w'):FnL l w' v:=by
 rcases h with h| ⟨q,c,r,A1,A2,A3,n1,n2,n3,c1,c2,c3,e,hr,hF,hT⟩
 ·exact .inl h
 ·have hq:q≠gR:=fun e=>by obtain⟨b,off,e1,hb,hc⟩:=hr (by simp);injection e1 with e1;injection e1 with e1 e2;have h1:=hc 0 _ rfl;rw[←e1,←e2,e,hR.cell]at h1;cases h1
  exact .inr ⟨q,c,r,A1,A2,A3,n1,n2,n3,c1,c2,c3,e,(hW.row hr (Nat.le_refl _) (fun _=>by simp[blk];exact hq)).more hW.size,hF.stored (NoN.of3 hR) hW,hT⟩
theorem prog_end {l:List UInt8} {w0 wq:World} {gR gP:Nat} (hl:gR<gP∧w0.heap.size≤gR) (hB:Below w0.heap.size w0 wq) (hR:Holds wq gR 97 ProgZ) (hP:Holds wq gP 97 ProgZ) {r:Fnc} {A1 A2 A3:Option Addr} {n1 n2 n3 c1 c2 c3:Nat}
  (hF:FnAt wq Evr r (.slice A1 n1 c1) (.slice A2 n2 c2) (.slice A3 n3 c3)) {q c:Nat} (hr:Row wq wq.heap.size (some ⟨q,0,none⟩) [.string (strV r.nm),.slice A1 n1 c1,.slice A2 n2 c2,.slice A3 n3 c3]) (hT:Told l r):
  PEnd l w0 gR gP (wq.setCell ⟨gP,2,none⟩ (.slice (some ⟨q,0,none⟩) 1 c)):=by
 have hW:Writes [some gP] wq (wq.setCell ⟨gP,2,none⟩ (.slice (some ⟨q,0,none⟩) 1 c)):=Writes.store wq (by simp) _
 have hq:q≠gP:=fun e=>by obtain⟨b,off,e1,hb,hc⟩:=hr (by simp);injection e1 with e1;injection e1 with e1 e2;have h1:=hc 0 _ rfl;rw[←e1,←e2,e,hP.cell]at h1;cases h1
 refine⟨hB.trans (hW.below hB.size (fun k hk=>by simp at hk;omega)),hW.holds hR (by simp;omega),_,hP.store 2 _,.inr ⟨q,c,r,A1,A2,A3,n1,n2,n3,c1,c2,c3,rfl,?_,hF.stored (NoN.of3 hP) hW,hT⟩⟩;exact(hW.row hr (Nat.le_refl _) (fun _=>by simp[blk];exact hq)).more hW.size
theorem program_one (w:World) (q:Nat) (u:List UInt8) (t:ByteArray) (hu:u.length≤1) (ht:t.size≤100000) (h0:w.cell? ⟨q,0,none⟩=some (.string (strV u))) (h1:w.cell? ⟨q,1,none⟩=some (.string t)):
  Calls Tryz.prog 48 #[.slice (some ⟨q,0,none⟩) 1 1] w fun e w'=>∃v,e= .returned (.agg #[.slice none 0 0,.slice none 0 0,v])∧FnL t.data.toList w' v∧Below w.heap.size w w':=by
 have hql:=lt_of_cell h0
 have e1:((strV u).toList== [103,108,111,98,97,108,115])=false:=by rw[strV_toList];simp only[beq_eq_false_iff_ne,ne_eq];intro h;rw[h]at hu;exact absurd hu (by decide)
 have hb1:=below_new w (.cells ProgZ 97);have hH1:=Holds.new w 97 ProgZ;obtain⟨w1,hw1⟩:∃y,y=w.alloc (.cells ProgZ 97):=⟨_,rfl⟩;obtain⟨gR,hgR⟩:∃y,y=w.heap.size:=⟨_,rfl⟩;rw[←hw1]at hb1 hH1;rw[←hgR]at hH1;have hb2:=below_new w1 (.cells ProgZ 97);have hH2:=Holds.new w1 97 ProgZ;obtain⟨w2,hw2⟩:∃y,y=w1.alloc (.cells ProgZ 97):=⟨_,rfl⟩;obtain⟨gP,hgP⟩:∃y,y=w1.heap.size:=⟨_,rfl⟩;rw[←hw2]at hb2 hH2;rw[←hgP]at hH2;have hB2:=zi (hb1.trans (hb2.mono hb1.size));have hR2:=zi (hH1.below hb2 hH1.lt);have hP2:=zi hH2;have hlt:Hid (gR<gP∧w.heap.size≤gR):=zi ⟨by rw[hgP];exact hH1.lt,by omega⟩;have hf2:Hid ((w.alloc (.cells #[.slice none 0 0,.slice none 0 0,.slice none 0 0] 97)).alloc (.cells #[.slice none 0 0,.slice none 0 0,.slice none 0 0] 97)=w2):=zi (by rw[hw2,hw1];rfl);have hg2:Hid (w.heap.size+1=gP∧w.heap.size=gR):=zi ⟨by rw[hgP,hw1];simp,hgR.symm⟩;have h0':=zi h0;have h1':=zi h1;clear hb1 hH1 hb2 hH2 hw1 hw2 hgR hgP h0 h1;go_enter Tryz.func48,Tryz.ntmps48;go_wp2_with fail;rw[hf2.out,hg2.out.1,hg2.out.2]
 go_loopw [4] (fun i wl=>(i= .int .i64 0∧Hid (wl=w2))∨(i= .int .i64 1∧Hid (PEnd t.data.toList w gR gP wl))) (fun i _=>1-(intOf i).toNat)
 case atStart=>exact .inl ⟨rfl,zi rfl⟩
 rename World=>wl;rcases hrel with⟨rfl,hw⟩| ⟨rfl,hE⟩
 ·obtain rfl:=hw.out;clear hw;obtain⟨fz,a,b,hfab⟩:∃f a b,funcF t.data.toList=(f,a,b):=⟨_,_,_,rfl⟩
  have hwf:WfS fz.body:=by have:=(funcF_wf t.data.toList).body;rw[hfab]at this;exact this
  have cF:=zi ((func_any wl t (Nat.le_trans ht (by decide))).mono fun e w' h=>(h.out hfab).num);have p0:wl.cell? ⟨q,0,none⟩=some (.string (strV u)):=(hB2.out.cell (p:=⟨q,0,none⟩) hql).trans h0'.out;have p1:wl.cell? ⟨q,1,none⟩=some (.string t):=(hB2.out.cell (p:=⟨q,1,none⟩) hql).trans h1'.out;have hql2:q<wl.heap.size:=Nat.lt_of_lt_of_le hql hB2.out.size;have hfab':=zi hfab;have hwf':=zi hwf;clear hfab hwf;go_wp2_with fail;refine cF.out.mono ?_;clear cF p0 p1 hql2;rintro e w5 ⟨A1,A2,A3,An1,An2,An3,Ac1,Ac2,Ac3,rfl,hF5,hb5⟩;have hX5:=NumBx.new hF5;have hbn:=below_new w5 (.cells #[.string (strV fz.nm),.slice A1 An1 Ac1,.slice A2 An2 Ac2,.slice A3 An3 Ac3] 26);obtain⟨w6,hw5⟩:∃x,x=w5.alloc (.cells #[.string (strV fz.nm),.slice A1 An1 Ac1,.slice A2 An2 Ac2,.slice A3 An3 Ac3] 26):=⟨_,rfl⟩;obtain⟨g6,hg5⟩:∃x,x=w5.heap.size:=⟨_,rfl⟩;rw[←hw5,←hg5]at hX5;rw[←hw5]at hbn;have hst5:=hb5.trans (hbn.mono hb5.size);have hB6:=zi (hB2.out.trans (hst5.mono hB2.out.size));have hY5:=zi hX5;have hR6:=zi (hR2.out.below hst5 hR2.out.lt);have hP6:=zi (hP2.out.below hst5 hP2.out.lt)
  have hfo:=zi hw5.symm;have hgo:=zi hg5.symm;have hg6:=zi (And.intro (show w.heap.size≤g6 by rw[hg5];exact(hB2.out.trans (hb5.mono hB2.out.size)).size) (show gP<g6 by rw[hg5];exact Nat.lt_of_lt_of_le hP2.out.lt hb5.size));clear hF5 hb5 hbn hst5 hw5 hg5 hX5;have hend:Hid (PEnd t.data.toList w gR gP w6):=zi ⟨hB6.out,hR6.out,_,hP6.out,.inl rfl⟩;go_upto_region 10 with(fail);rw[hfo.out,hgo.out];clear hfo hgo;by_cases hb0:b=0
  case neg=>
   have hbb:((b:Int) !=0)=true:=by simp;omega
   go_wp2_with fail;exact⟨.inr ⟨rfl,hend⟩,by simp[intOf]⟩
  subst hb0;obtain⟨⟨r,ra,rb⟩,hr⟩:∃y,y=resolveP fz u:=⟨_,rfl⟩;have hr':=zi hr.symm;clear hr;obtain⟨q0,q1,q2,q3,ql⟩:=hY5.out.facts;have p0:w6.cell? ⟨q,0,none⟩=some (.string (strV u)):=(hB6.out.cell (p:=⟨q,0,none⟩) hql).trans h0'.out;have hql2:q<w6.heap.size:=Nat.lt_of_lt_of_le hql hB6.out.size;go_upto_region 11 with(fail);obtain⟨wW,hwW⟩:∃y,y=w6.drew:=⟨_,rfl⟩
  have hbd:Below w6.heap.size w6 wW:=by rw[hwW];exact(Below.refl _ w6).drew
  have hgo:Hid (Below wW.heap.size wW w6.drew):=zi (by rw[←hwW];exact Below.refl _ _);have hYW:=zi (hY5.out.below hbd);have hRW:=zi (hR6.out.below hbd hR6.out.lt);have hPW:=zi (hP6.out.below hbd hP6.out.lt);have hBW:=zi (hB6.out.trans (hbd.mono hB6.out.size));have hqW:=zi (show wW.cell? ⟨q,0,none⟩=some (.string (strV u))from(hbd.cell (p:=⟨q,0,none⟩) hql2).trans p0);have hqlW:=zi (Nat.lt_of_lt_of_le hql2 hbd.size);have hfc:Hid (∀w',Below wW.heap.size wW w'→(w'.cell? ⟨g6,0,none⟩=some (.string (strV fz.nm))∧w'.cell? ⟨g6,1,none⟩=some (.slice A1 An1 Ac1)∧w'.cell? ⟨g6,2,none⟩=some (.slice A2 An2 Ac2)∧w'.cell? ⟨g6,3,none⟩=some (.slice A3 An3 Ac3)∧g6<w'.heap.size)∧w'.cell? ⟨q,0,none⟩=some (.string (strV u))∧q<w'.heap.size):=zi fun w' hb=>⟨(hYW.out.below hb).facts,(hb.cell (p:=⟨q,0,none⟩) hqlW.out).trans hqW.out,Nat.lt_of_lt_of_le hqlW.out hb.size⟩;have hfz:Hid (∀w' i,Below wW.heap.size wW w'→w'.frozen? ⟨g6,i,none⟩=false):=zi fun w' i hb=>(hYW.out.h.below hb hYW.out.h.lt).frozen i
  have hcall:Hid (∀w',Below wW.heap.size wW w'→Calls Tryz.prog 11 #[.agg #[.string (strV fz.nm),.slice A1 An1 Ac1,.slice A2 An2 Ac2,.slice A3 An3 Ac3],.string (strV u)] w' (FnNum r ra rb w')):=zi fun w' hb=>resolve10_num (w:=w') hwf'.out hr'.out (hYW.out.below hb).at_;clear q0 q1 q2 q3 ql p0 hql2 hwW hbd hY5 hR6 hP6
  refine wp_region_tabL ((eqv (.agg #[.string (strV fz.nm),.slice A1 An1 Ac1,.slice A2 An2 Ac2,.slice A3 An3 Ac3]))::(eqv (.slice (some ⟨q,0,none⟩) 1 1))::(eqv (.int .i64 0))::(eqv (.pointer (some ⟨q,0,none⟩)))::(eqv (.pointer (some ⟨q,0,none⟩)))::(eqv (.string (strV u)))::(fun L w v=>∃B1 B2 B3 Bn1 Bn2 Bn3 Bc1 Bc2 Bc3,v= .tuple #[.agg #[.string (strV r.nm),.slice B1 Bn1 Bc1,.slice B2 Bn2 Bc2,.slice B3 Bn3 Bc3],.int .i64 ra,.int .i64 rb]∧(L 11=false→FnAt w Evr r (.slice B1 Bn1 Bc1) (.slice B2 Bn2 Bc2) (.slice B3 Bn3 Bc3)))::(fun L w v=>∃B1 B2 B3 Bn1 Bn2 Bn3 Bc1 Bc2 Bc3,v= .tuple #[.agg #[.string (strV r.nm),.slice B1 Bn1 Bc1,.slice B2 Bn2 Bc2,.slice B3 Bn3 Bc3],.int .i64 ra,.int .i64 rb]∧(L 11=false→FnAt w Evr r (.slice B1 Bn1 Bc1) (.slice B2 Bn2 Bc2) (.slice B3 Bn3 Bc3)))::(fun L w v=>∃B1 B2 B3 Bn1 Bn2 Bn3 Bc1 Bc2 Bc3,v= .agg #[.string (strV r.nm),.slice B1 Bn1 Bc1,.slice B2 Bn2 Bc2,.slice B3 Bn3 Bc3]∧(L 11=false→FnAt w Evr r (.slice B1 Bn1 Bc1) (.slice B2 Bn2 Bc2) (.slice B3 Bn3 Bc3)))::(eqv (.int .i64 ra))::(eqv (.int .i64 rb))::(fun _ _ _=>True)::(eqv (.int .i64 rb))::[])
   (⟨[(8,none)],0,[11]⟩::⟨[(0,none)],0,[11]⟩::⟨[(4,none)],0,[11]⟩::⟨[(57,some 1),(58,some 2)],0,[11]⟩::⟨[(59,some 3)],0,[11]⟩::⟨[(60,some 4)],0,[11]⟩::⟨[(56,some 0),(61,some 5)],0,[11]⟩::⟨[(62,some 6)],0,[11]⟩::⟨[(55,some 7)],0,[11]⟩::(rd1 55 7)::(rd1 55 7)::⟨[(8,none),(63,some 8)],0,[]⟩::(rd1 65 10)::[])
   (no::no::no::no::no::no::no::no::no::no::so 12::no::no::no::no::no::no::no::no::no::no::no::no::no::no::no::no::no::no::no::no::no::no::no::no::no::no::no::no::no::no::no::no::no::no::no::no::no::no::no::no::no::no::no::no::so 7::so 0::so 1::so 2::so 3::so 4::so 5::so 6::so 8::so 9::so 10::[])
   (fun L w'=>CS 11 6 wW (fun w'=>∃wq B1 B2 B3 Bn1 Bn2 Bn3 Bc1 Bc2 Bc3,Below wW.heap.size wW wq∧FnAt wq Evr r (.slice B1 Bn1 Bc1) (.slice B2 Bn2 Bc2) (.slice B3 Bn3 Bc3)∧w'=((((wq.setCell ⟨g6,0,none⟩ (.string (strV r.nm))).setCell ⟨g6,1,none⟩ (.slice B1 Bn1 Bc1)).setCell ⟨g6,2,none⟩ (.slice B2 Bn2 Bc2)).setCell ⟨g6,3,none⟩ (.slice B3 Bn3 Bc3))) L w') (fun i w w'=>i≠11→Below w.heap.size w w') ?mixK11prog11 ?okK11prog11 ?tabK11prog11 ?frK11prog11 ?inK11prog11 ?keptK11prog11 ?startK11prog11 ?eachK11prog11 ?finK11prog11
  case mixK11prog11|okK11prog11|tabK11prog11|frK11prog11=>kernel_rfl
  case inK11prog11=>rfl
  case keptK11prog11=>exact⟨fun _ _ _ _ _ _ _ _ _ _ _ h=>h,fun _ _ _ _ _ _ _ _ _ _ _ h=>h,fun _ _ _ _ _ _ _ _ _ _ _ h=>h,fun _ _ _ _ _ _ _ _ _ _ _ h=>h,fun _ _ _ _ _ _ _ _ _ _ _ h=>h,fun _ _ _ _ _ _ _ _ _ _ _ h=>h,fun i hne hr L w w' v hLi hC hC' hG ⟨B1,B2,B3,Bn1,Bn2,Bn3,Bc1,Bc2,Bc3,e,h⟩=>⟨B1,B2,B3,Bn1,Bn2,Bn3,Bc1,Bc2,Bc3,e,fun h1=>by
     simp only[Bool.or_eq_false_iff,beq_eq_false_iff_ne]at h1
     exact(h h1.2).below (hG fun e=>h1.1 e.symm)⟩,fun i hne hr L w w' v hLi hC hC' hG ⟨B1,B2,B3,Bn1,Bn2,Bn3,Bc1,Bc2,Bc3,e,h⟩=>⟨B1,B2,B3,Bn1,Bn2,Bn3,Bc1,Bc2,Bc3,e,fun h1=>by
     simp only[Bool.or_eq_false_iff,beq_eq_false_iff_ne]at h1
     exact(h h1.2).below (hG fun e=>h1.1 e.symm)⟩,fun i hne hr L w w' v hLi hC hC' hG ⟨B1,B2,B3,Bn1,Bn2,Bn3,Bc1,Bc2,Bc3,e,h⟩=>⟨B1,B2,B3,Bn1,Bn2,Bn3,Bc1,Bc2,Bc3,e,fun h1=>by
     simp only[Bool.or_eq_false_iff,beq_eq_false_iff_ne]at h1
     exact(h h1.2).below (hG fun e=>h1.1 e.symm)⟩,fun _ _ _ _ _ _ _ _ _ _ _ h=>h,fun _ _ _ _ _ _ _ _ _ _ _ h=>h,fun _ _ _ _ _ _ _ _ _ _ _ h=>h,fun _ _ _ _ _ _ _ _ _ _ _ h=>h,trivial⟩
  case startK11prog11=>exact⟨fun _=>hgo.out,fun e=>by simp at e⟩
  case eachK11prog11=>
   repeat' first|exact trivial|refine And.intro ?_ ?_
   ·intro w L f hC hLi hLd hLn ⟨a,_⟩;change _=_ at a;refine Step2.live rfl ?_;obtain⟨⟨x0,x1,x2,x3,xl⟩,x5,x6⟩:=hfc.out w (hC.bel (hLn 11 (by simp)));obtain⟨ev,ec,ef⟩:=evs f;refine relUpon_value ?_ (hC.same (i:=0) (by decide)) (fun _=>Below.refl _ _) rfl;go_simp
   ·intro w L f hC hLi hLd hLn ⟨d,_⟩;refine Step2.live rfl ?_;exact relUpon_value (v:=f 0) rfl (hC.same (i:=1) (by decide)) (fun _=>Below.refl _ _) d
   ·intro w L f hC hLi hLd hLn ⟨d,_⟩;refine Step2.live rfl ?_;exact relUpon_value (v:=f 4) rfl (hC.same (i:=2) (by decide)) (fun _=>Below.refl _ _) d
   ·intro w L f hC hLi hLd hLn ⟨a,b,_⟩;change _=_ at a b;refine Step2.live rfl ?_;obtain⟨⟨x0,x1,x2,x3,xl⟩,x5,x6⟩:=hfc.out w (hC.bel (hLn 11 (by simp)));obtain⟨ev,ec,ef⟩:=evs f;refine relUpon_value ?_ (hC.same (i:=3) (by decide)) (fun _=>Below.refl _ _) rfl;go_simp
   ·intro w L f hC hLi hLd hLn ⟨a,_⟩;change _=_ at a;refine Step2.live rfl ?_;obtain⟨⟨x0,x1,x2,x3,xl⟩,x5,x6⟩:=hfc.out w (hC.bel (hLn 11 (by simp)));obtain⟨ev,ec,ef⟩:=evs f;refine relUpon_value ?_ (hC.same (i:=4) (by decide)) (fun _=>Below.refl _ _) rfl;go_simp
   ·intro w L f hC hLi hLd hLn ⟨a,_⟩;change _=_ at a;refine Step2.live rfl ?_;obtain⟨⟨x0,x1,x2,x3,xl⟩,x5,x6⟩:=hfc.out w (hC.bel (hLn 11 (by simp)));obtain⟨ev,ec,ef⟩:=evs f;refine relUpon_value ?_ (hC.same (i:=5) (by decide)) (fun _=>Below.refl _ _) rfl;go_simp
   ·intro w L f hC hLi hLd hLn ⟨a,b,_⟩;change _=_ at a b;refine Step2.live rfl ?_;obtain⟨ev,ec,ef⟩:=evs f;refine relUpon_call (f:=11) (args:= #[.agg #[.string (strV fz.nm),.slice A1 An1 Ac1,.slice A2 An2 Ac2,.slice A3 An3 Ac3],.string (strV u)]) (w:=w) (by go_simp) (hcall.out w (hC.bel (hLn 11 (by simp)))) ?_;rintro e w1 ⟨B1,B2,B3,Bn1,Bn2,Bn3,Bc1,Bc2,Bc3,he,hF,hB⟩;exact⟨_,he,hC.go (i:=6) (hLn 11 (by simp)) (by decide) hB,fun _=>hB,B1,B2,B3,Bn1,Bn2,Bn3,Bc1,Bc2,Bc3,rfl,fun _=>hF⟩
   ·intro w L f hC hLi hLd hLn ⟨d62,_⟩;refine Step2.live rfl ?_;obtain⟨B1,B2,B3,Bn1,Bn2,Bn3,Bc1,Bc2,Bc3,e62,h62⟩:=d62;obtain⟨ev,ec,ef⟩:=evs f;refine relUpon_value (v:= .tuple #[.agg #[.string (strV r.nm),.slice B1 Bn1 Bc1,.slice B2 Bn2 Bc2,.slice B3 Bn3 Bc3],.int .i64 ra,.int .i64 rb]) ?_ (hC.same (i:=7) (by decide)) (fun _=>Below.refl _ _) ⟨B1,B2,B3,Bn1,Bn2,Bn3,Bc1,Bc2,Bc3,rfl,fun h=>h62 (by simpa using h)⟩;go_simp
   ·intro w L f hC hLi hLd hLn ⟨d55,_⟩;refine Step2.live rfl ?_;obtain⟨B1,B2,B3,Bn1,Bn2,Bn3,Bc1,Bc2,Bc3,e55,h55⟩:=d55;obtain⟨ev,ec,ef⟩:=evs f;refine relUpon_value (v:= .agg #[.string (strV r.nm),.slice B1 Bn1 Bc1,.slice B2 Bn2 Bc2,.slice B3 Bn3 Bc3]) ?_ (hC.same (i:=8) (by decide)) (fun _=>Below.refl _ _) ⟨B1,B2,B3,Bn1,Bn2,Bn3,Bc1,Bc2,Bc3,rfl,fun h=>h55 (by simpa using h)⟩;go_simp
   ·intro w L f hC hLi hLd hLn ⟨d55,_⟩;refine Step2.live rfl ?_;obtain⟨B1,B2,B3,Bn1,Bn2,Bn3,Bc1,Bc2,Bc3,e55,h55⟩:=d55;obtain⟨ev,ec,ef⟩:=evs f;refine relUpon_value ?_ (hC.same (i:=9) (by decide)) (fun _=>Below.refl _ _) rfl;go_simp
   ·intro w L f hC hLi hLd hLn ⟨d55,_⟩;refine Step2.live rfl ?_;obtain⟨B1,B2,B3,Bn1,Bn2,Bn3,Bc1,Bc2,Bc3,e55,h55⟩:=d55;obtain⟨ev,ec,ef⟩:=evs f;refine relUpon_value ?_ (hC.same (i:=10) (by decide)) (fun _=>Below.refl _ _) rfl;go_simp
   ·intro w L f hC hLi hLd hLn ⟨a,d63,_⟩;change _=_ at a;refine Step2.live rfl ?_;obtain⟨B1,B2,B3,Bn1,Bn2,Bn3,Bc1,Bc2,Bc3,e63,h63⟩:=d63;obtain⟨⟨x0,x1,x2,x3,xl⟩,x5,x6⟩:=hfc.out w (hC.bel hLi);have z0:=hfz.out w 0 (hC.bel hLi);have z1:=hfz.out w 1 (hC.bel hLi);have z2:=hfz.out w 2 (hC.bel hLi);have z3:=hfz.out w 3 (hC.bel hLi);obtain⟨ev,ec,ef⟩:=evs f;refine relUpon_skip (w':=((((w.setCell ⟨g6,0,none⟩ (.string (strV r.nm))).setCell ⟨g6,1,none⟩ (.slice B1 Bn1 Bc1)).setCell ⟨g6,2,none⟩ (.slice B2 Bn2 Bc2)).setCell ⟨g6,3,none⟩ (.slice B3 Bn3 Bc3))) ?_ (CS.last (hLd 6 (by decide)) ⟨w,B1,B2,B3,Bn1,Bn2,Bn3,Bc1,Bc2,Bc3,hC.bel hLi,h63 hLi,rfl⟩) (fun h=>absurd rfl h) trivial;go_simp
   ·intro w L f hC hLi hLd hLn ⟨d,_⟩;refine Step2.live rfl ?_;exact relUpon_value (v:=f 65) rfl (hC.same (i:=12) (by decide)) (fun _=>Below.refl _ _) d
  intro x w' hC hV
  obtain⟨wq,B1,B2,B3,Bn1,Bn2,Bn3,Bc1,Bc2,Bc3,hbq,hFq,rfl⟩:=(hC.2 rfl).2;have h10:x 12= .int .i64 rb:=hV 12 _ rfl rfl;simp only[framed,h10];have hbw:=hBW.out.trans (hbq.mono hBW.out.size);have hHq:=hYW.out.h.below hbq hYW.out.h.lt;have hZ:=put4_writes wq g6 (.string (strV r.nm)) (.slice B1 Bn1 Bc1) (.slice B2 Bn2 Bc2) (.slice B3 Bn3 Bc3);have hgg:=hg6.out;have hgl:=hlt.out;have hF7:=hFq.stored (NoN.of rfl rfl rfl rfl hHq) hZ;have hH7:=hHq.put4 (.string (strV r.nm)) (.slice B1 Bn1 Bc1) (.slice B2 Bn2 Bc2) (.slice B3 Bn3 Bc3);have hR7:=hZ.holds (hRW.out.below hbq hRW.out.lt) (by simp;omega);have hP7:=hZ.holds (hPW.out.below hbq hPW.out.lt) (by simp;omega);have hB7:=hbw.trans (hZ.below hbw.size (fun k hk=>by simp at hk;omega));obtain⟨w7,hw7⟩:∃y,y=(((wq.setCell ⟨g6,0,none⟩ (.string (strV r.nm))).setCell ⟨g6,1,none⟩ (.slice B1 Bn1 Bc1)).setCell ⟨g6,2,none⟩ (.slice B2 Bn2 Bc2)).setCell ⟨g6,3,none⟩ (.slice B3 Bn3 Bc3):=⟨_,rfl⟩;rw[←hw7]at hF7 hH7 hR7 hP7 hB7⊢;have hY7:=zi (show NumBx g6 r B1 B2 B3 Bn1 Bn2 Bn3 Bc1 Bc2 Bc3 w7 from⟨hH7,hF7⟩);replace hR7:=zi hR7;replace hP7:=zi hP7;replace hB7:=zi hB7
  clear hw7 hF7 hH7 hZ hHq hbw hbq hFq hfc hfz hcall hqW hqlW hYW hRW hPW hBW hend hgo h10 hC hV;by_cases hb1:rb=0
  case neg=>
   have hbb:((rb:Int) !=0)=true:=by simp;omega
   have hend:Hid (PEnd t.data.toList w gR gP w7):=zi ⟨hB7.out,hR7.out,_,hP7.out,.inl rfl⟩;go_wp2_with fail;exact⟨.inr ⟨rfl,hend⟩,by simp[intOf]⟩
  subst hb1;have p2:w7.cell? ⟨gP,2,none⟩=some (.slice none 0 0):=hP7.out.cell 2;have pl:=hP7.out.lt;go_wp2_with fail;go_loopw [11] (fun i wl=>i= .int .i64 0∧Hid (wl=w7)) (fun _ _=>0)
  case atStart=>exact⟨rfl,zi rfl⟩
  obtain⟨rfl,hw⟩:=hrel;rename World=>w8;obtain rfl:=hw.out;clear hw;go_wp2_with fail;go_quiet (fail);obtain⟨w9,hw9⟩:∃z,z=w8.drewN nq:=⟨_,rfl⟩
  have hb9:Below w8.heap.size w8 w9:=by rw[hw9];exact below_drewN (Below.refl _ _) nq
  rw[←hw9];have hY9:=zi (hY7.out.below hb9);have hR9:=zi (hR7.out.below hb9 hR7.out.lt);have hP9:=zi (hP7.out.below hb9 hP7.out.lt);have hB9:=zi (hB7.out.trans (hb9.mono hB7.out.size));clear hw9 hb9 hY7 hR7 hP7 hB7 p2 pl;go_upto_region 16 with(fail);obtain⟨iA,hiA,hzA0,hzA1,hzA2⟩:=info_parts Tryz.clFn;obtain⟨wW,hwW⟩:∃y,y=w9.drew:=⟨_,rfl⟩
  have hbd:Below w9.heap.size w9 wW:=by rw[hwW];exact(Below.refl _ w9).drew
  have hgo:Hid (Below wW.heap.size wW w9.drew):=zi (by rw[←hwW];exact Below.refl _ _);have hYW:=zi (hY9.out.below hbd);have hRW:=zi (hR9.out.below hbd hR9.out.lt);have hPW:=zi (hP9.out.below hbd hP9.out.lt);have hBW:=zi (hB9.out.trans (hbd.mono hB9.out.size));have hfc:Hid (∀w',Below wW.heap.size wW w'→(w'.cell? ⟨g6,0,none⟩=some (.string (strV r.nm))∧w'.cell? ⟨g6,1,none⟩=some (.slice B1 Bn1 Bc1)∧w'.cell? ⟨g6,2,none⟩=some (.slice B2 Bn2 Bc2)∧w'.cell? ⟨g6,3,none⟩=some (.slice B3 Bn3 Bc3)∧g6<w'.heap.size)∧w'.cell? ⟨gP,2,none⟩=some (.slice none 0 0)∧gP<w'.heap.size):=zi fun w' hb=>⟨(hYW.out.below hb).facts,(hPW.out.below hb hPW.out.lt).cell 2,(hPW.out.below hb hPW.out.lt).lt⟩;have hfz:Hid (∀w' i,Below wW.heap.size wW w'→w'.frozen? ⟨gP,i,none⟩=false):=zi fun w' i hb=>(hPW.out.below hb hPW.out.lt).frozen i;clear hwW hbd hY9 hR9 hP9 hB9
  refine wp_region_tabL ((eqv (.pointer (some ⟨gP,2,none⟩)))::(eqv (.slice none 0 0))::(eqv (.int .i64 0))::(eqv (.int .i64 0))::(eqv (.slice none 0 0))::(eqv (.agg #[.string (strV r.nm),.slice B1 Bn1 Bc1,.slice B2 Bn2 Bc2,.slice B3 Bn3 Bc3]))::(fun L w v=>L 11=false→w.ownsRow wW.heap.size 26 4 v 1 [.string (strV r.nm),.slice B1 Bn1 Bc1,.slice B2 Bn2 Bc2,.slice B3 Bn3 Bc3])::(eqv (.pointer (some ⟨gP,2,none⟩)))::(eqv (.slice none 0 0))::(eqv (.int .i64 0))::(eqv (.slice none 0 0))::(fun L w v=>L 11=true∧(L 12=false→w.ownsRow wW.heap.size 26 4 v 1 [.string (strV r.nm),.slice B1 Bn1 Bc1,.slice B2 Bn2 Bc2,.slice B3 Bn3 Bc3]))::(fun L w v=>L 12=true∧(L 14=false→w.ownsRow wW.heap.size 26 4 v 1 [.string (strV r.nm),.slice B1 Bn1 Bc1,.slice B2 Bn2 Bc2,.slice B3 Bn3 Bc3]))::(eqv (.pointer (some ⟨gP,2,none⟩)))::(fun _ _ _=>True)::[])
   (⟨[(3,none)],0,[14]⟩::⟨[(87,some 0)],0,[14]⟩::⟨[(11,none)],0,[14]⟩::⟨[(11,none)],0,[14]⟩::⟨[(88,some 1),(89,some 2),(90,some 3)],0,[14]⟩::⟨[(8,none)],0,[14]⟩::⟨[(92,some 5)],0,[14]⟩::⟨[(3,none)],0,[14]⟩::⟨[(94,some 7)],0,[14]⟩::⟨[(11,none)],0,[14]⟩::⟨[(95,some 8),(96,some 9)],0,[14]⟩::⟨[(93,some 6),(97,some 10)],0,[14]⟩::⟨[(91,some 4),(98,some 11)],0,[14]⟩::⟨[(3,none)],0,[14]⟩::⟨[(100,some 13),(99,some 12)],0,[]⟩::[])
   (no::no::no::no::no::no::no::no::no::no::no::no::no::no::no::no::no::no::no::no::no::no::no::no::no::no::no::no::no::no::no::no::no::no::no::no::no::no::no::no::no::no::no::no::no::no::no::no::no::no::no::no::no::no::no::no::no::no::no::no::no::no::no::no::no::no::no::no::no::no::no::no::no::no::no::no::no::no::no::no::no::no::no::no::no::no::no::so 0::so 1::so 2::so 3::so 4::so 5::so 6::so 7::so 8::so 9::so 10::so 11::so 12::so 13::[])
   (fun L w'=>CS 14 12 wW (fun w'=>∃v wq,Below wW.heap.size wW wq∧wq.ownsRow wW.heap.size 26 4 v 1 [.string (strV r.nm),.slice B1 Bn1 Bc1,.slice B2 Bn2 Bc2,.slice B3 Bn3 Bc3]∧w'=wq.setCell ⟨gP,2,none⟩ v) L w'∧(L 12=true→L 11=true)) (fun i w w'=>i≠11→i≠14→Below w.heap.size w w') ?mixK16prog16 ?okK16prog16 ?tabK16prog16 ?frK16prog16 ?inK16prog16 ?keptK16prog16 ?startK16prog16 ?eachK16prog16 ?finK16prog16
  case mixK16prog16|okK16prog16|tabK16prog16|frK16prog16=>kernel_rfl
  case inK16prog16=>rfl
  case keptK16prog16=>exact⟨fun _ _ _ _ _ _ _ _ _ _ _ h=>h,fun _ _ _ _ _ _ _ _ _ _ _ h=>h,fun _ _ _ _ _ _ _ _ _ _ _ h=>h,fun _ _ _ _ _ _ _ _ _ _ _ h=>h,fun _ _ _ _ _ _ _ _ _ _ _ h=>h,fun _ _ _ _ _ _ _ _ _ _ _ h=>h,fun i hne hr L w w' v hLi hC hC' hG h h1=>by
     simp only[Bool.or_eq_false_iff,beq_eq_false_iff_ne]at h1
     have n14:i≠14:=fun e=>by subst e;have h2:=(hC'.1.2 (by simp)).1;have h3:=hC.2 (by simpa using h2);rw[h1.2]at h3;cases h3
     exact own_below (h h1.2) (hG (fun e=>h1.1 e.symm) n14),fun _ _ _ _ _ _ _ _ _ _ _ h=>h,fun _ _ _ _ _ _ _ _ _ _ _ h=>h,fun _ _ _ _ _ _ _ _ _ _ _ h=>h,fun _ _ _ _ _ _ _ _ _ _ _ h=>h,fun i hne hr L w w' v hLi hC hC' hG h=>⟨by simp[h.1],fun h1=>by
     simp only[Bool.or_eq_false_iff,beq_eq_false_iff_ne]at h1
     have n14:i≠14:=fun e=>by subst e;have h2:=(hC'.1.2 (by simp)).1;simp[h1.2]at h2
     exact own_below (h.2 h1.2) (hG hne n14)⟩,fun i hne hr L w w' v hLi hC hC' hG h=>⟨by simp[h.1],fun h1=>by
     simp only[Bool.or_eq_false_iff,beq_eq_false_iff_ne]at h1
     have n11:i≠11:=fun e=>by subst e;have:=hC.2 h.1;rw[hLi]at this;cases this
     exact own_below (h.2 h1.2) (hG n11 fun e=>h1.1 e.symm)⟩,fun _ _ _ _ _ _ _ _ _ _ _ h=>h,fun _ _ _ _ _ _ _ _ _ _ _ h=>h,trivial⟩
  case startK16prog16=>exact⟨⟨fun _=>hgo.out,fun e=>by simp at e⟩,fun e=>by simp at e⟩
  case eachK16prog16=>
   repeat' first|exact trivial|refine And.intro ?_ ?_
   ·intro w L f hC hLi hLd hLn ⟨a,_⟩;change _=_ at a;refine Step2.live rfl ?_;obtain⟨⟨x0,x1,x2,x3,xl⟩,x5,x6⟩:=hfc.out w (hC.1.bel (hLn 14 (by simp)));obtain⟨ev,ec,ef⟩:=evs f;refine relUpon_value ?_ (⟨hC.1.same (i:=0) (by decide),fun h=>by simp at h⊢;exact hC.2 h⟩) (fun _ _=>Below.refl _ _) rfl;go_simp
   ·intro w L f hC hLi hLd hLn ⟨a,_⟩;change _=_ at a;refine Step2.live rfl ?_;obtain⟨⟨x0,x1,x2,x3,xl⟩,x5,x6⟩:=hfc.out w (hC.1.bel (hLn 14 (by simp)));obtain⟨ev,ec,ef⟩:=evs f;refine relUpon_value ?_ (⟨hC.1.same (i:=1) (by decide),fun h=>by simp at h⊢;exact hC.2 h⟩) (fun _ _=>Below.refl _ _) rfl;go_simp
   ·intro w L f hC hLi hLd hLn ⟨d,_⟩;refine Step2.live rfl ?_;exact relUpon_value (v:=f 11) rfl (⟨hC.1.same (i:=2) (by decide),fun h=>by simp at h⊢;exact hC.2 h⟩) (fun _ _=>Below.refl _ _) d
   ·intro w L f hC hLi hLd hLn ⟨d,_⟩;refine Step2.live rfl ?_;exact relUpon_value (v:=f 11) rfl (⟨hC.1.same (i:=3) (by decide),fun h=>by simp at h⊢;exact hC.2 h⟩) (fun _ _=>Below.refl _ _) d
   ·intro w L f hC hLi hLd hLn ⟨a,b,c,_⟩;change _=_ at a b c;refine Step2.live rfl ?_;obtain⟨⟨x0,x1,x2,x3,xl⟩,x5,x6⟩:=hfc.out w (hC.1.bel (hLn 14 (by simp)));obtain⟨ev,ec,ef⟩:=evs f;refine relUpon_value ?_ (⟨hC.1.same (i:=4) (by decide),fun h=>by simp at h⊢;exact hC.2 h⟩) (fun _ _=>Below.refl _ _) rfl;go_simp
   ·intro w L f hC hLi hLd hLn ⟨a,_⟩;change _=_ at a;refine Step2.live rfl ?_;obtain⟨⟨x0,x1,x2,x3,xl⟩,x5,x6⟩:=hfc.out w (hC.1.bel (hLn 14 (by simp)));obtain⟨ev,ec,ef⟩:=evs f;refine relUpon_value ?_ (⟨hC.1.same (i:=5) (by decide),fun h=>by simp at h⊢;exact hC.2 h⟩) (fun _ _=>Below.refl _ _) rfl;go_simp
   ·intro w L f hC hLi hLd hLn ⟨a,_⟩;change _=_ at a;refine Step2.live rfl ?_;have hbn:=below_new w (.cells #[.string (strV r.nm),.slice B1 Bn1 Bc1,.slice B2 Bn2 Bc2,.slice B3 Bn3 Bc3] 26);have hbs:=(hC.1.bel (hLn 14 (by simp))).size;obtain⟨ev,ec,ef⟩:=evs f;refine relUpon_value (w':=w.alloc (.cells #[.string (strV r.nm),.slice B1 Bn1 Bc1,.slice B2 Bn2 Bc2,.slice B3 Bn3 Bc3] 26)) (v:= .slice (some ⟨w.heap.size,0,none⟩) 1 1) (by go_simp) ⟨hC.1.go (i:=6) (hLn 14 (by simp)) (by decide) hbn,fun h=>by simp at h⊢;exact hC.2 h⟩ (fun _ _=>hbn) (fun _=>own_fresh w hbs)
   ·intro w L f hC hLi hLd hLn ⟨a,_⟩;change _=_ at a;refine Step2.live rfl ?_;obtain⟨⟨x0,x1,x2,x3,xl⟩,x5,x6⟩:=hfc.out w (hC.1.bel (hLn 14 (by simp)));obtain⟨ev,ec,ef⟩:=evs f;refine relUpon_value ?_ (⟨hC.1.same (i:=7) (by decide),fun h=>by simp at h⊢;exact hC.2 h⟩) (fun _ _=>Below.refl _ _) rfl;go_simp
   ·intro w L f hC hLi hLd hLn ⟨a,_⟩;change _=_ at a;refine Step2.live rfl ?_;obtain⟨⟨x0,x1,x2,x3,xl⟩,x5,x6⟩:=hfc.out w (hC.1.bel (hLn 14 (by simp)));obtain⟨ev,ec,ef⟩:=evs f;refine relUpon_value ?_ (⟨hC.1.same (i:=8) (by decide),fun h=>by simp at h⊢;exact hC.2 h⟩) (fun _ _=>Below.refl _ _) rfl;go_simp
   ·intro w L f hC hLi hLd hLn ⟨d,_⟩;refine Step2.live rfl ?_;exact relUpon_value (v:=f 11) rfl (⟨hC.1.same (i:=9) (by decide),fun h=>by simp at h⊢;exact hC.2 h⟩) (fun _ _=>Below.refl _ _) d
   ·intro w L f hC hLi hLd hLn ⟨a,b,_⟩;change _=_ at a b;refine Step2.live rfl ?_;obtain⟨⟨x0,x1,x2,x3,xl⟩,x5,x6⟩:=hfc.out w (hC.1.bel (hLn 14 (by simp)));obtain⟨ev,ec,ef⟩:=evs f;refine relUpon_value ?_ (⟨hC.1.same (i:=10) (by decide),fun h=>by simp at h⊢;exact hC.2 h⟩) (fun _ _=>Below.refl _ _) rfl;go_simp
   ·intro w L f hC hLi hLd hLn ⟨d93,d97,_⟩;change _=_ at d97;refine Step2.live rfl ?_;have ho1:=d93 hLi;obtain⟨ev,ec,ef⟩:=evs f;refine relUpon_append_rowS w (.tmp 93) (.tmp 97) 95 rfl wW.heap.size 26 iA _ 4 88 Tryz.underlying95 hiA hzA0 hzA1 hzA2 rfl (by omega) (f 93) 1 [.string (strV r.nm),.slice B1 Bn1 Bc1,.slice B2 Bn2 Bc2,.slice B3 Bn3 Bc3] (by rw[ev]) ho1 none 0 0 [] (by rw[ev,d97]) rfl (RowS.nil_ _ _ _) (fun u h=>nomatch h) (by decide) (by decide) (hC.1.bel (hLn 14 (by simp))).size ?_;intro v' w' ho hg;exact⟨⟨CS.go0 (hLn 14 (by simp)) (by decide) (grown4 (hC.1.bel (hLn 14 (by simp))) ho1 hg),fun _=>by simp⟩,fun h=>absurd rfl h,by simp,fun _=>by simpa using ho⟩
   ·intro w L f hC hLi hLd hLn ⟨d91,d98,_⟩;change _=_ at d91;refine Step2.live rfl ?_;have ho1:=d98.2 hLi;obtain⟨g9,c',e98,hr98⟩:=own4 ho1;obtain⟨ev,ec,ef⟩:=evs f;refine relUpon_append_rowS w (.tmp 91) (.tmp 98) 95 rfl wW.heap.size 26 iA _ 4 88 Tryz.underlying95 hiA hzA0 hzA1 hzA2 rfl (by omega) (.slice none 0 0) 0 [] (by rw[ev,d91]) (World.ownsRow_nil _ _ _ _) (some ⟨g9,0,none⟩) 1 c' [.string (strV r.nm),.slice B1 Bn1 Bc1,.slice B2 Bn2 Bc2,.slice B3 Bn3 Bc3] (by rw[ev,e98]) rfl (rowS_of hr98) (by intro u h;simp at h;rcases h with rfl|rfl|rfl|rfl<;>rfl) (by decide) (by decide) (hC.1.bel (hLn 14 (by simp))).size ?_;intro v' w' ho hg;have hb:Below w.heap.size w w':=⟨hg.os,hg.tape,hg.output,hg.size,fun k hk=>hg.block k hk (by simp[Value.ownBlock])⟩;exact⟨⟨hC.1.go (i:=12) (hLn 14 (by simp)) (by decide) hb,fun _=>by simp[hLd 11 (by decide)]⟩,fun _ _=>hb,by simp,fun _=>by simpa using ho⟩
   ·intro w L f hC hLi hLd hLn ⟨a,_⟩;change _=_ at a;refine Step2.live rfl ?_;obtain⟨⟨x0,x1,x2,x3,xl⟩,x5,x6⟩:=hfc.out w (hC.1.bel (hLn 14 (by simp)));obtain⟨ev,ec,ef⟩:=evs f;refine relUpon_value ?_ (⟨hC.1.same (i:=13) (by decide),fun h=>by simp at h⊢;exact hC.2 h⟩) (fun _ _=>Below.refl _ _) rfl;go_simp
   ·intro w L f hC hLi hLd hLn ⟨a,d99,_⟩;change _=_ at a;refine Step2.live rfl ?_;have ho1:=d99.2 hLi;obtain⟨q9,c9,e99,-⟩:=own4 ho1;rw[e99]at ho1;obtain⟨⟨x0,x1,x2,x3,xl⟩,x5,x6⟩:=hfc.out w (hC.1.bel hLi);have z2:=hfz.out w 2 (hC.1.bel hLi);obtain⟨ev,ec,ef⟩:=evs f;refine relUpon_skip (w':=w.setCell ⟨gP,2,none⟩ (.slice (some ⟨q9,0,none⟩) 1 c9)) ?_ ⟨CS.last (hLd 12 (by decide)) ⟨_,w,hC.1.bel hLi,ho1,rfl⟩,fun h=>by simp at h⊢;exact hC.2 h⟩ (fun _ h=>absurd rfl h) trivial;go_simp
  intro x w' hC hV
  obtain⟨v,wq,hbq,ho,rfl⟩:=(hC.1.2 rfl).2;simp only[framed];obtain⟨q9,c9,rfl,hrow⟩:=own4 ho;have hend:Hid (PEnd t.data.toList w gR gP (wq.setCell ⟨gP,2,none⟩ (.slice (some ⟨q9,0,none⟩) 1 c9))):=zi (prog_end hlt.out (hBW.out.trans (hbq.mono hBW.out.size)) (hRW.out.below hbq hRW.out.lt) (hPW.out.below hbq hPW.out.lt) (hYW.out.at_.below hbq) hrow ⟨u,fz,a,hfab'.out,by rw[hr'.out,(res_zero hr'.out).1]⟩);go_wp2_with fail;exact⟨.inr ⟨rfl,hend⟩,by simp[intOf]⟩
 ·obtain⟨hB,hR,v,hP,hL⟩:=hE.out;have p0:wl.cell? ⟨gP,0,none⟩=some (.slice none 0 0):=hP.cell 0;have p1:wl.cell? ⟨gP,1,none⟩=some (.slice none 0 0):=hP.cell 1;have p2:wl.cell? ⟨gP,2,none⟩=some v:=hP.cell 2;have pl:=hP.lt;obtain⟨An,nn,cn,rfl⟩:=hL.slice;have r0:wl.cell? ⟨gR,0,none⟩=some (.slice none 0 0):=hR.cell 0;have r1:wl.cell? ⟨gR,1,none⟩=some (.slice none 0 0):=hR.cell 1;have r2:wl.cell? ⟨gR,2,none⟩=some (.slice none 0 0):=hR.cell 2;have rl:=hR.lt;have rf:=hR.frozen;have f0:=rf 0;have f1:=rf 1;have f2:=rf 2;clear rf;have hW:Writes [some gR] wl (((wl.setCell ⟨gR,0,none⟩ (.slice none 0 0)).setCell ⟨gR,1,none⟩ (.slice none 0 0)).setCell ⟨gR,2,none⟩ (.slice An nn cn)):=((Writes.store wl (by simp) _).trans (Writes.store _ (by simp) _)).trans (Writes.store _ (by simp) _)
  have hH3:Holds (((wl.setCell ⟨gR,0,none⟩ (.slice none 0 0)).setCell ⟨gR,1,none⟩ (.slice none 0 0)).setCell ⟨gR,2,none⟩ (.slice An nn cn)) gR 97 #[.slice none 0 0,.slice none 0 0,.slice An nn cn]:=by have:=((hR.store 0 (.slice none 0 0)).store 1 (.slice none 0 0)).store 2 (.slice An nn cn);simpa[ProgZ]using this
  have hE3:=zi (And.intro hH3 (And.intro (hL.stored hR hW) (hB.trans (hW.below hB.size (fun k hk=>by simp at hk;have:=hlt.out;omega)))));clear hB hR hP hL hW hH3;go_wp2_with fail;refine ret_cell1 rfl rfl rfl hE3.out.1 Tryz.underlying97 Tryz.sProg ?_;exact⟨_,rfl,hE3.out.2⟩
structure MkS (b:List UInt8) (B g:Nat) (A:Option Addr) (c i:Nat) (m:Int) (w:World):Prop where
 h:Holds w g 162 #[.slice A b.length c,.int .i64 i,.int .i64 m]
 b:Bytes w B A b
 lo:B≤g
theorem MkS.below {b:List UInt8} {B g:Nat} {A:Option Addr} {c i:Nat} {m:Int} {w w':World} (h:MkS b B g A c i m w) (hb:Below w.heap.size w w'):MkS b B g A c i m w':=
 ⟨h.h.below hb h.h.lt,Row.below h.b (hb.mono (Nat.le_of_lt (Nat.lt_of_le_of_lt h.lo h.h.lt))),h.lo⟩
theorem MkS.put {b:List UInt8} {B g:Nat} {A:Option Addr} {c i:Nat} {m:Int} {w:World} (h:MkS b B g A c i m w) (i':Nat):MkS b B g A c i' m (w.setCell ⟨g,1,none⟩ (.int .i64 i')):=
 ⟨h.h.store 1 _,Row.below h.b ((Writes.store (M:= [some g]) w (by simp) _).below (Nat.le_of_lt (Nat.lt_of_le_of_lt h.lo h.h.lt)) (fun k hk=>by simp at hk;rw[hk];exact h.lo)),h.lo⟩
theorem MkS.putM {b:List UInt8} {B g:Nat} {A:Option Addr} {c i:Nat} {m:Int} {w:World} (h:MkS b B g A c i m w) (m':Int):MkS b B g A c i m' (w.setCell ⟨g,2,none⟩ (.int .i64 m')):=
 ⟨h.h.store 2 _,Row.below h.b ((Writes.store (M:= [some g]) w (by simp) _).below (Nat.le_of_lt (Nat.lt_of_le_of_lt h.lo h.h.lt)) (fun k hk=>by simp at hk;rw[hk];exact h.lo)),h.lo⟩
def Mk (b:List UInt8) (B g k:Nat) (w:World):Prop:=∃A c i m,MkS b B g A c i m w∧i≤k∧-(k:Int)≤m∧m≤25
theorem Mk.below {b:List UInt8} {B g k:Nat} {w w':World} (h:Mk b B g k w) (hb:Below w.heap.size w w'):Mk b B g k w':=by
 obtain⟨A,c,i,m,hS,hi⟩:=h;exact⟨A,c,i,m,hS.below hb,hi⟩
theorem Mk.more {b:List UInt8} {B g k k':Nat} {w:World} (h:Mk b B g k w) (hk:k≤k'):Mk b B g k' w:=by
 obtain⟨A,c,i,m,hS,hi,h1,h2⟩:=h;exact⟨A,c,i,m,hS,by omega,by omega,h2⟩
theorem mnext_any (b:List UInt8) (B g k:Nat) (w:World) (h:Mk b B g k w) (hl:b.length≤100000) (hk:k≤1000000) (n:Nat) (hn:0<n) (hn2:n≤1000):
  Calls Tryz.prog 97 #[.pointer (some ⟨g,0,none⟩),.int .i64 n] w fun e w'=>(∃r:Nat,e= .returned (.int .i64 r)∧r<n)∧Mk b B g (k+1) w'∧Writes [some g] w w':=by
 obtain⟨A,c,i,m,hS,hi,hm1,hm2⟩:=h;have p0:w.cell? ⟨g,0,none⟩=some (.slice A b.length c):=hS.h.cell 0;have p1:w.cell? ⟨g,1,none⟩=some (.int .i64 i):=hS.h.cell 1;have pl:=hS.h.lt;by_cases hlt:i<b.length
 ·obtain⟨bb,off,hA,hbb,hcell⟩:=hS.b.at_ hlt;have hx:b[i].toNat<256:=b[i].toNat_lt;obtain⟨x,hxx⟩:∃x,x=b[i].toNat:=⟨_,rfl⟩;rw[←hxx]at hx hcell;subst hA;have hS':=zi hS;obtain⟨L,hL⟩:∃x,x=b.length:=⟨_,rfl⟩;rw[←hL]at p0 hlt hl;have hbl:bb<w.heap.size:=Nat.lt_of_lt_of_le hbb (Nat.le_of_lt (Nat.lt_of_le_of_lt hS.lo pl));have hW0:=zi (Writes.refl [some g] w);clear hxx hS hL;go_enter Tryz.func97,Tryz.ntmps97;go_wp2_with fail;go_quiet (fail);obtain⟨w1,hw1⟩:∃z,z=w.drewN nq:=⟨_,rfl⟩
  have hb1:Below w.heap.size w w1:=by rw[hw1];exact below_drewN (Below.refl _ _) nq
  rw[←hw1];have hS1:=hS'.out.below hb1;have hW1:=zi (Writes.of_below hb1 [some g]);replace hcell:=(hb1.cell (p:=⟨bb,off+i,none⟩) hbl).trans hcell;have hbl1:=Nat.lt_of_lt_of_le hbl hb1.size;clear hw1 hb1 p0 p1 pl hbl hS' hW0;have p0:w1.cell? ⟨g,0,none⟩=some (.slice (some ⟨bb,off,none⟩) b.length c):=hS1.h.cell 0;have p1:w1.cell? ⟨g,1,none⟩=some (.int .i64 i):=hS1.h.cell 1;have pl:=hS1.h.lt;have hS1':=zi hS1;clear hS1;go_wp2_with fail;go_quiet (fail);obtain⟨w2,hw2⟩:∃z,z=w1.drewN nq:=⟨_,rfl⟩
  have hb2:Below w1.heap.size w1 w2:=by rw[hw2];exact below_drewN (Below.refl _ _) nq
  rw[←hw2];have hS2:=hS1'.out.below hb2;have hW2:=hW1.out.trans (Writes.of_below hb2 [some g]);clear hw2 hb2 p0 p1 pl hcell hbl1 hS1' hW1;have p1:w2.cell? ⟨g,1,none⟩=some (.int .i64 i):=hS2.h.cell 1;have pl:=hS2.h.lt;have pz:=hS2.h.frozen 1;have hE:=zi (And.intro (hS2.put (i+1)) (hW2.trans (Writes.store (M:= [some g]) w2 (p:=⟨g,1,none⟩) (by simp) (.int .i64 ((i+1:Nat):Int)))));clear hS2 hW2;go_wp2_with fail;go_ret;exact⟨⟨x%n,rfl,Nat.mod_lt _ hn⟩,⟨_,_,_,_,hE.out.1,by omega,by omega,hm2⟩,hE.out.2⟩
 ·have hS':=zi hS;obtain⟨L,hL⟩:∃x,x=b.length:=⟨_,rfl⟩;rw[←hL]at p0 hlt hl;clear hS hL;go_enter Tryz.func97,Tryz.ntmps97;go_wp2_with fail;go_quiet (fail);obtain⟨w2,hw2⟩:∃z,z=w.drewN nq:=⟨_,rfl⟩
  have hb2:Below w.heap.size w w2:=by rw[hw2];exact below_drewN (Below.refl _ _) nq
  rw[←hw2];have hS2:=hS'.out.below hb2;have hW2:=Writes.of_below hb2 [some g];clear hw2 hb2 p0 p1 pl hS';have p1:w2.cell? ⟨g,1,none⟩=some (.int .i64 i):=hS2.h.cell 1;have pl:=hS2.h.lt;have pz:=hS2.h.frozen 1;have hE:=zi (And.intro (hS2.put (i+1)) (hW2.trans (Writes.store (M:= [some g]) w2 (p:=⟨g,1,none⟩) (by simp) (.int .i64 ((i+1:Nat):Int)))));clear hS2 hW2;go_wp2_with fail;go_ret;exact⟨⟨0,rfl,hn⟩,⟨_,_,_,_,hE.out.1,by omega,by omega,hm2⟩,hE.out.2⟩
def vtrB:List UInt8→Bool
 | []=>false
 |c::r=>c==118|| (c==116&&r.head? ==some 114)||vtrB r
def clnB (s:ByteArray):Bool:= !vtrB s.data.toList&&s.data.toList.getLast? !=some 116
def Cln (s:ByteArray):Prop:=clnB s=true
def ClnW (s:ByteArray):Prop:=vtrB s.data.toList=false
theorem tr_app:∀{a b:List UInt8},vtrB a=false→vtrB b=false→(a.getLast? ≠some 116∨b.head? ≠some 114)→vtrB (a++b)=false
 | [],_,_,h,_=>h
 | [c],b,h1,h2,h3=>by
  simp only[vtrB,List.getLast?_singleton,List.head?_nil,Bool.or_eq_false_iff,Bool.and_eq_false_iff,List.cons_append,List.nil_append]at h1 h3⊢;refine⟨⟨h1.1.1,?_⟩,h2⟩;rcases h3 with h|h
  ·exact .inl (by simpa using h)
  ·exact .inr (by simpa using h)
 |c::d::r,b,h1,h2,h3=>by
  have h4:vtrB (d::r)=false:=by unfold vtrB at h1;simp only[Bool.or_eq_false_iff]at h1;exact h1.2
  have h5:=tr_app h4 h2 (by simpa[List.getLast?_cons_cons]using h3);unfold vtrB at h1⊢;simp only[Bool.or_eq_false_iff,List.cons_append,List.head?_cons]at h1 h5⊢;exact⟨⟨h1.1.1,h1.1.2⟩,h5⟩
theorem Cln.parts {s:ByteArray}:Cln s↔vtrB s.data.toList=false∧s.data.toList.getLast? ≠some 116:=by
 unfold Cln clnB;simp
theorem cat_list (a b:ByteArray):(a++b).data.toList=a.data.toList++b.data.toList:=by simp
theorem Cln.appW {a b:ByteArray} (h:Cln a) (h2:ClnW b):ClnW (a++b):=by
 have h:=Cln.parts.1 h;unfold ClnW at h2⊢;rw[cat_list];exact tr_app h.1 h2 (.inl h.2)
theorem last_app {a b:List UInt8} (ha:a.getLast? ≠some 116) (hb:b.getLast? ≠some 116):(a++b).getLast? ≠some 116:=by
 rw[List.getLast?_append]
 cases h:b.getLast? with
 |none=>simpa using ha
 |some x=>rw[h]at hb;simpa using hb
theorem Cln.app {a b:ByteArray} (h:Cln a) (h2:Cln b):Cln (a++b):=by
 have h':=Cln.parts.1 h;have h3:=Cln.parts.1 h2;exact Cln.parts.2 ⟨h.appW h3.1,by rw[cat_list];exact last_app h'.2 h3.2⟩
theorem ClnW.cat {a b:ByteArray} (h:ClnW a) (h2:Cln b) (h3:b.data.toList.head? ≠some 114) (h4:b.data.toList≠[]):Cln (a++b):=by
 have h2:=Cln.parts.1 h2;refine Cln.parts.2 ⟨by rw[cat_list];exact tr_app h h2.1 (.inr h3),?_⟩;rw[cat_list,List.getLast?_append]
 cases h:b.data.toList.getLast? with
 |none=>exact absurd (List.getLast?_eq_none_iff.1 h) h4
 |some x=>have:=h2.2;rw[h]at this;simpa using this
theorem cat_nil_ (a:ByteArray):a=a++⟨#[]⟩:=by
 apply ByteArray.ext;rw[ByteArray.data_append];simp
theorem clnLit {s:ByteArray} (h:clnB s=true):Cln s:=h
def MkOut (b:List UInt8) (B g k M:Nat) (w:World) (e:Ending) (w':World):Prop:=(∃s:ByteArray,e= .returned (.string s)∧s.size≤M∧Cln s)∧Mk b B g k w'∧Writes [some g] w w'
theorem MkOut.more {b:List UInt8} {B g k k' M M':Nat} {w w':World} {e:Ending} (h:MkOut b B g k M w e w') (hk:k≤k') (hM:M≤M'):MkOut b B g k' M' w e w':=by
 obtain⟨⟨s,e,hs,hq⟩,h1,h2⟩:=h;exact⟨⟨s,e,Nat.le_trans hs hM,hq⟩,h1.more hk,h2⟩
theorem Mk.lt {b:List UInt8} {B g k:Nat} {w:World} (h:Mk b B g k w):g<w.heap.size:=by
 obtain⟨A,c,i,m,hS,-⟩:=h;exact hS.h.lt
theorem pick_at {w:World} {g:Nat} {T:TypeId} {l:List ByteArray} (h:Holds w g T (l.map Value.string).toArray) {r M:Nat} (hr:r<l.length) (hM:∀s∈l,s.size≤M) {p:ByteArray→Bool} (hp:l.all p=true):∃s:ByteArray,w.cell? ⟨g,r,none⟩=some (.string s)∧s.size≤M∧p s=true:=by
 refine⟨l[r],?_,hM _ (List.getElem_mem hr),List.all_eq_true.1 hp _ (List.getElem_mem hr)⟩;rw[h.cell r];simp[hr]
theorem mnum_any (b:List UInt8) (B g k:Nat) (w:World) (h:Mk b B g k w) (hl:b.length≤100000) (hk:k≤900000):
  Calls Tryz.prog 148 #[.pointer (some ⟨g,0,none⟩)] w (MkOut b B g (k+1) 19 w):=by
 have hbn:=below_new w (.cells #[.string ⟨#[48]⟩,.string ⟨#[49]⟩,.string ⟨#[50]⟩,.string ⟨#[51]⟩,.string ⟨#[52]⟩,.string ⟨#[49,48]⟩,.string ⟨#[57,50,50,51,51,55,50,48,51,54,56,53,52,55,55,53,56,48,55]⟩,.string ⟨#[55]⟩] 9);have hH:=Holds.new w 9 #[.string ⟨#[48]⟩,.string ⟨#[49]⟩,.string ⟨#[50]⟩,.string ⟨#[51]⟩,.string ⟨#[52]⟩,.string ⟨#[49,48]⟩,.string ⟨#[57,50,50,51,51,55,50,48,51,54,56,53,52,55,55,53,56,48,55]⟩,.string ⟨#[55]⟩];obtain⟨w1,hw1⟩:∃z,z=w.alloc (.cells #[.string ⟨#[48]⟩,.string ⟨#[49]⟩,.string ⟨#[50]⟩,.string ⟨#[51]⟩,.string ⟨#[52]⟩,.string ⟨#[49,48]⟩,.string ⟨#[57,50,50,51,51,55,50,48,51,54,56,53,52,55,55,53,56,48,55]⟩,.string ⟨#[55]⟩] 9):=⟨_,rfl⟩;obtain⟨g1,hg1⟩:∃z,z=w.heap.size:=⟨_,rfl⟩;rw[←hw1]at hbn hH
 have hne:g1≠g:=by have:=h.lt;omega
 have cN:=zi (mnext_any b B g k w1 (h.below hbn) hl (by omega) 8 (by decide) (by decide));have hW1:=zi (Writes.of_below hbn [some g]);rw[←hg1]at hH;have hH':=zi hH;have hfo:=zi hw1.symm;have hgo:=zi hg1.symm;clear hbn hH hw1 hg1 h;go_enter Tryz.func148,Tryz.ntmps148;go_wp2_with fail;rw[hfo.out,hgo.out];clear hfo hgo;refine cN.out.mono ?_;clear cN;rintro e w2 ⟨⟨r,rfl,hr⟩,hM2,hW2⟩;have hH2:=hW2.holds hH'.out (by simpa using hne);obtain⟨s,hs,hsM⟩:=pick_at (l:= [⟨#[48]⟩,⟨#[49]⟩,⟨#[50]⟩,⟨#[51]⟩,⟨#[52]⟩,⟨#[49,48]⟩,⟨#[57,50,50,51,51,55,50,48,51,54,56,53,52,55,55,53,56,48,55]⟩,⟨#[55]⟩]) (M:=19) (p:=clnB) hH2 hr (by decide) (by decide);have ql:=hH2.lt;have hE:=zi (And.intro hM2 (hW1.out.trans hW2));have hsM':=zi hsM;clear hH2 hM2 hW2 hW1 hH' hsM;go_wp2_with fail;go_ret;exact⟨⟨s,rfl,hsM'.out⟩,hE.out⟩
theorem mivar_any (b:List UInt8) (B g k:Nat) (w:World) (h:Mk b B g k w) (hl:b.length≤100000) (hk:k≤900000):
  Calls Tryz.prog 99 #[.pointer (some ⟨g,0,none⟩)] w (MkOut b B g (k+1) 1 w):=by
 have hbn:=below_new w (.cells #[.string ⟨#[97]⟩,.string ⟨#[98]⟩,.string ⟨#[120]⟩,.string ⟨#[99]⟩,.string ⟨#[100]⟩,.string ⟨#[97]⟩] 9);have hH:=Holds.new w 9 #[.string ⟨#[97]⟩,.string ⟨#[98]⟩,.string ⟨#[120]⟩,.string ⟨#[99]⟩,.string ⟨#[100]⟩,.string ⟨#[97]⟩];obtain⟨w1,hw1⟩:∃z,z=w.alloc (.cells #[.string ⟨#[97]⟩,.string ⟨#[98]⟩,.string ⟨#[120]⟩,.string ⟨#[99]⟩,.string ⟨#[100]⟩,.string ⟨#[97]⟩] 9):=⟨_,rfl⟩;obtain⟨g1,hg1⟩:∃z,z=w.heap.size:=⟨_,rfl⟩;rw[←hw1]at hbn hH
 have hne:g1≠g:=by have:=h.lt;omega
 have cN:=zi (mnext_any b B g k w1 (h.below hbn) hl (by omega) 6 (by decide) (by decide));have hW1:=zi (Writes.of_below hbn [some g]);rw[←hg1]at hH;have hH':=zi hH;have hfo:=zi hw1.symm;have hgo:=zi hg1.symm;clear hbn hH hw1 hg1 h;go_enter Tryz.func99,Tryz.ntmps99;go_wp2_with fail;rw[hfo.out,hgo.out];clear hfo hgo;refine cN.out.mono ?_;clear cN;rintro e w2 ⟨⟨r,rfl,hr⟩,hM2,hW2⟩;have hH2:=hW2.holds hH'.out (by simpa using hne);obtain⟨s,hs,hsM⟩:=pick_at (l:= [⟨#[97]⟩,⟨#[98]⟩,⟨#[120]⟩,⟨#[99]⟩,⟨#[100]⟩,⟨#[97]⟩]) (M:=1) (p:=clnB) hH2 hr (by decide) (by decide);have ql:=hH2.lt;have hE:=zi (And.intro hM2 (hW1.out.trans hW2));have hsM':=zi hsM;clear hH2 hM2 hW2 hW1 hH' hsM;go_wp2_with fail;go_ret;exact⟨⟨s,rfl,hsM'.out⟩,hE.out⟩
theorem mpvar_any (b:List UInt8) (B g k:Nat) (w:World) (h:Mk b B g k w) (hl:b.length≤100000) (hk:k≤900000) (kk:Nat) (hkk:kk<4):
  Calls Tryz.prog 150 #[.pointer (some ⟨g,0,none⟩),.int .i64 kk] w (MkOut b B g (k+1) 1 w):=by
 have cN:=zi (mnext_any b B g k w h hl (by omega) 2 (by decide) (by decide));have h':=zi h;clear h;by_cases h2:2≤kk
 ·have c1:(2:Int)≤((kk:Int)%4):=by omega
  go_enter Tryz.func150,Tryz.ntmps150;go_wp2_with fail;refine cN.out.mono ?_;clear cN;rintro e w2 ⟨⟨r,rfl,hr⟩,hM2,hW2⟩;have hE:=zi (And.intro hM2 hW2);clear hM2 hW2;by_cases hr0:r=0
  ·subst hr0;go_wp2_with fail;go_ret;exact⟨⟨_,rfl,by decide,by unfold Cln;decide⟩,hE.out⟩
  ·have hrb:((r:Int)==0)=false:=by simp;omega
   go_wp2_with fail;go_ret;exact⟨⟨_,rfl,by decide,by unfold Cln;decide⟩,hE.out⟩
 ·have c1:¬(2:Int)≤((kk:Int)%4):=by omega
  go_enter Tryz.func150,Tryz.ntmps150;go_wp2_with fail;go_ret;exact⟨⟨_,rfl,by decide,by unfold Cln;decide⟩,h'.out.more (by omega),Writes.refl _ _⟩
def cst (cs:List (Nat×Nat)) (L:Nat→Bool):Nat:=(cs.map fun p=>if L p.1=true then p.2 else 0).sum
theorem cst_le:∀(cs:List (Nat×Nat)) (L:Nat→Bool),cst cs L≤(cs.map Prod.snd).sum
 | [],_=>Nat.le_refl _
 |p::cs,L=>by have h:=cst_le cs L;unfold cst at h⊢;simp only[List.map_cons,List.sum_cons];split<;>omega
theorem cst_up (i:Nat):∀(cs:List (Nat×Nat)) (L:Nat→Bool),cst cs L≤cst cs fun k=>k==i||L k
 | [],_=>Nat.le_refl _
 |p::cs,L=>by
  have h:=cst_up i cs L;unfold cst at h⊢;simp only[List.map_cons,List.sum_cons]
  have h2:(if L p.1=true then p.2 else 0)≤(if (p.1==i||L p.1)=true then p.2 else 0):=by by_cases hp:L p.1=true<;>simp[hp]
  exact Nat.add_le_add h2 h
theorem bs_lit (l:Array UInt8):(⟨l⟩:ByteArray).size=l.size:=rfl
theorem cst_none {L:Nat→Bool}:∀{cs:List (Nat×Nat)},(cs.all fun p=> !L p.1)=true→cst cs L=0
 | [],_=>rfl
 |p::cs,h=>by simp only[List.all_cons,Bool.and_eq_true,Bool.not_eq_true']at h;have h2:=cst_none h.2;unfold cst at h2⊢;simp[h.1,h2]
def MkU (b:List UInt8) (B g K:Nat) (cs:List (Nat×Nat)) (w0:World) (L:Nat→Bool) (w:World):Prop:=Mk b B g (K+cst cs L) w∧Writes [some g] w0 w
section
variable {b:List UInt8} {B g K:Nat} {cs:List (Nat×Nat)} {w0 w w':World} {L:Nat→Bool}
theorem MkU.up (h:MkU b B g K cs w0 L w) (i:Nat):MkU b B g K cs w0 (fun k=>k==i||L k) w:=⟨h.1.more (by have:=cst_up i cs L;omega),h.2⟩
theorem MkU.below (h:MkU b B g K cs w0 L w) (hb:Below w.heap.size w w'):MkU b B g K cs w0 L w':=⟨h.1.below hb,h.2.trans (Writes.of_below hb _)⟩
theorem MkU.call {c:Nat} (h:MkU b B g K cs w0 L w) (i:Nat) (hc:cst cs L+c≤cst cs fun k=>k==i||L k) (hM:Mk b B g (K+cst cs L+c) w') (hW:Writes [some g] w w'):MkU b B g K cs w0 (fun k=>k==i||L k) w':=
 ⟨hM.more (by omega),h.2.trans hW⟩
theorem MkU.start {wd:World} (hb:Below w.heap.size w wd) (hM:Mk b B g K w) (hW:Writes [some g] w0 w) (h0:(cs.all fun p=> !L p.1)=true):MkU b B g K cs w0 L wd:=
 ⟨by rw[cst_none h0];exact hM.below hb,hW.trans (Writes.of_below hb _)⟩
end
theorem msum_any:∀(d:Nat),d≤2→∀(b:List UInt8) (B g k:Nat) (w0:World),Mk b B g k w0→b.length≤100000→k≤880000+50*(2-d)→
  Calls Tryz.prog 149 #[.pointer (some ⟨g,0,none⟩),.int .i64 d] w0 (MkOut b B g (k+(3*d+2)) (19+6*d) w0)
 |0,_,b,B,g,k,w0,h,hl,hk=>by
  have hM0:=zi h;have hW0:=zi (Writes.refl [some g] w0);clear h;go_enter Tryz.func149,Tryz.ntmps149;go_wp2_with fail;refine(mnext_any b B g _ w0 hM0.out hl (by omega) 12 (by decide) (by decide)).mono ?_;rintro e w1 ⟨⟨r1,rfl,hr1⟩,hM1,hW1⟩;replace hW1:=zi (hW0.out.trans hW1);replace hM1:=zi hM1;by_cases h3:r1<3
  ·have c3:(r1:Int)<3:=by omega
   go_wp2_with fail;refine(mnum_any b B g _ w1 hM1.out hl (by omega)).mono ?_;rintro e w2 ⟨⟨s2,rfl,hs2,hq2⟩,hM2,hW2⟩;replace hW2:=zi (hW1.out.trans hW2);replace hM2:=zi hM2;go_wp2_with fail;go_ret;exact⟨⟨_,rfl,by first|omega| (simp only[ByteArray.size_append,bs_lit,List.size_toArray,List.length_cons,List.length_nil];omega),by repeat' first|assumption|with_reducible refine Cln.app ?_ ?_|exact clnLit (by decide)⟩,hM2.out.more (by omega),hW2.out⟩
  have c3:¬(r1:Int)<3:=by omega
  by_cases h7:r1<7
  ·have c7:(r1:Int)<7:=by omega
   go_wp2_with fail;refine(mnum_any b B g _ w1 hM1.out hl (by omega)).mono ?_;rintro e w2 ⟨⟨s2,rfl,hs2,hq2⟩,hM2,hW2⟩;replace hW2:=zi (hW1.out.trans hW2);replace hM2:=zi hM2;go_wp2_with fail;go_ret;exact⟨⟨_,rfl,by first|omega| (simp only[ByteArray.size_append,bs_lit,List.size_toArray,List.length_cons,List.length_nil];omega),by repeat' first|assumption|with_reducible refine Cln.app ?_ ?_|exact clnLit (by decide)⟩,hM2.out.more (by omega),hW2.out⟩
  have c7:¬(r1:Int)<7:=by omega
  have c6:¬(r1:Int)<6:=by omega
  go_wp2_with fail;refine(mivar_any b B g _ w1 hM1.out hl (by omega)).mono ?_;rintro e w2 ⟨⟨s2,rfl,hs2,hq2⟩,hM2,hW2⟩;replace hW2:=zi (hW1.out.trans hW2);replace hM2:=zi hM2;go_wp2_with fail;go_ret;exact⟨⟨_,rfl,by first|omega| (simp only[ByteArray.size_append,bs_lit,List.size_toArray,List.length_cons,List.length_nil];omega),by repeat' first|assumption|with_reducible refine Cln.app ?_ ?_|exact clnLit (by decide)⟩,hM2.out.more (by omega),hW2.out⟩
 |d+1,hd,b,B,g,k,w0,h,hl,hk=>by
  have ih:=fun b B g k w h hl hk=>msum_any d (by omega) b B g k w h hl hk;have hM0:=zi h;have hW0:=zi (Writes.refl [some g] w0);clear h;go_enter Tryz.func149,Tryz.ntmps149;go_wp2_with fail;refine(mnext_any b B g _ w0 hM0.out hl (by omega) 12 (by decide) (by decide)).mono ?_;rintro e w1 ⟨⟨r1,rfl,hr1⟩,hM1,hW1⟩;replace hW1:=zi (hW0.out.trans hW1);replace hM1:=zi hM1
  have cd:¬((d:Int)+1≤0):=by omega
  by_cases h3:r1<3
  ·have c3:(r1:Int)<3:=by omega
   go_wp2_with fail;refine(mnum_any b B g _ w1 hM1.out hl (by omega)).mono ?_;rintro e w2 ⟨⟨s2,rfl,hs2,hq2⟩,hM2,hW2⟩;replace hW2:=zi (hW1.out.trans hW2);replace hM2:=zi hM2;go_wp2_with fail;go_ret;exact⟨⟨_,rfl,by first|omega| (simp only[ByteArray.size_append,bs_lit,List.size_toArray,List.length_cons,List.length_nil];omega),by repeat' first|assumption|with_reducible refine Cln.app ?_ ?_|exact clnLit (by decide)⟩,hM2.out.more (by omega),hW2.out⟩
  have c3:¬(r1:Int)<3:=by omega
  by_cases h6:r1<6
  ·have c6:(r1:Int)<6:=by omega
   go_wp2_with fail;refine(mivar_any b B g _ w1 hM1.out hl (by omega)).mono ?_;rintro e w2 ⟨⟨s2,rfl,hs2,hq2⟩,hM2,hW2⟩;replace hW2:=zi (hW1.out.trans hW2);replace hM2:=zi hM2;go_wp2_with fail;go_ret;exact⟨⟨_,rfl,by first|omega| (simp only[ByteArray.size_append,bs_lit,List.size_toArray,List.length_cons,List.length_nil];omega),by repeat' first|assumption|with_reducible refine Cln.app ?_ ?_|exact clnLit (by decide)⟩,hM2.out.more (by omega),hW2.out⟩
  have c6:¬(r1:Int)<6:=by omega
  by_cases h66:r1=6
  ·subst h66;go_wp2_with fail;refine(mivar_any b B g _ w1 hM1.out hl (by omega)).mono ?_;rintro e w2 ⟨⟨s2,rfl,hs2,hq2⟩,hM2,hW2⟩;replace hW2:=zi (hW1.out.trans hW2);replace hM2:=zi hM2;go_wp2_with fail;go_ret;exact⟨⟨_,rfl,by first|omega| (simp only[ByteArray.size_append,bs_lit,List.size_toArray,List.length_cons,List.length_nil];omega),by repeat' first|assumption|with_reducible refine Cln.app ?_ ?_|exact clnLit (by decide)⟩,hM2.out.more (by omega),hW2.out⟩
  have c66:((r1:Int)==6)=false:=by simp;omega
  by_cases h11:r1=11
  ·subst h11;go_wp2_with fail;refine(ih b B g _ w1 hM1.out hl (by omega)).mono ?_;rintro e w2 ⟨⟨s2,rfl,hs2,hq2⟩,hM2,hW2⟩;replace hW2:=zi (hW1.out.trans hW2);replace hM2:=zi hM2;go_wp2_with fail;refine(mivar_any b B g _ w2 hM2.out hl (by omega)).mono ?_;rintro e w3 ⟨⟨s3,rfl,hs3,hq3⟩,hM3,hW3⟩;replace hW3:=zi (hW2.out.trans hW3);replace hM3:=zi hM3;go_wp2_with fail;go_ret;exact⟨⟨_,rfl,by first|omega| (simp only[ByteArray.size_append,bs_lit,List.size_toArray,List.length_cons,List.length_nil];omega),by repeat' first|assumption|with_reducible refine Cln.app ?_ ?_|exact clnLit (by decide)⟩,hM3.out.more (by omega),hW3.out⟩
  have c11:((r1:Int)==11)=false:=by simp;omega
  obtain⟨K,hK⟩:∃K,K=k+1:=⟨_,rfl⟩;have hMr:=zi (hM1.out.more (Nat.le_of_eq hK.symm));have hWr:=hW1;clear hM1 hW1;go_upto_region 2 with(fail)
  refine wp_region_tabL ((eqv (.pointer (some ⟨g,0,none⟩)))::(eqv (.int .i64 (d+1:Nat)))::(eqv (.int .i64 d))::(fun L w v=>∃s:ByteArray,v= .string s∧s.size≤19+6*d∧Cln s)::(fun L w v=>∃s:ByteArray,v= .string s∧s.size≤19+6*d+1∧Cln s)::(fun L w v=>∃q,v= .slice (some ⟨q,0,none⟩) 5 5∧Holds w q 9 #[.string ⟨#[43]⟩,.string ⟨#[45]⟩,.string ⟨#[42]⟩,.string ⟨#[47]⟩,.string ⟨#[37]⟩]∧q≠g)::(eqv (.pointer (some ⟨g,0,none⟩)))::(fun L w v=>∃r:Nat,v= .int .i64 r∧r<5)::(fun L w v=>∃q r,v= .pointer (some ⟨q,r,none⟩)∧Holds w q 9 #[.string ⟨#[43]⟩,.string ⟨#[45]⟩,.string ⟨#[42]⟩,.string ⟨#[47]⟩,.string ⟨#[37]⟩]∧r<5∧q≠g)::(fun L w v=>∃s:ByteArray,v= .string s∧s.size≤1∧Cln s)::(fun L w v=>∃s:ByteArray,v= .string s∧s.size≤19+6*d+1+1∧Cln s)::(fun L w v=>∃s:ByteArray,v= .string s∧s.size≤19+6*d+1+1+1∧Cln s)::(eqv (.pointer (some ⟨g,0,none⟩)))::(fun L w v=>∃s:ByteArray,v= .string s∧s.size≤1∧Cln s)::(fun L w v=>∃s:ByteArray,v= .string s∧s.size≤19+6*d+1+1+1+1∧Cln s)::(fun L w v=>∃s:ByteArray,v= .string s∧s.size≤19+6*d+1+1+1+1∧Cln s)::[])
   ((rn1 0)::(rn1 1)::(rd1 9 1)::⟨[(8,some 0),(10,some 2)],0,[]⟩::(rd1 11 3)::⟨[],0,[]⟩::(rn1 0)::(rd1 14 6)::⟨[(13,some 5),(15,some 7)],0,[]⟩::(rd1 16 8)::⟨[(12,some 4),(17,some 9)],0,[]⟩::(rd1 18 10)::(rn1 0)::(rd1 20 12)::⟨[(19,some 11),(21,some 13)],0,[]⟩::(rd1 22 14)::[])
   (no::no::no::no::so 15::no::no::no::so 0::so 1::so 2::so 3::so 4::so 5::so 6::so 7::so 8::so 9::so 10::so 11::so 12::so 13::so 14::[])
   (fun L w'=>MkU b B g K [(3,3*d+2),(7,1),(13,1)] w0 L w') (fun _ w w'=>Writes [some g] w w') ?mixK2sum ?okK2sum ?tabK2sum ?frK2sum ?inK2sum ?keptK2sum ?startK2sum ?eachK2sum ?finK2sum
  case mixK2sum|okK2sum|tabK2sum|frK2sum=>kernel_rfl
  case inK2sum=>rfl
  case keptK2sum=>exact⟨fun _ _ _ _ _ _ _ _ _ _ _ h=>h,fun _ _ _ _ _ _ _ _ _ _ _ h=>h,fun _ _ _ _ _ _ _ _ _ _ _ h=>h,fun _ _ _ _ _ _ _ _ _ _ _ h=>h,fun _ _ _ _ _ _ _ _ _ _ _ h=>h,fun i hne hr L w w' v hLi hC hC' hG ⟨q,e,hH,hq⟩=>⟨q,e,hG.holds hH (by simpa using hq),hq⟩,fun _ _ _ _ _ _ _ _ _ _ _ h=>h,fun _ _ _ _ _ _ _ _ _ _ _ h=>h,fun i hne hr L w w' v hLi hC hC' hG ⟨q,r,e,hH,hr,hq⟩=>⟨q,r,e,hG.holds hH (by simpa using hq),hr,hq⟩,fun _ _ _ _ _ _ _ _ _ _ _ h=>h,fun _ _ _ _ _ _ _ _ _ _ _ h=>h,fun _ _ _ _ _ _ _ _ _ _ _ h=>h,fun _ _ _ _ _ _ _ _ _ _ _ h=>h,fun _ _ _ _ _ _ _ _ _ _ _ h=>h,fun _ _ _ _ _ _ _ _ _ _ _ h=>h,fun _ _ _ _ _ _ _ _ _ _ _ h=>h,trivial⟩
  case startK2sum=>exact MkU.start (Below.refl _ _).drew hMr.out hWr.out rfl
  case eachK2sum=>
   repeat' first|exact trivial|refine And.intro ?_ ?_
   ·intro w L f hC hLi hLd hLn ⟨d,_⟩;refine Step2.live rfl ?_;exact relUpon_value (v:=f 0) rfl (hC.up 0) (Writes.refl _ _) d
   ·intro w L f hC hLi hLd hLn ⟨d,_⟩;refine Step2.live rfl ?_;exact relUpon_value (v:=f 1) rfl (hC.up 1) (Writes.refl _ _) d
   ·intro w L f hC hLi hLd hLn ⟨a,_⟩;change _=_ at a;refine Step2.live rfl ?_;obtain⟨ev,ec,ef⟩:=evs f;refine relUpon_value ?_ (hC.up 2) (Writes.refl _ _) rfl;go_simp;exact IntWalk.i64_in _ (by omega)
   ·intro w L f hC hLi hLd hLn ⟨a,p,_⟩;change _=_ at a p;refine Step2.live rfl ?_;obtain⟨ev,ec,ef⟩:=evs f;refine relUpon_call (f:=149) (args:= #[.pointer (some ⟨g,0,none⟩),.int .i64 d]) (w:=w) (by go_simp) (ih b B g _ w hC.1 hl (by have:=cst_le [(3,3*d+2),(7,1),(13,1)] L;simp at this;omega)) ?_;rintro e w1 ⟨⟨s,he,hs,hq⟩,hM,hW⟩;exact⟨_,he,hC.call 3 (by simp[cst,hLi];omega) hM hW,hW,⟨s,rfl,hs,hq⟩⟩
   ·intro w L f hC hLi hLd hLn ⟨d11,_⟩;refine Step2.live rfl ?_;obtain⟨s0,e0,h0,k0⟩:=d11;obtain⟨ev,ec,ef⟩:=evs f;refine relUpon_value (v:= .string (s0++(⟨#[32]⟩:ByteArray))) ?_ (hC.up 4) (Writes.refl _ _) ⟨_,rfl,by simp only[ByteArray.size_append];exact Nat.add_le_add h0 (by decide),Cln.app k0 (clnLit (by decide))⟩;go_simp;omega
   ·intro w L f hC hLi hLd hLn hF;refine Step2.live rfl ?_;have hbn:=below_new w (.cells #[.string ⟨#[43]⟩,.string ⟨#[45]⟩,.string ⟨#[42]⟩,.string ⟨#[47]⟩,.string ⟨#[37]⟩] 9);have hlt:=hC.1.lt;obtain⟨ev,ec,ef⟩:=evs f;refine relUpon_value (w':=w.alloc (.cells #[.string ⟨#[43]⟩,.string ⟨#[45]⟩,.string ⟨#[42]⟩,.string ⟨#[47]⟩,.string ⟨#[37]⟩] 9)) (v:= .slice (some ⟨w.heap.size,0,none⟩) 5 5) (by go_simp) ((hC.up 5).below hbn) (Writes.of_below hbn _) ⟨w.heap.size,rfl,Holds.new w _ _,by omega⟩
   ·intro w L f hC hLi hLd hLn ⟨d,_⟩;refine Step2.live rfl ?_;exact relUpon_value (v:=f 0) rfl (hC.up 6) (Writes.refl _ _) d
   ·intro w L f hC hLi hLd hLn ⟨a,_⟩;change _=_ at a;refine Step2.live rfl ?_;obtain⟨ev,ec,ef⟩:=evs f;refine relUpon_call (f:=97) (args:= #[.pointer (some ⟨g,0,none⟩),.int .i64 5]) (w:=w) (by go_simp) (mnext_any b B g _ w hC.1 hl (by have:=cst_le [(3,3*d+2),(7,1),(13,1)] L;simp at this;omega) 5 (by decide) (by decide)) ?_;rintro e w1 ⟨⟨r,he,hr⟩,hM,hW⟩;exact⟨_,he,hC.call 7 (by simp[cst,hLi];omega) hM hW,hW,⟨r,rfl,hr⟩⟩
   ·intro w L f hC hLi hLd hLn ⟨d13,d15,_⟩;refine Step2.live rfl ?_;obtain⟨q,ea,hH,hq⟩:=d13;obtain⟨r,ei,hr⟩:=d15;obtain⟨ev,ec,ef⟩:=evs f;refine relUpon_value (v:= .pointer (some ⟨q,r,none⟩)) ?_ (hC.up 8) (Writes.refl _ _) ⟨q,r,rfl,hH,hr,hq⟩;go_simp;intro hx;omega
   ·intro w L f hC hLi hLd hLn ⟨d16,_⟩;refine Step2.live rfl ?_;obtain⟨q,r,ea,hH,hr,hq⟩:=d16;obtain⟨s,hs,hsM,hqq⟩:=pick_at (l:= [⟨#[43]⟩,⟨#[45]⟩,⟨#[42]⟩,⟨#[47]⟩,⟨#[37]⟩]) (M:=1) (p:=clnB) hH hr (by decide) (by decide);have ql:=hH.lt;obtain⟨ev,ec,ef⟩:=evs f;refine relUpon_value (v:= .string s) ?_ (hC.up 9) (Writes.refl _ _) ⟨s,rfl,hsM,hqq⟩;go_simp
   ·intro w L f hC hLi hLd hLn ⟨d12,d17,_⟩;refine Step2.live rfl ?_;obtain⟨s0,e0,h0,k0⟩:=d12;obtain⟨s1,e1,h1,k1⟩:=d17;obtain⟨ev,ec,ef⟩:=evs f;refine relUpon_value (v:= .string (s0++s1)) ?_ (hC.up 10) (Writes.refl _ _) ⟨_,rfl,by simp only[ByteArray.size_append];exact Nat.add_le_add h0 h1,Cln.app k0 k1⟩;go_simp;omega
   ·intro w L f hC hLi hLd hLn ⟨d18,_⟩;refine Step2.live rfl ?_;obtain⟨s0,e0,h0,k0⟩:=d18;obtain⟨ev,ec,ef⟩:=evs f;refine relUpon_value (v:= .string (s0++(⟨#[32]⟩:ByteArray))) ?_ (hC.up 11) (Writes.refl _ _) ⟨_,rfl,by simp only[ByteArray.size_append];exact Nat.add_le_add h0 (by decide),Cln.app k0 (clnLit (by decide))⟩;go_simp;omega
   ·intro w L f hC hLi hLd hLn ⟨d,_⟩;refine Step2.live rfl ?_;exact relUpon_value (v:=f 0) rfl (hC.up 12) (Writes.refl _ _) d
   ·intro w L f hC hLi hLd hLn ⟨a,_⟩;change _=_ at a;refine Step2.live rfl ?_;obtain⟨ev,ec,ef⟩:=evs f;refine relUpon_call (f:=99) (args:= #[.pointer (some ⟨g,0,none⟩)]) (w:=w) (by go_simp) (mivar_any b B g _ w hC.1 hl (by have:=cst_le [(3,3*d+2),(7,1),(13,1)] L;simp at this;omega)) ?_;rintro e w1 ⟨⟨s,he,hs,hq⟩,hM,hW⟩;exact⟨_,he,hC.call 13 (by simp[cst,hLi];omega) hM hW,hW,⟨s,rfl,hs,hq⟩⟩
   ·intro w L f hC hLi hLd hLn ⟨d19,d21,_⟩;refine Step2.live rfl ?_;obtain⟨s0,e0,h0,k0⟩:=d19;obtain⟨s1,e1,h1,k1⟩:=d21;obtain⟨ev,ec,ef⟩:=evs f;refine relUpon_value (v:= .string (s0++s1)) ?_ (hC.up 14) (Writes.refl _ _) ⟨_,rfl,by simp only[ByteArray.size_append];exact Nat.add_le_add h0 h1,Cln.app k0 k1⟩;go_simp;omega
   ·intro w L f hC hLi hLd hLn ⟨d,_⟩;refine Step2.live rfl ?_;exact relUpon_value (v:=f 22) rfl (hC.up 15) (Writes.refl _ _) d
  intro x w' hC hV
  obtain⟨s,hs,hsM,hq⟩:=hV 15 _ rfl rfl;simp only[framed,hs];go_wp2_with fail;go_ret;exact⟨⟨s,rfl,by omega,hq⟩,hC.1.more (by have:=cst_le [(3,3*d+2),(7,1),(13,1)] fun _=>true;simp at this;omega),hC.2⟩
def CdOk (d:Nat):Prop:=∀(b:List UInt8) (B g k:Nat) (w0:World),Mk b B g k w0→b.length≤100000→k+50*d≤860000→∀kk:Nat,kk<4→Calls Tryz.prog 152 #[.pointer (some ⟨g,0,none⟩),.int .i64 kk,.int .i64 (d:Nat)] w0 (MkOut b B g (k+(21+22*d)) (66+74*d) w0)
theorem mcond_step (d:Nat) (hd:d≤1) (ih:d=1→CdOk 0):CdOk d:=by
 intro b B g k w0 h hl hk kk hkk;have hM0:=zi h;have hW0:=zi (Writes.refl [some g] w0);clear h;go_enter Tryz.func152,Tryz.ntmps152;go_wp2_with fail;refine(mnext_any b B g _ w0 hM0.out hl (by omega) 10 (by decide) (by decide)).mono ?_;rintro e w1 ⟨⟨r1,rfl,hr1⟩,hM1,hW1⟩;replace hW1:=zi (hW0.out.trans hW1);replace hM1:=zi hM1;by_cases hc:d=1∧r1≤2
 ·obtain⟨rfl,hr2⟩:=hc;have ih':=ih rfl;by_cases q0:r1=0
  ·subst q0;go_wp2_with fail;refine(ih' b B g _ w1 hM1.out hl (by omega) kk hkk).mono ?_;rintro e w2 ⟨⟨s2,rfl,hs2,hq2⟩,hM2,hW2⟩;replace hW2:=zi (hW1.out.trans hW2);replace hM2:=zi hM2;go_wp2_with fail;go_ret;exact⟨⟨_,rfl,by first|omega| (simp only[ByteArray.size_append,bs_lit,List.size_toArray,List.length_cons,List.length_nil];omega),by repeat' first|assumption|with_reducible refine Cln.app ?_ ?_|exact clnLit (by decide)⟩,hM2.out.more (by omega),hW2.out⟩
  have c0:((r1:Int)==0)=false:=by simp;omega
  by_cases q1:r1=1
  ·subst q1;go_wp2_with fail;refine(ih' b B g _ w1 hM1.out hl (by omega) kk hkk).mono ?_;rintro e w2 ⟨⟨s2,rfl,hs2,hq2⟩,hM2,hW2⟩;replace hW2:=zi (hW1.out.trans hW2);replace hM2:=zi hM2;go_wp2_with fail;refine(ih' b B g _ w2 hM2.out hl (by omega) kk hkk).mono ?_;rintro e w3 ⟨⟨s3,rfl,hs3,hq3⟩,hM3,hW3⟩;replace hW3:=zi (hW2.out.trans hW3);replace hM3:=zi hM3;go_wp2_with fail;go_ret;exact⟨⟨_,rfl,by first|omega| (simp only[ByteArray.size_append,bs_lit,List.size_toArray,List.length_cons,List.length_nil];omega),by repeat' first|assumption|with_reducible refine Cln.app ?_ ?_|exact clnLit (by decide)⟩,hM3.out.more (by omega),hW3.out⟩
  have c1:((r1:Int)==1)=false:=by simp;omega
  by_cases q2:r1=2
  ·subst q2;go_wp2_with fail;refine(ih' b B g _ w1 hM1.out hl (by omega) kk hkk).mono ?_;rintro e w2 ⟨⟨s2,rfl,hs2,hq2⟩,hM2,hW2⟩;replace hW2:=zi (hW1.out.trans hW2);replace hM2:=zi hM2;go_wp2_with fail;refine(ih' b B g _ w2 hM2.out hl (by omega) kk hkk).mono ?_;rintro e w3 ⟨⟨s3,rfl,hs3,hq3⟩,hM3,hW3⟩;replace hW3:=zi (hW2.out.trans hW3);replace hM3:=zi hM3;go_wp2_with fail;go_ret;exact⟨⟨_,rfl,by first|omega| (simp only[ByteArray.size_append,bs_lit,List.size_toArray,List.length_cons,List.length_nil];omega),by repeat' first|assumption|with_reducible refine Cln.app ?_ ?_|exact clnLit (by decide)⟩,hM3.out.more (by omega),hW3.out⟩
  exact absurd hr2 (by omega)
 have hd0:d=0∨3≤r1:=by omega
 clear hc ih;go_upto_region 2 with(fail);go_cut [10] (fun v wc=>v= .bool false∧wc=w1)
 case' first=>
  by_cases q:r1=0
  ·obtain rfl:d=0:=by omega
   subst q;go_wp2_with fail
   go_meet
   case rel=>exact⟨rfl,rfl⟩
  ·have c:((r1:Int)==0)=false:=by simp;omega
   go_wp2_with fail
   go_meet
   case rel=>exact⟨rfl,rfl⟩
 obtain⟨rfl,rfl⟩:=hcut;rename World=>w1;go_upto_region 4 with(fail);go_cut [24] (fun v wc=>v= .bool false∧wc=w1)
 case' first=>
  by_cases q:r1=1
  ·obtain rfl:d=0:=by omega
   subst q;go_wp2_with fail
   go_meet
   case rel=>exact⟨rfl,rfl⟩
  ·have c:((r1:Int)==1)=false:=by simp;omega
   go_wp2_with fail
   go_meet
   case rel=>exact⟨rfl,rfl⟩
 obtain⟨rfl,rfl⟩:=hcut;rename World=>w1;go_upto_region 6 with(fail);go_cut [41] (fun v wc=>v= .bool false∧wc=w1)
 case' first=>
  by_cases q:r1=2
  ·obtain rfl:d=0:=by omega
   subst q;go_wp2_with fail
   go_meet
   case rel=>exact⟨rfl,rfl⟩
  ·have c:((r1:Int)==2)=false:=by simp;omega
   go_wp2_with fail
   go_meet
   case rel=>exact⟨rfl,rfl⟩
 obtain⟨rfl,rfl⟩:=hcut;rename World=>w1;by_cases q3:r1=3
 ·subst q3;go_wp2_with fail;refine(mpvar_any b B g _ w1 hM1.out hl (by omega) kk hkk).mono ?_;rintro e w2 ⟨⟨s2,rfl,hs2,hq2⟩,hM2,hW2⟩;replace hW2:=zi (hW1.out.trans hW2);replace hM2:=zi hM2;have hbn:=below_new w2 (.cells #[.string ⟨#[32,61,61,32,110,117,108,108]⟩,.string ⟨#[32,33,61,32,110,117,108,108]⟩] 9);have hH:=Holds.new w2 9 #[.string ⟨#[32,61,61,32,110,117,108,108]⟩,.string ⟨#[32,33,61,32,110,117,108,108]⟩];obtain⟨wa,hwa⟩:∃z,z=w2.alloc (.cells #[.string ⟨#[32,61,61,32,110,117,108,108]⟩,.string ⟨#[32,33,61,32,110,117,108,108]⟩] 9):=⟨_,rfl⟩;obtain⟨ga,hga⟩:∃z,z=w2.heap.size:=⟨_,rfl⟩;rw[←hwa]at hbn hH;rw[←hga]at hH
  have hne:ga≠g:=by have:=hM2.out.lt;omega
  have hMa:=zi (hM2.out.below hbn);have hWa:=zi (hW2.out.trans (Writes.of_below hbn _));have hfo:=zi hwa.symm;have hgo:=zi hga.symm;have hHa:=zi hH;clear hbn hH hwa hga;go_wp2_with fail;rw[hfo.out,hgo.out];clear hfo hgo;refine(mnext_any b B g _ wa hMa.out hl (by omega) 2 (by decide) (by decide)).mono ?_;rintro e wb ⟨⟨rb,rfl,hrb⟩,hMb,hWb⟩;have hHb:=hWb.holds hHa.out (by simpa using hne);obtain⟨sb,hsb,hsM,hqb⟩:=pick_at (l:= [⟨#[32,61,61,32,110,117,108,108]⟩,⟨#[32,33,61,32,110,117,108,108]⟩]) (M:=8) (p:=clnB) hHb hrb (by decide) (by decide);replace hqb:Cln sb:=hqb;have ql:=hHb.lt;have hE:=zi (And.intro hMb (hWa.out.trans hWb));clear hHb hMb hWb hWa hHa;go_wp2_with fail;go_ret;exact⟨⟨_,rfl,by simp only[ByteArray.size_append];omega,by repeat' first|assumption|with_reducible refine Cln.app ?_ ?_|exact clnLit (by decide)⟩,hE.out.1.more (by omega),hE.out.2⟩
 have c3:((r1:Int)==3)=false:=by simp;omega
 obtain⟨K,hK⟩:∃K,K=k+1:=⟨_,rfl⟩;have hMr:=zi (hM1.out.more (Nat.le_of_eq hK.symm));have hWr:=hW1;clear hM1 hW1;go_upto_region 10 with(fail)
 refine wp_region_tabL ((eqv (.pointer (some ⟨g,0,none⟩)))::(fun L w v=>∃s:ByteArray,v= .string s∧s.size≤1∧Cln s)::(fun L w v=>∃s:ByteArray,v= .string s∧s.size≤1+1∧Cln s)::(fun L w v=>∃q,v= .slice (some ⟨q,0,none⟩) 6 6∧Holds w q 9 #[.string ⟨#[60]⟩,.string ⟨#[60,61]⟩,.string ⟨#[62]⟩,.string ⟨#[62,61]⟩,.string ⟨#[61,61]⟩,.string ⟨#[33,61]⟩]∧q≠g)::(eqv (.pointer (some ⟨g,0,none⟩)))::(fun L w v=>∃r:Nat,v= .int .i64 r∧r<6)::(fun L w v=>∃q r,v= .pointer (some ⟨q,r,none⟩)∧Holds w q 9 #[.string ⟨#[60]⟩,.string ⟨#[60,61]⟩,.string ⟨#[62]⟩,.string ⟨#[62,61]⟩,.string ⟨#[61,61]⟩,.string ⟨#[33,61]⟩]∧r<6∧q≠g)::(fun L w v=>∃s:ByteArray,v= .string s∧s.size≤2∧Cln s)::(fun L w v=>∃s:ByteArray,v= .string s∧s.size≤1+1+2∧Cln s)::(fun L w v=>∃s:ByteArray,v= .string s∧s.size≤1+1+2+1∧Cln s)::(eqv (.pointer (some ⟨g,0,none⟩)))::(fun L w v=>∃s:ByteArray,v= .string s∧s.size≤25∧Cln s)::(fun L w v=>∃s:ByteArray,v= .string s∧s.size≤1+1+2+1+25∧Cln s)::(fun L w v=>∃s:ByteArray,v= .string s∧s.size≤1+1+2+1+25∧Cln s)::[])
  ((rn1 0)::(rd1 71 0)::(rd1 72 1)::⟨[],0,[]⟩::(rn1 0)::(rd1 75 4)::⟨[(74,some 3),(76,some 5)],0,[]⟩::(rd1 77 6)::⟨[(73,some 2),(78,some 7)],0,[]⟩::(rd1 79 8)::(rn1 0)::(rd1 81 10)::⟨[(80,some 9),(82,some 11)],0,[]⟩::(rd1 83 12)::[])
  (no::no::no::no::no::no::so 13::no::no::no::no::no::no::no::no::no::no::no::no::no::no::no::no::no::no::no::no::no::no::no::no::no::no::no::no::no::no::no::no::no::no::no::no::no::no::no::no::no::no::no::no::no::no::no::no::no::no::no::no::no::no::no::no::no::no::no::no::no::no::no::no::so 0::so 1::so 2::so 3::so 4::so 5::so 6::so 7::so 8::so 9::so 10::so 11::so 12::[])
  (fun L w'=>MkU b B g K [(1,1),(5,1),(11,5)] w0 L w') (fun _ w w'=>Writes [some g] w w') ?mixK10cond ?okK10cond ?tabK10cond ?frK10cond ?inK10cond ?keptK10cond ?startK10cond ?eachK10cond ?finK10cond
 case mixK10cond|okK10cond|tabK10cond|frK10cond=>kernel_rfl
 case inK10cond=>rfl
 case keptK10cond=>exact⟨fun _ _ _ _ _ _ _ _ _ _ _ h=>h,fun _ _ _ _ _ _ _ _ _ _ _ h=>h,fun _ _ _ _ _ _ _ _ _ _ _ h=>h,fun i hne hr L w w' v hLi hC hC' hG ⟨q,e,hH,hq⟩=>⟨q,e,hG.holds hH (by simpa using hq),hq⟩,fun _ _ _ _ _ _ _ _ _ _ _ h=>h,fun _ _ _ _ _ _ _ _ _ _ _ h=>h,fun i hne hr L w w' v hLi hC hC' hG ⟨q,r,e,hH,hr,hq⟩=>⟨q,r,e,hG.holds hH (by simpa using hq),hr,hq⟩,fun _ _ _ _ _ _ _ _ _ _ _ h=>h,fun _ _ _ _ _ _ _ _ _ _ _ h=>h,fun _ _ _ _ _ _ _ _ _ _ _ h=>h,fun _ _ _ _ _ _ _ _ _ _ _ h=>h,fun _ _ _ _ _ _ _ _ _ _ _ h=>h,fun _ _ _ _ _ _ _ _ _ _ _ h=>h,fun _ _ _ _ _ _ _ _ _ _ _ h=>h,trivial⟩
 case startK10cond=>exact MkU.start (Below.refl _ _).drew hMr.out hWr.out rfl
 case eachK10cond=>
  repeat' first|exact trivial|refine And.intro ?_ ?_
  ·intro w L f hC hLi hLd hLn ⟨d,_⟩;refine Step2.live rfl ?_;exact relUpon_value (v:=f 0) rfl (hC.up 0) (Writes.refl _ _) d
  ·intro w L f hC hLi hLd hLn ⟨a,_⟩;change _=_ at a;refine Step2.live rfl ?_;obtain⟨ev,ec,ef⟩:=evs f;refine relUpon_call (f:=99) (args:= #[.pointer (some ⟨g,0,none⟩)]) (w:=w) (by go_simp) (mivar_any b B g _ w hC.1 hl (by have:=cst_le [(1,1),(5,1),(11,5)] L;simp at this;omega)) ?_;rintro e w1 ⟨⟨s,he,hs,hq⟩,hM,hW⟩;exact⟨_,he,hC.call 1 (by simp[cst,hLi];omega) hM hW,hW,⟨s,rfl,hs,hq⟩⟩
  ·intro w L f hC hLi hLd hLn ⟨d72,_⟩;refine Step2.live rfl ?_;obtain⟨s0,e0,h0,k0⟩:=d72;obtain⟨ev,ec,ef⟩:=evs f;refine relUpon_value (v:= .string (s0++(⟨#[32]⟩:ByteArray))) ?_ (hC.up 2) (Writes.refl _ _) ⟨_,rfl,by simp only[ByteArray.size_append];exact Nat.add_le_add h0 (by decide),Cln.app k0 (clnLit (by decide))⟩;go_simp;omega
  ·intro w L f hC hLi hLd hLn hF;refine Step2.live rfl ?_;have hbn:=below_new w (.cells #[.string ⟨#[60]⟩,.string ⟨#[60,61]⟩,.string ⟨#[62]⟩,.string ⟨#[62,61]⟩,.string ⟨#[61,61]⟩,.string ⟨#[33,61]⟩] 9);have hlt:=hC.1.lt;obtain⟨ev,ec,ef⟩:=evs f;refine relUpon_value (w':=w.alloc (.cells #[.string ⟨#[60]⟩,.string ⟨#[60,61]⟩,.string ⟨#[62]⟩,.string ⟨#[62,61]⟩,.string ⟨#[61,61]⟩,.string ⟨#[33,61]⟩] 9)) (v:= .slice (some ⟨w.heap.size,0,none⟩) 6 6) (by go_simp) ((hC.up 3).below hbn) (Writes.of_below hbn _) ⟨w.heap.size,rfl,Holds.new w _ _,by omega⟩
  ·intro w L f hC hLi hLd hLn ⟨d,_⟩;refine Step2.live rfl ?_;exact relUpon_value (v:=f 0) rfl (hC.up 4) (Writes.refl _ _) d
  ·intro w L f hC hLi hLd hLn ⟨a,_⟩;change _=_ at a;refine Step2.live rfl ?_;obtain⟨ev,ec,ef⟩:=evs f;refine relUpon_call (f:=97) (args:= #[.pointer (some ⟨g,0,none⟩),.int .i64 6]) (w:=w) (by go_simp) (mnext_any b B g _ w hC.1 hl (by have:=cst_le [(1,1),(5,1),(11,5)] L;simp at this;omega) 6 (by decide) (by decide)) ?_;rintro e w1 ⟨⟨r,he,hr⟩,hM,hW⟩;exact⟨_,he,hC.call 5 (by simp[cst,hLi];omega) hM hW,hW,⟨r,rfl,hr⟩⟩
  ·intro w L f hC hLi hLd hLn ⟨d74,d76,_⟩;refine Step2.live rfl ?_;obtain⟨q,ea,hH,hq⟩:=d74;obtain⟨r,ei,hr⟩:=d76;obtain⟨ev,ec,ef⟩:=evs f;refine relUpon_value (v:= .pointer (some ⟨q,r,none⟩)) ?_ (hC.up 6) (Writes.refl _ _) ⟨q,r,rfl,hH,hr,hq⟩;go_simp;intro hx;omega
  ·intro w L f hC hLi hLd hLn ⟨d77,_⟩;refine Step2.live rfl ?_;obtain⟨q,r,ea,hH,hr,hq⟩:=d77;obtain⟨s,hs,hsM,hqq⟩:=pick_at (l:= [⟨#[60]⟩,⟨#[60,61]⟩,⟨#[62]⟩,⟨#[62,61]⟩,⟨#[61,61]⟩,⟨#[33,61]⟩]) (M:=2) (p:=clnB) hH hr (by decide) (by decide);have ql:=hH.lt;obtain⟨ev,ec,ef⟩:=evs f;refine relUpon_value (v:= .string s) ?_ (hC.up 7) (Writes.refl _ _) ⟨s,rfl,hsM,hqq⟩;go_simp
  ·intro w L f hC hLi hLd hLn ⟨d73,d78,_⟩;refine Step2.live rfl ?_;obtain⟨s0,e0,h0,k0⟩:=d73;obtain⟨s1,e1,h1,k1⟩:=d78;obtain⟨ev,ec,ef⟩:=evs f;refine relUpon_value (v:= .string (s0++s1)) ?_ (hC.up 8) (Writes.refl _ _) ⟨_,rfl,by simp only[ByteArray.size_append];exact Nat.add_le_add h0 h1,Cln.app k0 k1⟩;go_simp;omega
  ·intro w L f hC hLi hLd hLn ⟨d79,_⟩;refine Step2.live rfl ?_;obtain⟨s0,e0,h0,k0⟩:=d79;obtain⟨ev,ec,ef⟩:=evs f;refine relUpon_value (v:= .string (s0++(⟨#[32]⟩:ByteArray))) ?_ (hC.up 9) (Writes.refl _ _) ⟨_,rfl,by simp only[ByteArray.size_append];exact Nat.add_le_add h0 (by decide),Cln.app k0 (clnLit (by decide))⟩;go_simp;omega
  ·intro w L f hC hLi hLd hLn ⟨d,_⟩;refine Step2.live rfl ?_;exact relUpon_value (v:=f 0) rfl (hC.up 10) (Writes.refl _ _) d
  ·intro w L f hC hLi hLd hLn ⟨a,_⟩;change _=_ at a;refine Step2.live rfl ?_;obtain⟨ev,ec,ef⟩:=evs f;refine relUpon_call (f:=149) (args:= #[.pointer (some ⟨g,0,none⟩),.int .i64 1]) (w:=w) (by go_simp) (msum_any 1 (by decide) b B g _ w hC.1 hl (by have:=cst_le [(1,1),(5,1),(11,5)] L;simp at this;omega)) ?_;rintro e w1 ⟨⟨s,he,hs,hq⟩,hM,hW⟩;exact⟨_,he,hC.call 11 (by simp[cst,hLi];omega) hM hW,hW,⟨s,rfl,hs,hq⟩⟩
  ·intro w L f hC hLi hLd hLn ⟨d80,d82,_⟩;refine Step2.live rfl ?_;obtain⟨s0,e0,h0,k0⟩:=d80;obtain⟨s1,e1,h1,k1⟩:=d82;obtain⟨ev,ec,ef⟩:=evs f;refine relUpon_value (v:= .string (s0++s1)) ?_ (hC.up 12) (Writes.refl _ _) ⟨_,rfl,by simp only[ByteArray.size_append];exact Nat.add_le_add h0 h1,Cln.app k0 k1⟩;go_simp;omega
  ·intro w L f hC hLi hLd hLn ⟨d,_⟩;refine Step2.live rfl ?_;exact relUpon_value (v:=f 83) rfl (hC.up 13) (Writes.refl _ _) d
 intro x w' hC hV
 obtain⟨s,hs,hsM,hq⟩:=hV 13 _ rfl rfl;simp only[framed,hs];go_wp2_with fail;go_ret;exact⟨⟨s,rfl,by omega,hq⟩,hC.1.more (by have:=cst_le [(1,1),(5,1),(11,5)] fun _=>true;simp at this;omega),hC.2⟩
theorem cd0:CdOk 0:=mcond_step 0 (by decide) fun h=>absurd h (by decide)
theorem cd1:CdOk 1:=mcond_step 1 (by decide) fun _=>cd0
theorem margs_any (b:List UInt8) (B g k:Nat) (w0:World) (h:Mk b B g k w0) (hl:b.length≤100000) (hk:k≤870000) (c:Nat) (hc4:c≤4) (kk:Nat) (hkk:kk<4):
  Calls Tryz.prog 151 #[.pointer (some ⟨g,0,none⟩),.int .i64 c,.int .i64 kk] w0 (MkOut b B g (k+7) 46 w0):=by
 rcases(show c=0∨c=1∨c=2∨c=3∨c=4 by omega)with hc|hc|hc|hc|hc
 ·subst hc;have hM0:=zi h;have hW0:=zi (Writes.refl [some g] w0);clear h;go_enter Tryz.func151,Tryz.ntmps151;go_wp2_with fail;refine(msum_any 1 (by decide) b B g _ w0 hM0.out hl (by omega)).mono ?_;rintro e w1 ⟨⟨s1,rfl,hs1,hq1⟩,hM1,hW1⟩;replace hW1:=zi (hW0.out.trans hW1);replace hM1:=zi hM1;go_wp2_with fail;go_ret;exact⟨⟨_,rfl,by first|omega| (simp only[ByteArray.size_append,bs_lit,List.size_toArray,List.length_cons,List.length_nil];omega),by repeat' first|assumption|with_reducible refine Cln.app ?_ ?_|exact clnLit (by decide)⟩,hM1.out.more (by omega),hW1.out⟩
 ·subst hc;have hM0:=zi h;have hW0:=zi (Writes.refl [some g] w0);clear h;go_enter Tryz.func151,Tryz.ntmps151;go_wp2_with fail;refine(msum_any 0 (by decide) b B g _ w0 hM0.out hl (by omega)).mono ?_;rintro e w1 ⟨⟨s1,rfl,hs1,hq1⟩,hM1,hW1⟩;replace hW1:=zi (hW0.out.trans hW1);replace hM1:=zi hM1;go_wp2_with fail;refine(msum_any 1 (by decide) b B g _ w1 hM1.out hl (by omega)).mono ?_;rintro e w2 ⟨⟨s2,rfl,hs2,hq2⟩,hM2,hW2⟩;replace hW2:=zi (hW1.out.trans hW2);replace hM2:=zi hM2;go_wp2_with fail;go_ret;exact⟨⟨_,rfl,by first|omega| (simp only[ByteArray.size_append,bs_lit,List.size_toArray,List.length_cons,List.length_nil];omega),by repeat' first|assumption|with_reducible refine Cln.app ?_ ?_|exact clnLit (by decide)⟩,hM2.out.more (by omega),hW2.out⟩
 ·subst hc;have hM0:=zi h;have hW0:=zi (Writes.refl [some g] w0);clear h;go_enter Tryz.func151,Tryz.ntmps151;go_wp2_with fail;refine(mpvar_any b B g _ w0 hM0.out hl (by omega) kk hkk).mono ?_;rintro e w1 ⟨⟨s1,rfl,hs1,hq1⟩,hM1,hW1⟩;replace hW1:=zi (hW0.out.trans hW1);replace hM1:=zi hM1;go_wp2_with fail;go_ret;exact⟨⟨_,rfl,by first|omega| (simp only[ByteArray.size_append,bs_lit,List.size_toArray,List.length_cons,List.length_nil];omega),by repeat' first|assumption|with_reducible refine Cln.app ?_ ?_|exact clnLit (by decide)⟩,hM1.out.more (by omega),hW1.out⟩
 ·subst hc;have hM0:=zi h;have hW0:=zi (Writes.refl [some g] w0);clear h;go_enter Tryz.func151,Tryz.ntmps151;go_wp2_with fail;refine(msum_any 0 (by decide) b B g _ w0 hM0.out hl (by omega)).mono ?_;rintro e w1 ⟨⟨s1,rfl,hs1,hq1⟩,hM1,hW1⟩;replace hW1:=zi (hW0.out.trans hW1);replace hM1:=zi hM1;go_wp2_with fail;refine(mpvar_any b B g _ w1 hM1.out hl (by omega) kk hkk).mono ?_;rintro e w2 ⟨⟨s2,rfl,hs2,hq2⟩,hM2,hW2⟩;replace hW2:=zi (hW1.out.trans hW2);replace hM2:=zi hM2;go_wp2_with fail;go_ret;exact⟨⟨_,rfl,by first|omega| (simp only[ByteArray.size_append,bs_lit,List.size_toArray,List.length_cons,List.length_nil];omega),by repeat' first|assumption|with_reducible refine Cln.app ?_ ?_|exact clnLit (by decide)⟩,hM2.out.more (by omega),hW2.out⟩
 ·subst hc;have hM0:=zi h;have hW0:=zi (Writes.refl [some g] w0);clear h;go_enter Tryz.func151,Tryz.ntmps151;go_wp2_with fail;refine(msum_any 1 (by decide) b B g _ w0 hM0.out hl (by omega)).mono ?_;rintro e w1 ⟨⟨s1,rfl,hs1,hq1⟩,hM1,hW1⟩;replace hW1:=zi (hW0.out.trans hW1);replace hM1:=zi hM1;go_wp2_with fail;go_ret;exact⟨⟨_,rfl,by first|omega| (simp only[ByteArray.size_append,bs_lit,List.size_toArray,List.length_cons,List.length_nil];omega),by repeat' first|assumption|with_reducible refine Cln.app ?_ ?_|exact clnLit (by decide)⟩,hM1.out.more (by omega),hW1.out⟩
def hdOkB (s:ByteArray):Bool:=([⟨#[102,110,32,102,40,120,41]⟩,⟨#[102,110,32,103,40,120,44,32,121,41]⟩,⟨#[102,110,32,104,40,42,112,41]⟩,⟨#[102,110,32,107,40,120,44,32,42,112,41]⟩]:List ByteArray).any fun x=>x.data==s.data
theorem mname_any (w:World) (k:Nat):Calls Tryz.prog 49 #[.int .i64 k] w fun e w'=>(∃s:ByteArray,e= .returned (.string s)∧s.size≤1∧Cln s)∧Below w.heap.size w w':=by
 have hbn:=below_new w (.cells #[.string ⟨#[102]⟩,.string ⟨#[103]⟩,.string ⟨#[104]⟩,.string ⟨#[107]⟩] 9);obtain⟨s,hs,hsM⟩:=pick_at (l:= [⟨#[102]⟩,⟨#[103]⟩,⟨#[104]⟩,⟨#[107]⟩]) (M:=1) (p:=clnB) (r:=k%4) (Holds.new w 9 #[.string ⟨#[102]⟩,.string ⟨#[103]⟩,.string ⟨#[104]⟩,.string ⟨#[107]⟩]) (Nat.mod_lt _ (by decide)) (by decide) (by decide);have hE:=zi (And.intro hsM hbn);have ql:w.heap.size<(w.alloc (.cells #[.string ⟨#[102]⟩,.string ⟨#[103]⟩,.string ⟨#[104]⟩,.string ⟨#[107]⟩] 9)).heap.size:=(Holds.new w _ _).lt;clear hbn hsM;go_enter Tryz.func49,Tryz.ntmps49;go_wp2_with fail;go_ret;exact⟨⟨s,rfl,hE.out.1⟩,hE.out.2⟩
theorem mhead_any (w:World) (k:Nat):Calls Tryz.prog 96 #[.int .i64 k] w fun e w'=>(∃s:ByteArray,e= .returned (.string s)∧s.size≤11∧hdOkB s=true)∧Below w.heap.size w w':=by
 have hbn:=below_new w (.cells #[.string ⟨#[102,110,32,102,40,120,41]⟩,.string ⟨#[102,110,32,103,40,120,44,32,121,41]⟩,.string ⟨#[102,110,32,104,40,42,112,41]⟩,.string ⟨#[102,110,32,107,40,120,44,32,42,112,41]⟩] 9);obtain⟨s,hs,hsM⟩:=pick_at (l:= [⟨#[102,110,32,102,40,120,41]⟩,⟨#[102,110,32,103,40,120,44,32,121,41]⟩,⟨#[102,110,32,104,40,42,112,41]⟩,⟨#[102,110,32,107,40,120,44,32,42,112,41]⟩]) (M:=11) (p:=hdOkB) (r:=k%4) (Holds.new w 9 #[.string ⟨#[102,110,32,102,40,120,41]⟩,.string ⟨#[102,110,32,103,40,120,44,32,121,41]⟩,.string ⟨#[102,110,32,104,40,42,112,41]⟩,.string ⟨#[102,110,32,107,40,120,44,32,42,112,41]⟩]) (Nat.mod_lt _ (by decide)) (by decide) (by decide);have hE:=zi (And.intro hsM hbn);have ql:w.heap.size<(w.alloc (.cells #[.string ⟨#[102,110,32,102,40,120,41]⟩,.string ⟨#[102,110,32,103,40,120,44,32,121,41]⟩,.string ⟨#[102,110,32,104,40,42,112,41]⟩,.string ⟨#[102,110,32,107,40,120,44,32,42,112,41]⟩] 9)).heap.size:=(Holds.new w _ _).lt;clear hbn hsM;go_enter Tryz.func96,Tryz.ntmps96;go_wp2_with fail;go_ret
 exact⟨⟨s,rfl,hE.out.1⟩,hE.out.2⟩
def SC:Nat→Nat|0=>60|d+1=>6*SC d+80
def SM:Nat→Nat|0=>250|d+1=>6*SM d+300
theorem SC_le:∀d,60≤SC d|0=>Nat.le_refl _|d+1=>by have:=SC_le d;simp only[SC];omega
theorem SM_le:∀d,250≤SM d|0=>Nat.le_refl _|d+1=>by have:=SM_le d;simp only[SM];omega
def StOk (d:Nat):Prop:=∀(b:List UInt8) (B g k:Nat) (w0:World),Mk b B g k w0→b.length≤100000→k≤700000+10000*(2-d)→∀kk:Nat,kk<4→
 Calls Tryz.prog 98 #[.pointer (some ⟨g,0,none⟩),.int .i64 kk,.int .i64 d] w0 (MkOut b B g (k+SC d) (SM d) w0)
def BkOk (d:Nat):Prop:=∀(b:List UInt8) (B g k:Nat) (w0:World),Mk b B g k w0→b.length≤100000→k≤702000+10000*(1-d)→∀kk:Nat,kk<4→
 Calls Tryz.prog 153 #[.pointer (some ⟨g,0,none⟩),.int .i64 kk,.int .i64 (d+1:Nat)] w0 (MkOut b B g (k+(3*SC d+1)) (3*SM d+4) w0)
theorem Mk.step {b:List UInt8} {B g k:Nat} {w:World} {A:Option Addr} {c i:Nat} {m:Int} (h:MkS b B g A c i m w) (hi:i≤k) (h1: -(k:Int)≤m) (h2:m≤25):Mk b B g (k+1) (w.setCell ⟨g,2,none⟩ (.int .i64 (m-1)))∧Writes [some g] w (w.setCell ⟨g,2,none⟩ (.int .i64 (m-1))):=
 ⟨⟨A,c,i,m-1,h.putM (m-1),by omega,by omega,by omega⟩,Writes.store w (by simp) _⟩
theorem mstmt_step (d:Nat) (hd:d≤2) (hb:∀p,d=p+1→BkOk p):StOk d:=by
 intro b B g k w0 h hl hk kk hkk;obtain⟨A,c,i,m,hS,hi,hm1,hm2⟩:=h;have p2:w0.cell? ⟨g,2,none⟩=some (.int .i64 m):=hS.h.cell 2;have pl:=hS.h.lt;have pz:=hS.h.frozen 2;have hM1:=Mk.step hS hi hm1 hm2;obtain⟨w1,hw1⟩:∃z,z=w0.setCell ⟨g,2,none⟩ (.int .i64 (m-1)):=⟨_,rfl⟩;have p2':(w0.setCell ⟨g,2,none⟩ (.int .i64 (m-1))).cell? ⟨g,2,none⟩=some (.int .i64 (m-1)):=(hS.putM (m-1)).h.cell 2;have hSC:=SC_le d;have hSM:=SM_le d;rw[←hw1]at hM1;have hW1:=zi hM1.2;replace hM1:=zi hM1.1;have hfo:=zi hw1.symm;have hm1':=zi hm1;have hb':=zi hb;clear hS hw1 hi hb;go_enter Tryz.func98,Tryz.ntmps98;by_cases hm0:m<1
 ·have hm3:m-1<0:=by omega
  go_wp2_with fail;rw[hfo.out];go_wp2_with fail;refine(mnum_any b B g _ w1 hM1.out hl (by omega)).mono ?_;rintro e w2 ⟨⟨s2,rfl,hs2,hq2⟩,hM2,hW2⟩;replace hW2:=zi (hW1.out.trans hW2);replace hM2:=zi hM2;go_wp2_with fail;go_ret;exact⟨⟨_,rfl,by first|omega| (simp only[ByteArray.size_append,bs_lit,List.size_toArray,List.length_cons,List.length_nil];omega),by repeat' first|assumption|with_reducible refine Cln.app ?_ ?_|exact clnLit (by decide)⟩,hM2.out.more (by omega),hW2.out⟩
 have hm3:¬m-1<0:=by omega
 go_wp2_with fail;rw[hfo.out];clear p2 pl pz p2' hfo;refine(mnext_any b B g _ w1 hM1.out hl (by omega) 18 (by decide) (by decide)).mono ?_;rintro e w2 ⟨⟨r2,rfl,hr2⟩,hM2,hW2⟩;replace hW2:=zi (hW1.out.trans hW2);replace hM2:=zi hM2;by_cases q0:r2=0
 ·subst q0;go_wp2_with fail;refine(mivar_any b B g _ w2 hM2.out hl (by omega)).mono ?_;rintro e w3 ⟨⟨s3,rfl,hs3,hq3⟩,hM3,hW3⟩;replace hW3:=zi (hW2.out.trans hW3);replace hM3:=zi hM3;go_wp2_with fail;refine(msum_any 2 (by decide) b B g _ w3 hM3.out hl (by omega)).mono ?_;rintro e w4 ⟨⟨s4,rfl,hs4,hq4⟩,hM4,hW4⟩;replace hW4:=zi (hW3.out.trans hW4);replace hM4:=zi hM4;go_wp2_with fail;go_ret;exact⟨⟨_,rfl,by first|omega| (simp only[ByteArray.size_append,bs_lit,List.size_toArray,List.length_cons,List.length_nil];omega),by repeat' first|assumption|with_reducible refine Cln.app ?_ ?_|exact clnLit (by decide)⟩,hM4.out.more (by omega),hW4.out⟩
 have c0:((r2:Int)==0)=false:=by simp;omega
 by_cases q1:r2=1
 ·subst q1;go_wp2_with fail;refine(mivar_any b B g _ w2 hM2.out hl (by omega)).mono ?_;rintro e w3 ⟨⟨s3,rfl,hs3,hq3⟩,hM3,hW3⟩;replace hW3:=zi (hW2.out.trans hW3);replace hM3:=zi hM3;go_wp2_with fail;refine(msum_any 2 (by decide) b B g _ w3 hM3.out hl (by omega)).mono ?_;rintro e w4 ⟨⟨s4,rfl,hs4,hq4⟩,hM4,hW4⟩;replace hW4:=zi (hW3.out.trans hW4);replace hM4:=zi hM4;go_wp2_with fail;go_ret;exact⟨⟨_,rfl,by first|omega| (simp only[ByteArray.size_append,bs_lit,List.size_toArray,List.length_cons,List.length_nil];omega),by repeat' first|assumption|with_reducible refine Cln.app ?_ ?_|exact clnLit (by decide)⟩,hM4.out.more (by omega),hW4.out⟩
 have c1:((r2:Int)==1)=false:=by simp;omega
 by_cases q2:r2=2
 ·subst q2;go_wp2_with fail;refine(mivar_any b B g _ w2 hM2.out hl (by omega)).mono ?_;rintro e w3 ⟨⟨s3,rfl,hs3,hq3⟩,hM3,hW3⟩;replace hW3:=zi (hW2.out.trans hW3);replace hM3:=zi hM3;go_wp2_with fail;refine(msum_any 2 (by decide) b B g _ w3 hM3.out hl (by omega)).mono ?_;rintro e w4 ⟨⟨s4,rfl,hs4,hq4⟩,hM4,hW4⟩;replace hW4:=zi (hW3.out.trans hW4);replace hM4:=zi hM4;go_wp2_with fail;go_ret;exact⟨⟨_,rfl,by first|omega| (simp only[ByteArray.size_append,bs_lit,List.size_toArray,List.length_cons,List.length_nil];omega),by repeat' first|assumption|with_reducible refine Cln.app ?_ ?_|exact clnLit (by decide)⟩,hM4.out.more (by omega),hW4.out⟩
 have c2:((r2:Int)==2)=false:=by simp;omega
 by_cases q3:r2=3
 ·subst q3;go_wp2_with fail;refine(mpvar_any b B g _ w2 hM2.out hl (by omega) kk hkk).mono ?_;rintro e w3 ⟨⟨s3,rfl,hs3,hq3⟩,hM3,hW3⟩;replace hW3:=zi (hW2.out.trans hW3);replace hM3:=zi hM3;have hbn:=below_new w3 (.cells #[.string ⟨#[99]⟩,.string ⟨#[100]⟩] 9);have hH:=Holds.new w3 9 #[.string ⟨#[99]⟩,.string ⟨#[100]⟩];obtain⟨wa,hwa⟩:∃z,z=w3.alloc (.cells #[.string ⟨#[99]⟩,.string ⟨#[100]⟩] 9):=⟨_,rfl⟩;obtain⟨ga,hga⟩:∃z,z=w3.heap.size:=⟨_,rfl⟩;rw[←hwa]at hbn hH;rw[←hga]at hH
  have hne:ga≠g:=by have:=hM3.out.lt;omega
  have hMa:=zi (hM3.out.below hbn);have hWa:=zi (hW3.out.trans (Writes.of_below hbn _));have hfo:=zi hwa.symm;have hgo:=zi hga.symm;have hHa:=zi hH;clear hbn hH hwa hga;go_wp2_with fail;rw[hfo.out,hgo.out];clear hfo hgo;refine(mnext_any b B g _ wa hMa.out hl (by omega) 2 (by decide) (by decide)).mono ?_;rintro e wb ⟨⟨rb,rfl,hrb⟩,hMb,hWb⟩;have hHb:=hWb.holds hHa.out (by simpa using hne);obtain⟨sb,hsb,hsM,hqb⟩:=pick_at (l:= [⟨#[99]⟩,⟨#[100]⟩]) (M:=1) (p:=clnB) hHb hrb (by decide) (by decide);replace hqb:Cln sb:=hqb;have ql:=hHb.lt;have hE:=zi (And.intro hMb (hWa.out.trans hWb));clear hHb hMb hWb hWa hHa;go_wp2_with fail;go_ret;exact⟨⟨_,rfl,by simp only[ByteArray.size_append,bs_lit,List.size_toArray,List.length_cons,List.length_nil];omega,by repeat' first|assumption|with_reducible refine Cln.app ?_ ?_|exact clnLit (by decide)⟩,hE.out.1.more (by omega),hE.out.2⟩
 have c3:((r2:Int)==3)=false:=by simp;omega
 by_cases q4:r2=4
 ·subst q4;go_wp2_with fail;refine(mpvar_any b B g _ w2 hM2.out hl (by omega) kk hkk).mono ?_;rintro e w3 ⟨⟨s3,rfl,hs3,hq3⟩,hM3,hW3⟩;replace hW3:=zi (hW2.out.trans hW3);replace hM3:=zi hM3;have hbn:=below_new w3 (.cells #[.string ⟨#[110,117,108,108]⟩,.string ⟨#[113]⟩] 9);have hH:=Holds.new w3 9 #[.string ⟨#[110,117,108,108]⟩,.string ⟨#[113]⟩];obtain⟨wa,hwa⟩:∃z,z=w3.alloc (.cells #[.string ⟨#[110,117,108,108]⟩,.string ⟨#[113]⟩] 9):=⟨_,rfl⟩;obtain⟨ga,hga⟩:∃z,z=w3.heap.size:=⟨_,rfl⟩;rw[←hwa]at hbn hH;rw[←hga]at hH
  have hne:ga≠g:=by have:=hM3.out.lt;omega
  have hMa:=zi (hM3.out.below hbn);have hWa:=zi (hW3.out.trans (Writes.of_below hbn _));have hfo:=zi hwa.symm;have hgo:=zi hga.symm;have hHa:=zi hH;clear hbn hH hwa hga;go_wp2_with fail;rw[hfo.out,hgo.out];clear hfo hgo;refine(mnext_any b B g _ wa hMa.out hl (by omega) 2 (by decide) (by decide)).mono ?_;rintro e wb ⟨⟨rb,rfl,hrb⟩,hMb,hWb⟩;have hHb:=hWb.holds hHa.out (by simpa using hne);obtain⟨sb,hsb,hsM,hqb⟩:=pick_at (l:= [⟨#[110,117,108,108]⟩,⟨#[113]⟩]) (M:=4) (p:=clnB) hHb hrb (by decide) (by decide);replace hqb:Cln sb:=hqb;have ql:=hHb.lt;have hE:=zi (And.intro hMb (hWa.out.trans hWb));clear hHb hMb hWb hWa hHa;go_wp2_with fail;go_ret;exact⟨⟨_,rfl,by simp only[ByteArray.size_append,bs_lit,List.size_toArray,List.length_cons,List.length_nil];omega,by repeat' first|assumption|with_reducible refine Cln.app ?_ ?_|exact clnLit (by decide)⟩,hE.out.1.more (by omega),hE.out.2⟩
 have c4:((r2:Int)==4)=false:=by simp;omega
 by_cases q5:r2=5
 ·subst q5;go_wp2_with fail;refine(mivar_any b B g _ w2 hM2.out hl (by omega)).mono ?_;rintro e w3 ⟨⟨s3,rfl,hs3,hq3⟩,hM3,hW3⟩;replace hW3:=zi (hW2.out.trans hW3);replace hM3:=zi hM3;go_wp2_with fail;refine(mpvar_any b B g _ w3 hM3.out hl (by omega) kk hkk).mono ?_;rintro e w4 ⟨⟨s4,rfl,hs4,hq4⟩,hM4,hW4⟩;replace hW4:=zi (hW3.out.trans hW4);replace hM4:=zi hM4;go_wp2_with fail;go_ret;exact⟨⟨_,rfl,by first|omega| (simp only[ByteArray.size_append,bs_lit,List.size_toArray,List.length_cons,List.length_nil];omega),by repeat' first|assumption|with_reducible refine Cln.app ?_ ?_|exact clnLit (by decide)⟩,hM4.out.more (by omega),hW4.out⟩
 have c5:((r2:Int)==5)=false:=by simp;omega
 by_cases q6:r2=6
 ·subst q6;go_wp2_with fail;refine(mpvar_any b B g _ w2 hM2.out hl (by omega) kk hkk).mono ?_;rintro e w3 ⟨⟨s3,rfl,hs3,hq3⟩,hM3,hW3⟩;replace hW3:=zi (hW2.out.trans hW3);replace hM3:=zi hM3;go_wp2_with fail;refine(msum_any 1 (by decide) b B g _ w3 hM3.out hl (by omega)).mono ?_;rintro e w4 ⟨⟨s4,rfl,hs4,hq4⟩,hM4,hW4⟩;replace hW4:=zi (hW3.out.trans hW4);replace hM4:=zi hM4;go_wp2_with fail;go_ret;exact⟨⟨_,rfl,by first|omega| (simp only[ByteArray.size_append,bs_lit,List.size_toArray,List.length_cons,List.length_nil];omega),by repeat' first|assumption|with_reducible refine Cln.app ?_ ?_|exact clnLit (by decide)⟩,hM4.out.more (by omega),hW4.out⟩
 have c6:((r2:Int)==6)=false:=by simp;omega
 by_cases q7:r2=7
 ·subst q7;have hk2:=zi (And.intro hSC hSM);clear hb';obtain⟨K,hK⟩:∃K,K=k+2:=⟨_,rfl⟩;have hMr:=zi (hM2.out.more (Nat.le_of_eq hK.symm));have hWr:=hW2;clear hM2 hW2;go_upto_region 19 with(fail)
  refine wp_region_tabL ((eqv (.pointer (some ⟨g,0,none⟩)))::(fun L w v=>∃s:ByteArray,v= .string s∧s.size≤1∧Cln s)::(fun L w v=>∃s:ByteArray,v= .string s∧s.size≤1+3∧Cln s)::(fun L w v=>∃q,v= .slice (some ⟨q,0,none⟩) 2 2∧Holds w q 9 #[.string ⟨#[116]⟩,.string ⟨#[117]⟩]∧q≠g)::(eqv (.pointer (some ⟨g,0,none⟩)))::(fun L w v=>∃r:Nat,v= .int .i64 r∧r<2)::(fun L w v=>∃q r,v= .pointer (some ⟨q,r,none⟩)∧Holds w q 9 #[.string ⟨#[116]⟩,.string ⟨#[117]⟩]∧r<2∧q≠g)::(fun L w v=>∃s:ByteArray,v= .string s∧s.size≤1∧ClnW s)::(fun L w v=>∃s:ByteArray,v= .string s∧s.size≤1+3+1∧ClnW s)::(fun L w v=>∃s:ByteArray,v= .string s∧s.size≤1+3+1+1∧Cln s)::(eqv (.pointer (some ⟨g,0,none⟩)))::(fun L w v=>∃s:ByteArray,v= .string s∧s.size≤25∧Cln s)::(fun L w v=>∃s:ByteArray,v= .string s∧s.size≤1+3+1+1+25∧Cln s)::(fun L w v=>∃s:ByteArray,v= .string s∧s.size≤1+3+1+1+25+3∧Cln s)::(fun L w v=>∃s:ByteArray,v= .string s∧s.size≤1+3+1+1+25+3∧Cln s)::[])
   ((rn1 0)::(rd1 90 0)::(rd1 91 1)::⟨[],0,[]⟩::(rn1 0)::(rd1 94 4)::⟨[(93,some 3),(95,some 5)],0,[]⟩::(rd1 96 6)::⟨[(92,some 2),(97,some 7)],0,[]⟩::(rd1 98 8)::(rn1 0)::(rd1 100 10)::⟨[(99,some 9),(101,some 11)],0,[]⟩::(rd1 102 12)::(rd1 103 13)::[])
   (no::no::no::no::no::no::so 14::no::no::no::no::no::no::no::no::no::no::no::no::no::no::no::no::no::no::no::no::no::no::no::no::no::no::no::no::no::no::no::no::no::no::no::no::no::no::no::no::no::no::no::no::no::no::no::no::no::no::no::no::no::no::no::no::no::no::no::no::no::no::no::no::no::no::no::no::no::no::no::no::no::no::no::no::no::no::no::no::no::no::no::so 0::so 1::so 2::so 3::so 4::so 5::so 6::so 7::so 8::so 9::so 10::so 11::so 12::so 13::[])
   (fun L w'=>MkU b B g K [(1,1),(5,1),(11,5)] w0 L w') (fun _ w w'=>Writes [some g] w w') ?mixK19st19 ?okK19st19 ?tabK19st19 ?frK19st19 ?inK19st19 ?keptK19st19 ?startK19st19 ?eachK19st19 ?finK19st19
  case mixK19st19|okK19st19|tabK19st19|frK19st19=>kernel_rfl
  case inK19st19=>rfl
  case keptK19st19=>exact⟨fun _ _ _ _ _ _ _ _ _ _ _ h=>h,fun _ _ _ _ _ _ _ _ _ _ _ h=>h,fun _ _ _ _ _ _ _ _ _ _ _ h=>h,fun i hne hr L w w' v hLi hC hC' hG ⟨q,e,hH,hq⟩=>⟨q,e,hG.holds hH (by simpa using hq),hq⟩,fun _ _ _ _ _ _ _ _ _ _ _ h=>h,fun _ _ _ _ _ _ _ _ _ _ _ h=>h,fun i hne hr L w w' v hLi hC hC' hG ⟨q,r,e,hH,hr,hq⟩=>⟨q,r,e,hG.holds hH (by simpa using hq),hr,hq⟩,fun _ _ _ _ _ _ _ _ _ _ _ h=>h,fun _ _ _ _ _ _ _ _ _ _ _ h=>h,fun _ _ _ _ _ _ _ _ _ _ _ h=>h,fun _ _ _ _ _ _ _ _ _ _ _ h=>h,fun _ _ _ _ _ _ _ _ _ _ _ h=>h,fun _ _ _ _ _ _ _ _ _ _ _ h=>h,fun _ _ _ _ _ _ _ _ _ _ _ h=>h,fun _ _ _ _ _ _ _ _ _ _ _ h=>h,trivial⟩
  case startK19st19=>exact MkU.start (Below.refl _ _).drew hMr.out hWr.out rfl
  case eachK19st19=>
   repeat' first|exact trivial|refine And.intro ?_ ?_
   ·intro w L f hC hLi hLd hLn ⟨d,_⟩;refine Step2.live rfl ?_;exact relUpon_value (v:=f 0) rfl (hC.up 0) (Writes.refl _ _) d
   ·intro w L f hC hLi hLd hLn ⟨a,_⟩;change _=_ at a;refine Step2.live rfl ?_;obtain⟨ev,ec,ef⟩:=evs f;refine relUpon_call (f:=99) (args:= #[.pointer (some ⟨g,0,none⟩)]) (w:=w) (by go_simp) (mivar_any b B g _ w hC.1 hl (by have:=cst_le [(1,1),(5,1),(11,5)] L;simp at this;omega)) ?_;rintro e w1 ⟨⟨s,he,hs,hq⟩,hM,hW⟩;exact⟨_,he,hC.call 1 (by simp[cst,hLi];omega) hM hW,hW,⟨s,rfl,hs,hq⟩⟩
   ·intro w L f hC hLi hLd hLn ⟨d91,_⟩;refine Step2.live rfl ?_;obtain⟨s0,e0,h0,k0⟩:=d91;obtain⟨ev,ec,ef⟩:=evs f;refine relUpon_value (v:= .string (s0++(⟨#[32,61,32]⟩:ByteArray))) ?_ (hC.up 2) (Writes.refl _ _) ⟨_,rfl,by simp only[ByteArray.size_append];exact Nat.add_le_add h0 (by decide),Cln.app k0 (clnLit (by decide))⟩;go_simp;omega
   ·intro w L f hC hLi hLd hLn hF;refine Step2.live rfl ?_;have hbn:=below_new w (.cells #[.string ⟨#[116]⟩,.string ⟨#[117]⟩] 9);have hlt:=hC.1.lt;obtain⟨ev,ec,ef⟩:=evs f;refine relUpon_value (w':=w.alloc (.cells #[.string ⟨#[116]⟩,.string ⟨#[117]⟩] 9)) (v:= .slice (some ⟨w.heap.size,0,none⟩) 2 2) (by go_simp) ((hC.up 3).below hbn) (Writes.of_below hbn _) ⟨w.heap.size,rfl,Holds.new w _ _,by omega⟩
   ·intro w L f hC hLi hLd hLn ⟨d,_⟩;refine Step2.live rfl ?_;exact relUpon_value (v:=f 0) rfl (hC.up 4) (Writes.refl _ _) d
   ·intro w L f hC hLi hLd hLn ⟨a,_⟩;change _=_ at a;refine Step2.live rfl ?_;obtain⟨ev,ec,ef⟩:=evs f;refine relUpon_call (f:=97) (args:= #[.pointer (some ⟨g,0,none⟩),.int .i64 2]) (w:=w) (by go_simp) (mnext_any b B g _ w hC.1 hl (by have:=cst_le [(1,1),(5,1),(11,5)] L;simp at this;omega) 2 (by decide) (by decide)) ?_;rintro e w1 ⟨⟨r,he,hr⟩,hM,hW⟩;exact⟨_,he,hC.call 5 (by simp[cst,hLi];omega) hM hW,hW,⟨r,rfl,hr⟩⟩
   ·intro w L f hC hLi hLd hLn ⟨d93,d95,_⟩;refine Step2.live rfl ?_;obtain⟨q,ea,hH,hq⟩:=d93;obtain⟨r,ei,hr⟩:=d95;obtain⟨ev,ec,ef⟩:=evs f;refine relUpon_value (v:= .pointer (some ⟨q,r,none⟩)) ?_ (hC.up 6) (Writes.refl _ _) ⟨q,r,rfl,hH,hr,hq⟩;go_simp;intro hx;omega
   ·intro w L f hC hLi hLd hLn ⟨d96,_⟩;refine Step2.live rfl ?_;obtain⟨q,r,ea,hH,hr,hq⟩:=d96;obtain⟨s,hs,hsM,hqq⟩:=pick_at (l:= [⟨#[116]⟩,⟨#[117]⟩]) (M:=1) (p:=(fun s=> !vtrB s.data.toList)) hH hr (by decide) (by decide);have ql:=hH.lt;obtain⟨ev,ec,ef⟩:=evs f;refine relUpon_value (v:= .string s) ?_ (hC.up 7) (Writes.refl _ _) ⟨s,rfl,hsM,by simpa[ClnW]using hqq⟩;go_simp
   ·intro w L f hC hLi hLd hLn ⟨d92,d97,_⟩;refine Step2.live rfl ?_;obtain⟨s0,e0,h0,k0⟩:=d92;obtain⟨s1,e1,h1,k1⟩:=d97;obtain⟨ev,ec,ef⟩:=evs f;refine relUpon_value (v:= .string (s0++s1)) ?_ (hC.up 8) (Writes.refl _ _) ⟨_,rfl,by simp only[ByteArray.size_append];exact Nat.add_le_add h0 h1,Cln.appW k0 k1⟩;go_simp;omega
   ·intro w L f hC hLi hLd hLn ⟨d98,_⟩;refine Step2.live rfl ?_;obtain⟨s0,e0,h0,k0⟩:=d98;obtain⟨ev,ec,ef⟩:=evs f;refine relUpon_value (v:= .string (s0++(⟨#[91]⟩:ByteArray))) ?_ (hC.up 9) (Writes.refl _ _) ⟨_,rfl,by simp only[ByteArray.size_append];exact Nat.add_le_add h0 (by decide),ClnW.cat k0 (clnLit (by decide)) (by decide) (by decide)⟩;go_simp;omega
   ·intro w L f hC hLi hLd hLn ⟨d,_⟩;refine Step2.live rfl ?_;exact relUpon_value (v:=f 0) rfl (hC.up 10) (Writes.refl _ _) d
   ·intro w L f hC hLi hLd hLn ⟨a,_⟩;change _=_ at a;refine Step2.live rfl ?_;obtain⟨ev,ec,ef⟩:=evs f;refine relUpon_call (f:=149) (args:= #[.pointer (some ⟨g,0,none⟩),.int .i64 1]) (w:=w) (by go_simp) (msum_any 1 (by decide) b B g _ w hC.1 hl (by have:=cst_le [(1,1),(5,1),(11,5)] L;simp at this;omega)) ?_;rintro e w1 ⟨⟨s,he,hs,hq⟩,hM,hW⟩;exact⟨_,he,hC.call 11 (by simp[cst,hLi];omega) hM hW,hW,⟨s,rfl,hs,hq⟩⟩
   ·intro w L f hC hLi hLd hLn ⟨d99,d101,_⟩;refine Step2.live rfl ?_;obtain⟨s0,e0,h0,k0⟩:=d99;obtain⟨s1,e1,h1,k1⟩:=d101;obtain⟨ev,ec,ef⟩:=evs f;refine relUpon_value (v:= .string (s0++s1)) ?_ (hC.up 12) (Writes.refl _ _) ⟨_,rfl,by simp only[ByteArray.size_append];exact Nat.add_le_add h0 h1,Cln.app k0 k1⟩;go_simp;omega
   ·intro w L f hC hLi hLd hLn ⟨d102,_⟩;refine Step2.live rfl ?_;obtain⟨s0,e0,h0,k0⟩:=d102;obtain⟨ev,ec,ef⟩:=evs f;refine relUpon_value (v:= .string (s0++(⟨#[93,59,32]⟩:ByteArray))) ?_ (hC.up 13) (Writes.refl _ _) ⟨_,rfl,by simp only[ByteArray.size_append];exact Nat.add_le_add h0 (by decide),Cln.app k0 (clnLit (by decide))⟩;go_simp;omega
   ·intro w L f hC hLi hLd hLn ⟨d,_⟩;refine Step2.live rfl ?_;exact relUpon_value (v:=f 103) rfl (hC.up 14) (Writes.refl _ _) d
  intro x w' hC hV
  obtain⟨s,hs,hsM,hq⟩:=hV 14 _ rfl rfl;simp only[framed,hs];go_wp2_with fail;go_ret;exact⟨⟨s,rfl,by omega,hq⟩,hC.1.more (by have:=cst_le [(1,1),(5,1),(11,5)] fun _=>true;simp at this;omega),hC.2⟩
 have c7:((r2:Int)==7)=false:=by simp;omega
 by_cases q8:r2=8
 ·subst q8;have hk2:=zi (And.intro hSC hSM);clear hb';obtain⟨K,hK⟩:∃K,K=k+2:=⟨_,rfl⟩;have hMr:=zi (hM2.out.more (Nat.le_of_eq hK.symm));have hWr:=hW2;clear hM2 hW2;go_upto_region 21 with(fail)
  refine wp_region_tabL ((fun L w v=>∃q,v= .slice (some ⟨q,0,none⟩) 2 2∧Holds w q 9 #[.string ⟨#[116]⟩,.string ⟨#[117]⟩]∧q≠g)::(eqv (.pointer (some ⟨g,0,none⟩)))::(fun L w v=>∃r:Nat,v= .int .i64 r∧r<2)::(fun L w v=>∃q r,v= .pointer (some ⟨q,r,none⟩)∧Holds w q 9 #[.string ⟨#[116]⟩,.string ⟨#[117]⟩]∧r<2∧q≠g)::(fun L w v=>∃s:ByteArray,v= .string s∧s.size≤1∧ClnW s)::(fun L w v=>∃s:ByteArray,v= .string s∧s.size≤1+1∧Cln s)::(eqv (.pointer (some ⟨g,0,none⟩)))::(fun L w v=>∃s:ByteArray,v= .string s∧s.size≤25∧Cln s)::(fun L w v=>∃s:ByteArray,v= .string s∧s.size≤1+1+25∧Cln s)::(fun L w v=>∃s:ByteArray,v= .string s∧s.size≤1+1+25+4∧Cln s)::(eqv (.pointer (some ⟨g,0,none⟩)))::(fun L w v=>∃s:ByteArray,v= .string s∧s.size≤25∧Cln s)::(fun L w v=>∃s:ByteArray,v= .string s∧s.size≤1+1+25+4+25∧Cln s)::(fun L w v=>∃s:ByteArray,v= .string s∧s.size≤1+1+25+4+25+2∧Cln s)::(fun L w v=>∃s:ByteArray,v= .string s∧s.size≤1+1+25+4+25+2∧Cln s)::[])
   (⟨[],0,[]⟩::(rn1 0)::(rd1 107 1)::⟨[(106,some 0),(108,some 2)],0,[]⟩::(rd1 109 3)::(rd1 110 4)::(rn1 0)::(rd1 112 6)::⟨[(111,some 5),(113,some 7)],0,[]⟩::(rd1 114 8)::(rn1 0)::(rd1 116 10)::⟨[(115,some 9),(117,some 11)],0,[]⟩::(rd1 118 12)::(rd1 119 13)::[])
   (no::no::no::no::no::no::so 14::no::no::no::no::no::no::no::no::no::no::no::no::no::no::no::no::no::no::no::no::no::no::no::no::no::no::no::no::no::no::no::no::no::no::no::no::no::no::no::no::no::no::no::no::no::no::no::no::no::no::no::no::no::no::no::no::no::no::no::no::no::no::no::no::no::no::no::no::no::no::no::no::no::no::no::no::no::no::no::no::no::no::no::no::no::no::no::no::no::no::no::no::no::no::no::no::no::no::no::so 0::so 1::so 2::so 3::so 4::so 5::so 6::so 7::so 8::so 9::so 10::so 11::so 12::so 13::[])
   (fun L w'=>MkU b B g K [(2,1),(7,5),(11,5)] w0 L w') (fun _ w w'=>Writes [some g] w w') ?mixK21st21 ?okK21st21 ?tabK21st21 ?frK21st21 ?inK21st21 ?keptK21st21 ?startK21st21 ?eachK21st21 ?finK21st21
  case mixK21st21|okK21st21|tabK21st21|frK21st21=>kernel_rfl
  case inK21st21=>rfl
  case keptK21st21=>exact⟨fun i hne hr L w w' v hLi hC hC' hG ⟨q,e,hH,hq⟩=>⟨q,e,hG.holds hH (by simpa using hq),hq⟩,fun _ _ _ _ _ _ _ _ _ _ _ h=>h,fun _ _ _ _ _ _ _ _ _ _ _ h=>h,fun i hne hr L w w' v hLi hC hC' hG ⟨q,r,e,hH,hr,hq⟩=>⟨q,r,e,hG.holds hH (by simpa using hq),hr,hq⟩,fun _ _ _ _ _ _ _ _ _ _ _ h=>h,fun _ _ _ _ _ _ _ _ _ _ _ h=>h,fun _ _ _ _ _ _ _ _ _ _ _ h=>h,fun _ _ _ _ _ _ _ _ _ _ _ h=>h,fun _ _ _ _ _ _ _ _ _ _ _ h=>h,fun _ _ _ _ _ _ _ _ _ _ _ h=>h,fun _ _ _ _ _ _ _ _ _ _ _ h=>h,fun _ _ _ _ _ _ _ _ _ _ _ h=>h,fun _ _ _ _ _ _ _ _ _ _ _ h=>h,fun _ _ _ _ _ _ _ _ _ _ _ h=>h,fun _ _ _ _ _ _ _ _ _ _ _ h=>h,trivial⟩
  case startK21st21=>exact MkU.start (Below.refl _ _).drew hMr.out hWr.out rfl
  case eachK21st21=>
   repeat' first|exact trivial|refine And.intro ?_ ?_
   ·intro w L f hC hLi hLd hLn hF;refine Step2.live rfl ?_;have hbn:=below_new w (.cells #[.string ⟨#[116]⟩,.string ⟨#[117]⟩] 9);have hlt:=hC.1.lt;obtain⟨ev,ec,ef⟩:=evs f;refine relUpon_value (w':=w.alloc (.cells #[.string ⟨#[116]⟩,.string ⟨#[117]⟩] 9)) (v:= .slice (some ⟨w.heap.size,0,none⟩) 2 2) (by go_simp) ((hC.up 0).below hbn) (Writes.of_below hbn _) ⟨w.heap.size,rfl,Holds.new w _ _,by omega⟩
   ·intro w L f hC hLi hLd hLn ⟨d,_⟩;refine Step2.live rfl ?_;exact relUpon_value (v:=f 0) rfl (hC.up 1) (Writes.refl _ _) d
   ·intro w L f hC hLi hLd hLn ⟨a,_⟩;change _=_ at a;refine Step2.live rfl ?_;obtain⟨ev,ec,ef⟩:=evs f;refine relUpon_call (f:=97) (args:= #[.pointer (some ⟨g,0,none⟩),.int .i64 2]) (w:=w) (by go_simp) (mnext_any b B g _ w hC.1 hl (by have:=cst_le [(2,1),(7,5),(11,5)] L;simp at this;omega) 2 (by decide) (by decide)) ?_;rintro e w1 ⟨⟨r,he,hr⟩,hM,hW⟩;exact⟨_,he,hC.call 2 (by simp[cst,hLi];omega) hM hW,hW,⟨r,rfl,hr⟩⟩
   ·intro w L f hC hLi hLd hLn ⟨d106,d108,_⟩;refine Step2.live rfl ?_;obtain⟨q,ea,hH,hq⟩:=d106;obtain⟨r,ei,hr⟩:=d108;obtain⟨ev,ec,ef⟩:=evs f;refine relUpon_value (v:= .pointer (some ⟨q,r,none⟩)) ?_ (hC.up 3) (Writes.refl _ _) ⟨q,r,rfl,hH,hr,hq⟩;go_simp;intro hx;omega
   ·intro w L f hC hLi hLd hLn ⟨d109,_⟩;refine Step2.live rfl ?_;obtain⟨q,r,ea,hH,hr,hq⟩:=d109;obtain⟨s,hs,hsM,hqq⟩:=pick_at (l:= [⟨#[116]⟩,⟨#[117]⟩]) (M:=1) (p:=(fun s=> !vtrB s.data.toList)) hH hr (by decide) (by decide);have ql:=hH.lt;obtain⟨ev,ec,ef⟩:=evs f;refine relUpon_value (v:= .string s) ?_ (hC.up 4) (Writes.refl _ _) ⟨s,rfl,hsM,by simpa[ClnW]using hqq⟩;go_simp
   ·intro w L f hC hLi hLd hLn ⟨d110,_⟩;refine Step2.live rfl ?_;obtain⟨s0,e0,h0,k0⟩:=d110;obtain⟨ev,ec,ef⟩:=evs f;refine relUpon_value (v:= .string (s0++(⟨#[91]⟩:ByteArray))) ?_ (hC.up 5) (Writes.refl _ _) ⟨_,rfl,by simp only[ByteArray.size_append];exact Nat.add_le_add h0 (by decide),ClnW.cat k0 (clnLit (by decide)) (by decide) (by decide)⟩;go_simp;omega
   ·intro w L f hC hLi hLd hLn ⟨d,_⟩;refine Step2.live rfl ?_;exact relUpon_value (v:=f 0) rfl (hC.up 6) (Writes.refl _ _) d
   ·intro w L f hC hLi hLd hLn ⟨a,_⟩;change _=_ at a;refine Step2.live rfl ?_;obtain⟨ev,ec,ef⟩:=evs f;refine relUpon_call (f:=149) (args:= #[.pointer (some ⟨g,0,none⟩),.int .i64 1]) (w:=w) (by go_simp) (msum_any 1 (by decide) b B g _ w hC.1 hl (by have:=cst_le [(2,1),(7,5),(11,5)] L;simp at this;omega)) ?_;rintro e w1 ⟨⟨s,he,hs,hq⟩,hM,hW⟩;exact⟨_,he,hC.call 7 (by simp[cst,hLi];omega) hM hW,hW,⟨s,rfl,hs,hq⟩⟩
   ·intro w L f hC hLi hLd hLn ⟨d111,d113,_⟩;refine Step2.live rfl ?_;obtain⟨s0,e0,h0,k0⟩:=d111;obtain⟨s1,e1,h1,k1⟩:=d113;obtain⟨ev,ec,ef⟩:=evs f;refine relUpon_value (v:= .string (s0++s1)) ?_ (hC.up 8) (Writes.refl _ _) ⟨_,rfl,by simp only[ByteArray.size_append];exact Nat.add_le_add h0 h1,Cln.app k0 k1⟩;go_simp;omega
   ·intro w L f hC hLi hLd hLn ⟨d114,_⟩;refine Step2.live rfl ?_;obtain⟨s0,e0,h0,k0⟩:=d114;obtain⟨ev,ec,ef⟩:=evs f;refine relUpon_value (v:= .string (s0++(⟨#[93,32,61,32]⟩:ByteArray))) ?_ (hC.up 9) (Writes.refl _ _) ⟨_,rfl,by simp only[ByteArray.size_append];exact Nat.add_le_add h0 (by decide),Cln.app k0 (clnLit (by decide))⟩;go_simp;omega
   ·intro w L f hC hLi hLd hLn ⟨d,_⟩;refine Step2.live rfl ?_;exact relUpon_value (v:=f 0) rfl (hC.up 10) (Writes.refl _ _) d
   ·intro w L f hC hLi hLd hLn ⟨a,_⟩;change _=_ at a;refine Step2.live rfl ?_;obtain⟨ev,ec,ef⟩:=evs f;refine relUpon_call (f:=149) (args:= #[.pointer (some ⟨g,0,none⟩),.int .i64 1]) (w:=w) (by go_simp) (msum_any 1 (by decide) b B g _ w hC.1 hl (by have:=cst_le [(2,1),(7,5),(11,5)] L;simp at this;omega)) ?_;rintro e w1 ⟨⟨s,he,hs,hq⟩,hM,hW⟩;exact⟨_,he,hC.call 11 (by simp[cst,hLi];omega) hM hW,hW,⟨s,rfl,hs,hq⟩⟩
   ·intro w L f hC hLi hLd hLn ⟨d115,d117,_⟩;refine Step2.live rfl ?_;obtain⟨s0,e0,h0,k0⟩:=d115;obtain⟨s1,e1,h1,k1⟩:=d117;obtain⟨ev,ec,ef⟩:=evs f;refine relUpon_value (v:= .string (s0++s1)) ?_ (hC.up 12) (Writes.refl _ _) ⟨_,rfl,by simp only[ByteArray.size_append];exact Nat.add_le_add h0 h1,Cln.app k0 k1⟩;go_simp;omega
   ·intro w L f hC hLi hLd hLn ⟨d118,_⟩;refine Step2.live rfl ?_;obtain⟨s0,e0,h0,k0⟩:=d118;obtain⟨ev,ec,ef⟩:=evs f;refine relUpon_value (v:= .string (s0++(⟨#[59,32]⟩:ByteArray))) ?_ (hC.up 13) (Writes.refl _ _) ⟨_,rfl,by simp only[ByteArray.size_append];exact Nat.add_le_add h0 (by decide),Cln.app k0 (clnLit (by decide))⟩;go_simp;omega
   ·intro w L f hC hLi hLd hLn ⟨d,_⟩;refine Step2.live rfl ?_;exact relUpon_value (v:=f 119) rfl (hC.up 14) (Writes.refl _ _) d
  intro x w' hC hV
  obtain⟨s,hs,hsM,hq⟩:=hV 14 _ rfl rfl;simp only[framed,hs];go_wp2_with fail;go_ret;exact⟨⟨s,rfl,by omega,hq⟩,hC.1.more (by have:=cst_le [(2,1),(7,5),(11,5)] fun _=>true;simp at this;omega),hC.2⟩
 have c8:((r2:Int)==8)=false:=by simp;omega
 by_cases q9:r2=9
 ·subst q9;go_wp2_with fail;refine(mnext_any b B g _ w2 hM2.out hl (by omega) 4 (by decide) (by decide)).mono ?_;rintro e w3 ⟨⟨r3,rfl,hr3⟩,hM3,hW3⟩;replace hW3:=zi (hW2.out.trans hW3);replace hM3:=zi hM3;go_wp2_with fail;refine(mivar_any b B g _ w3 hM3.out hl (by omega)).mono ?_;rintro e w4 ⟨⟨s4,rfl,hs4,hq4⟩,hM4,hW4⟩;replace hW4:=zi (hW3.out.trans hW4);replace hM4:=zi hM4;go_wp2_with fail;refine(mname_any w4 r3).mono ?_;rintro e wn ⟨⟨sn,rfl,hsn,hqn⟩,hbn⟩;have hMn:=zi (hM4.out.below hbn);have hWn:=zi (hW4.out.trans (Writes.of_below hbn _));clear hbn;go_wp2_with fail;refine(margs_any b B g _ wn hMn.out hl (by omega) r3 (by omega) kk hkk).mono ?_;rintro e wb ⟨⟨sb,rfl,hsb,hqb⟩,hMb,hWb⟩;have hE:=zi (And.intro hMb (hWn.out.trans hWb));clear hMb hWb;go_wp2_with fail;go_ret;exact⟨⟨_,rfl,by simp only[ByteArray.size_append,bs_lit,List.size_toArray,List.length_cons,List.length_nil];omega,by repeat' first|assumption|with_reducible refine Cln.app ?_ ?_|exact clnLit (by decide)⟩,hE.out.1.more (by omega),hE.out.2⟩
 have c9:((r2:Int)==9)=false:=by simp;omega
 by_cases q10:r2=10
 ·subst q10;go_wp2_with fail;refine(mnext_any b B g _ w2 hM2.out hl (by omega) 4 (by decide) (by decide)).mono ?_;rintro e w3 ⟨⟨r3,rfl,hr3⟩,hM3,hW3⟩;replace hW3:=zi (hW2.out.trans hW3);replace hM3:=zi hM3;go_wp2_with fail;refine(mivar_any b B g _ w3 hM3.out hl (by omega)).mono ?_;rintro e w4 ⟨⟨s4,rfl,hs4,hq4⟩,hM4,hW4⟩;replace hW4:=zi (hW3.out.trans hW4);replace hM4:=zi hM4;go_wp2_with fail;refine(mname_any w4 r3).mono ?_;rintro e wn ⟨⟨sn,rfl,hsn,hqn⟩,hbn⟩;have hMn:=zi (hM4.out.below hbn);have hWn:=zi (hW4.out.trans (Writes.of_below hbn _));clear hbn;go_wp2_with fail;refine(margs_any b B g _ wn hMn.out hl (by omega) r3 (by omega) kk hkk).mono ?_;rintro e wb ⟨⟨sb,rfl,hsb,hqb⟩,hMb,hWb⟩;have hE:=zi (And.intro hMb (hWn.out.trans hWb));clear hMb hWb;go_wp2_with fail;go_ret;exact⟨⟨_,rfl,by simp only[ByteArray.size_append,bs_lit,List.size_toArray,List.length_cons,List.length_nil];omega,by repeat' first|assumption|with_reducible refine Cln.app ?_ ?_|exact clnLit (by decide)⟩,hE.out.1.more (by omega),hE.out.2⟩
 have c10:((r2:Int)==10)=false:=by simp;omega
 by_cases q11:r2=11
 ·subst q11;go_wp2_with fail;refine(mnext_any b B g _ w2 hM2.out hl (by omega) 4 (by decide) (by decide)).mono ?_;rintro e w3 ⟨⟨r3,rfl,hr3⟩,hM3,hW3⟩;replace hW3:=zi (hW2.out.trans hW3);replace hM3:=zi hM3;go_wp2_with fail;refine(mname_any w3 r3).mono ?_;rintro e wn ⟨⟨sn,rfl,hsn,hqn⟩,hbn⟩;have hMn:=zi (hM3.out.below hbn);have hWn:=zi (hW3.out.trans (Writes.of_below hbn _));clear hbn;go_wp2_with fail;refine(mnext_any b B g _ wn hMn.out hl (by omega) 9 (by decide) (by decide)).mono ?_;rintro e wq ⟨⟨rq,rfl,hrq⟩,hMq,hWq⟩;replace hWq:=zi (hWn.out.trans hWq);replace hMq:=zi hMq;have cA:=zi (margs_any b B g _ wq hMq.out hl (by omega) (r3+rq/8) (by omega) kk hkk);go_wp2_with fail;refine cA.out.mono ?_;rintro e wb ⟨⟨sb,rfl,hsb,hqb⟩,hMb,hWb⟩;have hE:=zi (And.intro hMb (hWq.out.trans hWb));clear hMb hWb;go_wp2_with fail;go_ret;exact⟨⟨_,rfl,by simp only[ByteArray.size_append,bs_lit,List.size_toArray,List.length_cons,List.length_nil];omega,by repeat' first|assumption|with_reducible refine Cln.app ?_ ?_|exact clnLit (by decide)⟩,hE.out.1.more (by omega),hE.out.2⟩
 have c11:((r2:Int)==11)=false:=by simp;omega
 by_cases q12:r2=12
 ·subst q12;go_wp2_with fail;refine(msum_any 1 (by decide) b B g _ w2 hM2.out hl (by omega)).mono ?_;rintro e w3 ⟨⟨s3,rfl,hs3,hq3⟩,hM3,hW3⟩;replace hW3:=zi (hW2.out.trans hW3);replace hM3:=zi hM3;go_wp2_with fail;go_ret;exact⟨⟨_,rfl,by first|omega| (simp only[ByteArray.size_append,bs_lit,List.size_toArray,List.length_cons,List.length_nil];omega),by repeat' first|assumption|with_reducible refine Cln.app ?_ ?_|exact clnLit (by decide)⟩,hM3.out.more (by omega),hW3.out⟩
 have c12:((r2:Int)==12)=false:=by simp;omega
 by_cases q13:r2=13
 ·subst q13;go_wp2_with fail;refine(cd1 b B g _ w2 hM2.out hl (by omega) kk hkk).mono ?_;rintro e w3 ⟨⟨s3,rfl,hs3,hq3⟩,hM3,hW3⟩;replace hW3:=zi (hW2.out.trans hW3);replace hM3:=zi hM3;go_wp2_with fail;go_ret;exact⟨⟨_,rfl,by first|omega| (simp only[ByteArray.size_append,bs_lit,List.size_toArray,List.length_cons,List.length_nil];omega),by repeat' first|assumption|with_reducible refine Cln.app ?_ ?_|exact clnLit (by decide)⟩,hM3.out.more (by omega),hW3.out⟩
 have c13:((r2:Int)==13)=false:=by simp;omega
 by_cases hd0:d=0
 ·subst hd0;go_wp2_with fail;refine(mivar_any b B g _ w2 hM2.out hl (by omega)).mono ?_;rintro e w3 ⟨⟨s3,rfl,hs3,hq3⟩,hM3,hW3⟩;replace hW3:=zi (hW2.out.trans hW3);replace hM3:=zi hM3;go_wp2_with fail;refine(msum_any 1 (by decide) b B g _ w3 hM3.out hl (by omega)).mono ?_;rintro e w4 ⟨⟨s4,rfl,hs4,hq4⟩,hM4,hW4⟩;replace hW4:=zi (hW3.out.trans hW4);replace hM4:=zi hM4;go_wp2_with fail;go_ret;exact⟨⟨_,rfl,by first|omega| (simp only[ByteArray.size_append,bs_lit,List.size_toArray,List.length_cons,List.length_nil];omega),by repeat' first|assumption|with_reducible refine Cln.app ?_ ?_|exact clnLit (by decide)⟩,hM4.out.more (by omega),hW4.out⟩
 obtain⟨p,rfl⟩:∃p,d=p+1:=⟨d-1,by omega⟩;have cB:=zi (hb'.out p rfl)
 have cd:¬((p:Int)+1≤0):=by omega
 clear hb'
 have hp1:p=0∨p=1:=by omega
 obtain⟨X,hX⟩:∃x,x=SC p:=⟨_,rfl⟩;obtain⟨Y,hY⟩:∃x,x=SM p:=⟨_,rfl⟩
 have hsY:Y≤10000:=by rw[hY];rcases hp1 with rfl|rfl<;>decide
 have hsX:X≤500:=by rw[hX];rcases hp1 with rfl|rfl<;>decide
 have hSC2:SC (p+1)=6*X+80:=by rw[hX];rfl
 have hSM2:SM (p+1)=6*Y+300:=by rw[hY];rfl
 clear hp1;go_wp2_with fail;refine(mnext_any b B g _ w2 hM2.out hl (by omega) 2 (by decide) (by decide)).mono ?_;rintro e w3 ⟨⟨r3,rfl,hr3⟩,hM3,hW3⟩;replace hW3:=zi (hW2.out.trans hW3);replace hM3:=zi hM3;by_cases hq:r3=0
 ·subst hq;go_wp2_with fail;refine(cd1 b B g _ w3 hM3.out hl (by omega) kk hkk).mono ?_;rintro e w4 ⟨⟨s4,rfl,hs4,hq4⟩,hM4,hW4⟩;replace hW4:=zi (hW3.out.trans hW4);replace hM4:=zi hM4;go_wp2_with fail;refine(cB.out b B g _ w4 hM4.out hl (by omega) kk hkk).mono ?_;rintro e w5 ⟨⟨s5,rfl,hs5,hq5⟩,hM5,hW5⟩;replace hW5:=zi (hW4.out.trans hW5);replace hM5:=zi hM5;rw[←hX]at hM5;rw[←hY]at hs5;go_wp2_with fail;refine(mnext_any b B g _ w5 hM5.out hl (by omega) 2 (by decide) (by decide)).mono ?_;rintro e w6 ⟨⟨r6,rfl,hr6⟩,hM6,hW6⟩;replace hW6:=zi (hW5.out.trans hW6);replace hM6:=zi hM6;by_cases hq2:r6=0
  ·subst hq2;go_wp2_with fail;refine(cB.out b B g _ w6 hM6.out hl (by omega) kk hkk).mono ?_;rintro e w7 ⟨⟨s7,rfl,hs7,hq7⟩,hM7,hW7⟩;replace hW7:=zi (hW6.out.trans hW7);replace hM7:=zi hM7;rw[←hX]at hM7;rw[←hY]at hs7;go_wp2_with fail;go_ret;exact⟨⟨_,rfl,by first|omega| (simp only[ByteArray.size_append,bs_lit,List.size_toArray,List.length_cons,List.length_nil];omega),by repeat' first|assumption|with_reducible refine Cln.app ?_ ?_|exact clnLit (by decide)⟩,hM7.out.more (by omega),hW7.out⟩
  have cq2:((r6:Int)==0)=false:=by simp;omega
  go_wp2_with fail;go_ret;exact⟨⟨_,rfl,by first|omega| (simp only[ByteArray.size_append,bs_lit,List.size_toArray,List.length_cons,List.length_nil];omega),by repeat' first|assumption|with_reducible refine Cln.app ?_ ?_|exact clnLit (by decide)⟩,hM6.out.more (by omega),hW6.out⟩
 have cq:((r3:Int)==0)=false:=by simp;omega
 go_wp2_with fail;refine(cd1 b B g _ w3 hM3.out hl (by omega) kk hkk).mono ?_;rintro e w4 ⟨⟨s4,rfl,hs4,hq4⟩,hM4,hW4⟩;replace hW4:=zi (hW3.out.trans hW4);replace hM4:=zi hM4;go_wp2_with fail;refine(cB.out b B g _ w4 hM4.out hl (by omega) kk hkk).mono ?_;rintro e w5 ⟨⟨s5,rfl,hs5,hq5⟩,hM5,hW5⟩;replace hW5:=zi (hW4.out.trans hW5);replace hM5:=zi hM5;rw[←hX]at hM5;rw[←hY]at hs5;go_wp2_with fail;go_ret;exact⟨⟨_,rfl,by first|omega| (simp only[ByteArray.size_append,bs_lit,List.size_toArray,List.length_cons,List.length_nil];omega),by repeat' first|assumption|with_reducible refine Cln.app ?_ ?_|exact clnLit (by decide)⟩,hM5.out.more (by omega),hW5.out⟩
end Go.Proofs.YtpndglghpojjkaaGreat
