/-
  The reference's Program of one text that is no globals' text: that function alone, if it is read and resolved.
-/
import Derived.Test.YtpndglghpojjkaaGreatPua14
import Derived.Test.YtpndglghpojjkaaGreatPua10
import Derived.Test.YtpndglghpojjkaaGreatPua13
import Derived.Test.YtpndglghpojjkaaGreatVNuK
import Derived.Deep.DeepCutAuto
set_option maxRecDepth 1000000
set_option maxHeartbeats 8000000

namespace Go.Proofs.YtpndglghpojjkaaGreat
open Go.RowKit Go.Deep

def Told (r:Fnc):Prop:=∃(l u:List UInt8) (f:Fnc) (a:Nat),funcF l=(f,a,0)∧bK f u=(r,0,0)
def FnL (w:World) (v:Value):Prop:=v= .slice none 0 0∨∃q c r A1 A2 A3 n1 n2 n3 c1 c2 c3,v= .slice (some ⟨q,0,none⟩) 1 c∧Row w w.heap.size (some ⟨q,0,none⟩) [.string (ay r.nm),.slice A1 n1 c1,.slice A2 n2 c2,.slice A3 n3 c3]∧eP w Evr r (.slice A1 n1 c1) (.slice A2 n2 c2) (.slice A3 n3 c3)∧Told r
theorem FnL.below {w w':World} {v:Value} (h:FnL w v) (hb:Below w.heap.size w w'):FnL w' v:=by
 rcases h with h| ⟨q,c,r,A1,A2,A3,n1,n2,n3,c1,c2,c3,e,hr,hF,hT⟩
 ·exact .inl h
 ·exact .inr ⟨q,c,r,A1,A2,A3,n1,n2,n3,c1,c2,c3,e,(hr.below hb).more hb.size,hF.below hb,hT⟩
theorem CS.same {n m i:Nat} {w0 w:World} {F:World→Prop} {L:Nat→Bool} (h:CS n m w0 F L w) (hi:(n==i)=false):CS n m w0 F (fun k=>k==i||L k) w:=
 ⟨fun e=>h.1 (by simpa[hi]using e),fun e=>by
  have:=h.2 (by simpa[hi]using e)
  exact⟨by simp[this.1],this.2⟩⟩
theorem own4 {w:World} {base:Nat} {e:TypeId} {sz:Nat} {v:Value} {xs:List Value} (h:w.ownsRow base e sz v 1 xs):∃g c,v= .slice (some ⟨g,0,none⟩) 1 c∧Row w w.heap.size (some ⟨g,0,none⟩) xs:=by
 obtain⟨-,⟨-,h0⟩| ⟨g,cap,cur,rfl,hb,hg,hn,hcap,hs,ht⟩⟩:=h
 ·cases h0
 ·refine⟨g,cap,rfl,fun _=>⟨g,0,rfl,(Array.getElem?_eq_some_iff.1 hg).1,fun j u hu=> ?_⟩⟩;rw[Nat.zero_add,cell_of_row w g j cur e (0,0) hg];rw[←ht,List.getElem?_take]at hu;split at hu
  ·simpa using hu
  ·cases hu
theorem rowS_of {w:World} {B:Nat} {A:Option Addr} {xs:List Value} (h:Row w B A xs):bI w Evr A xs:=fun hn=>by
 obtain⟨b,off,e,-,hc⟩:=h hn;exact⟨b,off,e,trivial,hc⟩
theorem own_fresh (w:World) {base:Nat} (hb:base≤w.heap.size) {T:TypeId} {a b c d:Value}:(w.alloc (.cells #[a,b,c,d] T)).ownsRow base T 4 (.slice (some ⟨w.heap.size,0,none⟩) 1 1) 1 [a,b,c,d]:=
 ⟨rfl,.inr ⟨w.heap.size,1,#[a,b,c,d],rfl,hb,heap_alloc_new w _,by decide,by decide,rfl,rfl⟩⟩
theorem grown4 {w0 w w':World} {e:TypeId} {sz:Nat} {v:Value} {xs:List Value} (hB:Below w0.heap.size w0 w) (ho:w.ownsRow w0.heap.size e sz v 1 xs) (hg:w.grownBy w' v.ownBlock):Below w0.heap.size w0 w':=by
 obtain⟨-,⟨-,h0⟩| ⟨g,cap,cur,rfl,hb,-⟩⟩:=ho
 ·cases h0
 ·exact hB.trans ⟨hg.os,hg.tape,hg.output,hg.size,fun k hk=>hg.block k (Nat.lt_of_lt_of_le hk hB.size) (fun h=>by simp[Value.ownBlock]at h;omega)⟩
theorem Tryz.clFn:(Tryz.prog.info? 26).map (fun i=>(i.zero,i.size,i.bytes))=some (some (.agg #[.string ⟨#[]⟩,.slice none 0 0,.slice none 0 0,.slice none 0 0]),4,88):=by kernel_rfl
theorem ret_cell1 {fn:Func} {p:Tmp} {ty:TypeId} {R:Ending→World→Prop} {a:Act} {w:World} {g:Nat} {t:TypeId} {cs:Array Value} {fs:Array Field} (h:fn.results= #[.cell p ty]) (hd0:a.defers= []) (hp:a.tmps.getD p undef= .pointer (some ⟨g,0,none⟩))
  (hg:Holds w g t cs) (hu:Tryz.prog.underlying ty=some (.struct fs)) (hi:(Tryz.prog.info? ty).map (·.size)=some cs.size) (hR:R (.returned (.agg cs)) w):bodyPost Tryz.prog fn R .ret a w:=by
 refine bodyPost_ret_by (v:= .agg cs) ?_ hd0 hR
 have hp':a.tmps[p]?.getD undef= .pointer (some ⟨g,0,none⟩):=by simpa[Array.getD_eq_getD_getElem?]using hp
 simp[results,h,hp',asAddr,run_loadVar_row w g t ty cs (0,0) _ hg hu rfl hi]
theorem Tryz.sProg:(Tryz.prog.info? 97).map (·.size)=some 3:=by kernel_rfl
def ProgZ:Array Value:= #[.slice none 0 0,.slice none 0 0,.slice none 0 0]
def PEnd (w0:World) (gR gP:Nat) (w:World):Prop:=Below w0.heap.size w0 w∧Holds w gR 97 ProgZ∧∃v,Holds w gP 97 #[.slice none 0 0,.slice none 0 0,v]∧FnL w v
theorem FnL.slice {w:World} {v:Value} (h:FnL w v):∃A n c,v= .slice A n c:=by
 rcases h with h| ⟨q,c,r,A1,A2,A3,n1,n2,n3,c1,c2,c3,e,-⟩
 ·exact⟨_,_,_,h⟩
 ·exact⟨_,_,_,e⟩
theorem FnL.stored {w w':World} {v:Value} {gR:Nat} (h:FnL w v) (hR:Holds w gR 97 ProgZ) (hW:Writes [some gR] w w'):FnL w' v:=by
 rcases h with h| ⟨q,c,r,A1,A2,A3,n1,n2,n3,c1,c2,c3,e,hr,hF,hT⟩
 ·exact .inl h
 ·have hq:q≠gR:=fun e=>by obtain⟨b,off,e1,hb,hc⟩:=hr (by simp);injection e1 with e1;injection e1 with e1 e2;have h1:=hc 0 _ rfl;rw[←e1,←e2,e,hR.cell]at h1;cases h1
  exact .inr ⟨q,c,r,A1,A2,A3,n1,n2,n3,c1,c2,c3,e,(hW.row hr (Nat.le_refl _) (fun _=>by simp[blk];exact hq)).more hW.size,hF.stored (NoN.of3 hR) hW,hT⟩
theorem prog_end {w0 wq:World} {gR gP:Nat} (hl:gR<gP∧w0.heap.size≤gR) (hB:Below w0.heap.size w0 wq) (hR:Holds wq gR 97 ProgZ) (hP:Holds wq gP 97 ProgZ) {r:Fnc} {A1 A2 A3:Option Addr} {n1 n2 n3 c1 c2 c3:Nat}
  (hF:eP wq Evr r (.slice A1 n1 c1) (.slice A2 n2 c2) (.slice A3 n3 c3)) {q c:Nat} (hr:Row wq wq.heap.size (some ⟨q,0,none⟩) [.string (ay r.nm),.slice A1 n1 c1,.slice A2 n2 c2,.slice A3 n3 c3]) (hT:Told r):
  PEnd w0 gR gP (wq.setCell ⟨gP,2,none⟩ (.slice (some ⟨q,0,none⟩) 1 c)):=by
 have hW:Writes [some gP] wq (wq.setCell ⟨gP,2,none⟩ (.slice (some ⟨q,0,none⟩) 1 c)):=Writes.store wq (by simp) _
 have hq:q≠gP:=fun e=>by obtain⟨b,off,e1,hb,hc⟩:=hr (by simp);injection e1 with e1;injection e1 with e1 e2;have h1:=hc 0 _ rfl;rw[←e1,←e2,e,hP.cell]at h1;cases h1
 refine⟨hB.trans (hW.below hB.size (fun k hk=>by simp at hk;omega)),hW.holds hR (by simp;omega),_,hP.store 2 _,.inr ⟨q,c,r,A1,A2,A3,n1,n2,n3,c1,c2,c3,rfl,?_,hF.stored (NoN.of3 hP) hW,hT⟩⟩;exact(hW.row hr (Nat.le_refl _) (fun _=>by simp[blk];exact hq)).more hW.size
set_option maxHeartbeats 4000000 in
theorem program_one (w:World) (q:Nat) (u:List UInt8) (t:ByteArray) (hu:u.length≤1) (ht:t.size≤100000) (h0:w.cell? ⟨q,0,none⟩=some (.string (ay u))) (h1:w.cell? ⟨q,1,none⟩=some (.string t)):
  Calls Tryz.prog 48 #[.slice (some ⟨q,0,none⟩) 1 1] w fun e w'=>∃v,e= .returned (.agg #[.slice none 0 0,.slice none 0 0,v])∧FnL w' v∧Below w.heap.size w w':=by
 have hql:=lt_of_cell h0
 have e1:((ay u).toList== [103,108,111,98,97,108,115])=false:=by rw[aH];simp only[beq_eq_false_iff_ne,ne_eq];intro h;rw[h]at hu;exact absurd hu (by decide)
 have hb1:=aA w (.cells ProgZ 97);have hH1:=Holds.new w 97 ProgZ;obtain⟨w1,hw1⟩:∃y,y=w.alloc (.cells ProgZ 97):=⟨_,rfl⟩;obtain⟨gR,hgR⟩:∃y,y=w.heap.size:=⟨_,rfl⟩;rw[←hw1]at hb1 hH1;rw[←hgR]at hH1;have hb2:=aA w1 (.cells ProgZ 97);have hH2:=Holds.new w1 97 ProgZ;obtain⟨w2,hw2⟩:∃y,y=w1.alloc (.cells ProgZ 97):=⟨_,rfl⟩
 obtain⟨gP,hgP⟩:∃y,y=w1.heap.size:=⟨_,rfl⟩;rw[←hw2]at hb2 hH2;rw[←hgP]at hH2;have hB2:=Za (hb1.trans (hb2.mono hb1.size));have hR2:=Za (hH1.below hb2 hH1.lt);have hP2:=Za hH2;have hlt:Hid (gR<gP∧w.heap.size≤gR):=Za ⟨by rw[hgP];exact hH1.lt,by omega⟩
 have hf2:Hid ((w.alloc (.cells #[.slice none 0 0,.slice none 0 0,.slice none 0 0] 97)).alloc (.cells #[.slice none 0 0,.slice none 0 0,.slice none 0 0] 97)=w2):=Za (by rw[hw2,hw1];rfl);have hg2:Hid (w.heap.size+1=gP∧w.heap.size=gR):=Za ⟨by rw[hgP,hw1];simp,hgR.symm⟩;have h0':=Za h0;have h1':=Za h1;clear hb1 hH1 hb2 hH2 hw1 hw2 hgR hgP h0 h1
 go_enter Tryz.func48,Tryz.ntmps48;go_wp2_with fail;rw[hf2.out,hg2.out.1,hg2.out.2];go_loopw [4] (fun i wl=>(i= .int .i64 0∧Hid (wl=w2))∨(i= .int .i64 1∧Hid (PEnd w gR gP wl))) (fun i _=>1-(intOf i).toNat)
 case atStart=>exact .inl ⟨rfl,Za rfl⟩
 rename World=>wl;rcases hrel with⟨rfl,hw⟩| ⟨rfl,hE⟩
 ·obtain rfl:=hw.out;clear hw;obtain⟨fz,a,b,zn⟩:∃f a b,funcF t.data.toList=(f,a,b):=⟨_,_,_,rfl⟩
  have hwf:WfS fz.body:=by have:=(xQ t.data.toList).body;rw[zn]at this;exact this
  have cF:=Za ((rV wl t (Nat.le_trans ht (by decide))).mono fun e w' h=>(h.out zn).num);have p0:wl.cell? ⟨q,0,none⟩=some (.string (ay u)):=(hB2.out.cell (p:=⟨q,0,none⟩) hql).trans h0'.out;have p1:wl.cell? ⟨q,1,none⟩=some (.string t):=(hB2.out.cell (p:=⟨q,1,none⟩) hql).trans h1'.out;have hql2:q<wl.heap.size:=Nat.lt_of_lt_of_le hql hB2.out.size
  have D7:=Za zn;have hwf':=Za hwf;clear zn hwf;go_wp2_with fail;refine cF.out.mono ?_;clear cF p0 p1 hql2;rintro e w5 ⟨A1,A2,A3,An1,An2,An3,Ac1,Ac2,Ac3,rfl,hF5,hb5⟩;have hX5:=jH.new hF5;have hbn:=aA w5 (.cells #[.string (ay fz.nm),.slice A1 An1 Ac1,.slice A2 An2 Ac2,.slice A3 An3 Ac3] 26)
  obtain⟨w6,hw5⟩:∃x,x=w5.alloc (.cells #[.string (ay fz.nm),.slice A1 An1 Ac1,.slice A2 An2 Ac2,.slice A3 An3 Ac3] 26):=⟨_,rfl⟩;obtain⟨g6,hg5⟩:∃x,x=w5.heap.size:=⟨_,rfl⟩;rw[←hw5,←hg5]at hX5;rw[←hw5]at hbn;have hst5:=hb5.trans (hbn.mono hb5.size);have hB6:=Za (hB2.out.trans (hst5.mono hB2.out.size));have hY5:=Za hX5
  have hR6:=Za (hR2.out.below hst5 hR2.out.lt);have hP6:=Za (hP2.out.below hst5 hP2.out.lt);have hfo:=Za hw5.symm;have hgo:=Za hg5.symm;have hg6:=Za (And.intro (show w.heap.size≤g6 by rw[hg5];exact(hB2.out.trans (hb5.mono hB2.out.size)).size) (show gP<g6 by rw[hg5];exact Nat.lt_of_lt_of_le hP2.out.lt hb5.size));clear hF5 hb5 hbn hst5 hw5 hg5 hX5
  have hend:Hid (PEnd w gR gP w6):=Za ⟨hB6.out,hR6.out,_,hP6.out,.inl rfl⟩;go_upto_region 10 with(fail);rw[hfo.out,hgo.out];clear hfo hgo;by_cases hb0:b=0
  case neg=>
   have hbb:((b:Int) !=0)=true:=by simp;omega
   go_wp2_with fail;exact⟨.inr ⟨rfl,hend⟩,by simp[intOf]⟩
  subst hb0;obtain⟨⟨r,ra,rb⟩,hr⟩:∃y,y=bK fz u:=⟨_,rfl⟩;have hr':=Za hr.symm;clear hr;obtain⟨q0,q1,q2,q3,ql⟩:=hY5.out.facts;have p0:w6.cell? ⟨q,0,none⟩=some (.string (ay u)):=(hB6.out.cell (p:=⟨q,0,none⟩) hql).trans h0'.out;have hql2:q<w6.heap.size:=Nat.lt_of_lt_of_le hql hB6.out.size;go_upto_region 11 with(fail)
  obtain⟨wW,hwW⟩:∃y,y=w6.drew:=⟨_,rfl⟩
  have hbd:Below w6.heap.size w6 wW:=by rw[hwW];exact(Below.refl _ w6).drew
  have hgo:Hid (Below wW.heap.size wW w6.drew):=Za (by rw[←hwW];exact Below.refl _ _);have hYW:=Za (hY5.out.below hbd);have hRW:=Za (hR6.out.below hbd hR6.out.lt);have hPW:=Za (hP6.out.below hbd hP6.out.lt);have hBW:=Za (hB6.out.trans (hbd.mono hB6.out.size))
  have hqW:=Za (show wW.cell? ⟨q,0,none⟩=some (.string (ay u))from(hbd.cell (p:=⟨q,0,none⟩) hql2).trans p0);have hqlW:=Za (Nat.lt_of_lt_of_le hql2 hbd.size)
  have hfc:Hid (∀w',Below wW.heap.size wW w'→(w'.cell? ⟨g6,0,none⟩=some (.string (ay fz.nm))∧w'.cell? ⟨g6,1,none⟩=some (.slice A1 An1 Ac1)∧w'.cell? ⟨g6,2,none⟩=some (.slice A2 An2 Ac2)∧w'.cell? ⟨g6,3,none⟩=some (.slice A3 An3 Ac3)∧g6<w'.heap.size)∧w'.cell? ⟨q,0,none⟩=some (.string (ay u))∧q<w'.heap.size):=Za fun w' hb=>⟨(hYW.out.below hb).facts,(hb.cell (p:=⟨q,0,none⟩) hqlW.out).trans hqW.out,Nat.lt_of_lt_of_le hqlW.out hb.size⟩
  have hfz:Hid (∀w' i,Below wW.heap.size wW w'→w'.frozen? ⟨g6,i,none⟩=false):=Za fun w' i hb=>(hYW.out.h.below hb hYW.out.h.lt).frozen i
  have hcall:Hid (∀w',Below wW.heap.size wW w'→Calls Tryz.prog 11 #[.agg #[.string (ay fz.nm),.slice A1 An1 Ac1,.slice A2 An2 Ac2,.slice A3 An3 Ac3],.string (ay u)] w' (EF r ra rb w')):=Za fun w' hb=>jQ (w:=w') hwf'.out hr'.out (hYW.out.below hb).at_;clear q0 q1 q2 q3 ql p0 hql2 hwW hbd hY5 hR6 hP6
  refine aC ((eqv (.agg #[.string (ay fz.nm),.slice A1 An1 Ac1,.slice A2 An2 Ac2,.slice A3 An3 Ac3]))::(eqv (.slice (some ⟨q,0,none⟩) 1 1))::(eqv (.int .i64 0))::(eqv (.pointer (some ⟨q,0,none⟩)))::(eqv (.pointer (some ⟨q,0,none⟩)))::(eqv (.string (ay u)))::(fun L w v=>∃B1 B2 B3 Bn1 Bn2 Bn3 Bc1 Bc2 Bc3,v= .tuple #[.agg #[.string (ay r.nm),.slice B1 Bn1 Bc1,.slice B2 Bn2 Bc2,.slice B3 Bn3 Bc3],.int .i64 ra,.int .i64 rb]∧(L 11=false→eP w Evr r (.slice B1 Bn1 Bc1) (.slice B2 Bn2 Bc2) (.slice B3 Bn3 Bc3)))::(fun L w v=>∃B1 B2 B3 Bn1 Bn2 Bn3 Bc1 Bc2 Bc3,v= .tuple #[.agg #[.string (ay r.nm),.slice B1 Bn1 Bc1,.slice B2 Bn2 Bc2,.slice B3 Bn3 Bc3],.int .i64 ra,.int .i64 rb]∧(L 11=false→eP w Evr r (.slice B1 Bn1 Bc1) (.slice B2 Bn2 Bc2) (.slice B3 Bn3 Bc3)))::(fun L w v=>∃B1 B2 B3 Bn1 Bn2 Bn3 Bc1 Bc2 Bc3,v= .agg #[.string (ay r.nm),.slice B1 Bn1 Bc1,.slice B2 Bn2 Bc2,.slice B3 Bn3 Bc3]∧(L 11=false→eP w Evr r (.slice B1 Bn1 Bc1) (.slice B2 Bn2 Bc2) (.slice B3 Bn3 Bc3)))::(eqv (.int .i64 ra))::(eqv (.int .i64 rb))::(fun _ _ _=>True)::(eqv (.int .i64 rb))::[])
   (⟨[(8,none)],0,[11]⟩::⟨[(0,none)],0,[11]⟩::⟨[(4,none)],0,[11]⟩::⟨[(57,some 1),(58,some 2)],0,[11]⟩::⟨[(59,some 3)],0,[11]⟩::⟨[(60,some 4)],0,[11]⟩::⟨[(56,some 0),(61,some 5)],0,[11]⟩::⟨[(62,some 6)],0,[11]⟩::⟨[(55,some 7)],0,[11]⟩::(rd1 55 7)::(rd1 55 7)::⟨[(8,none),(63,some 8)],0,[]⟩::(rd1 65 10)::[])
   (no::no::no::no::no::no::no::no::no::no::so 12::no::no::no::no::no::no::no::no::no::no::no::no::no::no::no::no::no::no::no::no::no::no::no::no::no::no::no::no::no::no::no::no::no::no::no::no::no::no::no::no::no::no::no::no::so 7::so 0::so 1::so 2::so 3::so 4::so 5::so 6::so 8::so 9::so 10::[])
   (fun L w'=>CS 11 6 wW (fun w'=>∃wq B1 B2 B3 Bn1 Bn2 Bn3 Bc1 Bc2 Bc3,Below wW.heap.size wW wq∧eP wq Evr r (.slice B1 Bn1 Bc1) (.slice B2 Bn2 Bc2) (.slice B3 Bn3 Bc3)∧w'=((((wq.setCell ⟨g6,0,none⟩ (.string (ay r.nm))).setCell ⟨g6,1,none⟩ (.slice B1 Bn1 Bc1)).setCell ⟨g6,2,none⟩ (.slice B2 Bn2 Bc2)).setCell ⟨g6,3,none⟩ (.slice B3 Bn3 Bc3))) L w') (fun i w w'=>i≠11→Below w.heap.size w w') ?mixK11prog11 ?okK11prog11 ?tabK11prog11 ?frK11prog11 ?inK11prog11 ?keptK11prog11 ?startK11prog11 ?eachK11prog11 ?finK11prog11
  case mixK11prog11|okK11prog11|tabK11prog11|frK11prog11=>kernel_rfl
  case inK11prog11=>rfl
  case keptK11prog11=>exact⟨fun _ _ _ _ _ _ _ _ _ _ _ h=>h,fun _ _ _ _ _ _ _ _ _ _ _ h=>h,fun _ _ _ _ _ _ _ _ _ _ _ h=>h,fun _ _ _ _ _ _ _ _ _ _ _ h=>h,fun _ _ _ _ _ _ _ _ _ _ _ h=>h,fun _ _ _ _ _ _ _ _ _ _ _ h=>h,fun i hne hr L w w' v hLi hC hC' hG ⟨B1,B2,B3,Bn1,Bn2,Bn3,Bc1,Bc2,Bc3,e,h⟩=>⟨B1,B2,B3,Bn1,Bn2,Bn3,Bc1,Bc2,Bc3,e,fun h1=>by
     simp only[Bool.or_eq_false_iff,beq_eq_false_iff_ne]at h1
     exact(h h1.2).below (hG fun e=>h1.1 e.symm)⟩,fun i hne hr L w w' v hLi hC hC' hG ⟨B1,B2,B3,Bn1,Bn2,Bn3,Bc1,Bc2,Bc3,e,h⟩=>⟨B1,B2,B3,Bn1,Bn2,Bn3,Bc1,Bc2,Bc3,e,fun h1=>by
     simp only[Bool.or_eq_false_iff,beq_eq_false_iff_ne]at h1
     exact(h h1.2).below (hG fun e=>h1.1 e.symm)⟩,fun i hne hr L w w' v hLi hC hC' hG ⟨B1,B2,B3,Bn1,Bn2,Bn3,Bc1,Bc2,Bc3,e,h⟩=>⟨B1,B2,B3,Bn1,Bn2,Bn3,Bc1,Bc2,Bc3,e,fun h1=>by
     simp only[Bool.or_eq_false_iff,beq_eq_false_iff_ne]at h1
     exact(h h1.2).below (hG fun e=>h1.1 e.symm)⟩,fun _ _ _ _ _ _ _ _ _ _ _ h=>h,fun _ _ _ _ _ _ _ _ _ _ _ h=>h,fun _ _ _ _ _ _ _ _ _ _ _ h=>h,fun _ _ _ _ _ _ _ _ _ _ _ h=>h,trivial⟩
  case startK11prog11=>exact⟨fun _=>hgo.out,fun e=>by simp at e⟩
  case eachK11prog11=>
   repeat' first|exact trivial|refine And.intro ?_ ?_
   ·intro w L f hC hLi hLd hLn ⟨a,_⟩;change _=_ at a;refine au.live rfl ?_;obtain⟨⟨x0,x1,x2,x3,xl⟩,x5,x6⟩:=hfc.out w (hC.bel (hLn 11 (by simp)));obtain⟨ev,ec,ef⟩:=evs f;refine aj ?_ (hC.same (i:=0) (by decide)) (fun _=>Below.refl _ _) rfl;go_simp
   ·intro w L f hC hLi hLd hLn ⟨d,_⟩;refine au.live rfl ?_;exact aj (v:=f 0) rfl (hC.same (i:=1) (by decide)) (fun _=>Below.refl _ _) d
   ·intro w L f hC hLi hLd hLn ⟨d,_⟩;refine au.live rfl ?_;exact aj (v:=f 4) rfl (hC.same (i:=2) (by decide)) (fun _=>Below.refl _ _) d
   ·intro w L f hC hLi hLd hLn ⟨a,b,_⟩;change _=_ at a b;refine au.live rfl ?_;obtain⟨⟨x0,x1,x2,x3,xl⟩,x5,x6⟩:=hfc.out w (hC.bel (hLn 11 (by simp)));obtain⟨ev,ec,ef⟩:=evs f;refine aj ?_ (hC.same (i:=3) (by decide)) (fun _=>Below.refl _ _) rfl;go_simp
   ·intro w L f hC hLi hLd hLn ⟨a,_⟩;change _=_ at a;refine au.live rfl ?_;obtain⟨⟨x0,x1,x2,x3,xl⟩,x5,x6⟩:=hfc.out w (hC.bel (hLn 11 (by simp)));obtain⟨ev,ec,ef⟩:=evs f;refine aj ?_ (hC.same (i:=4) (by decide)) (fun _=>Below.refl _ _) rfl;go_simp
   ·intro w L f hC hLi hLd hLn ⟨a,_⟩;change _=_ at a;refine au.live rfl ?_;obtain⟨⟨x0,x1,x2,x3,xl⟩,x5,x6⟩:=hfc.out w (hC.bel (hLn 11 (by simp)));obtain⟨ev,ec,ef⟩:=evs f;refine aj ?_ (hC.same (i:=5) (by decide)) (fun _=>Below.refl _ _) rfl;go_simp
   ·intro w L f hC hLi hLd hLn ⟨a,b,_⟩;change _=_ at a b;refine au.live rfl ?_;obtain⟨ev,ec,ef⟩:=evs f;refine aF (f:=11) (args:= #[.agg #[.string (ay fz.nm),.slice A1 An1 Ac1,.slice A2 An2 Ac2,.slice A3 An3 Ac3],.string (ay u)]) (w:=w) (by go_simp) (hcall.out w (hC.bel (hLn 11 (by simp)))) ?_;rintro e w1 ⟨B1,B2,B3,Bn1,Bn2,Bn3,Bc1,Bc2,Bc3,he,hF,hB⟩;exact⟨_,he,hC.go (i:=6) (hLn 11 (by simp)) (by decide) hB,fun _=>hB,B1,B2,B3,Bn1,Bn2,Bn3,Bc1,Bc2,Bc3,rfl,fun _=>hF⟩
   ·intro w L f hC hLi hLd hLn ⟨d62,_⟩;refine au.live rfl ?_;obtain⟨B1,B2,B3,Bn1,Bn2,Bn3,Bc1,Bc2,Bc3,e62,h62⟩:=d62;obtain⟨ev,ec,ef⟩:=evs f;refine aj (v:= .tuple #[.agg #[.string (ay r.nm),.slice B1 Bn1 Bc1,.slice B2 Bn2 Bc2,.slice B3 Bn3 Bc3],.int .i64 ra,.int .i64 rb]) ?_ (hC.same (i:=7) (by decide)) (fun _=>Below.refl _ _) ⟨B1,B2,B3,Bn1,Bn2,Bn3,Bc1,Bc2,Bc3,rfl,fun h=>h62 (by simpa using h)⟩;go_simp
   ·intro w L f hC hLi hLd hLn ⟨d55,_⟩;refine au.live rfl ?_;obtain⟨B1,B2,B3,Bn1,Bn2,Bn3,Bc1,Bc2,Bc3,e55,h55⟩:=d55;obtain⟨ev,ec,ef⟩:=evs f;refine aj (v:= .agg #[.string (ay r.nm),.slice B1 Bn1 Bc1,.slice B2 Bn2 Bc2,.slice B3 Bn3 Bc3]) ?_ (hC.same (i:=8) (by decide)) (fun _=>Below.refl _ _) ⟨B1,B2,B3,Bn1,Bn2,Bn3,Bc1,Bc2,Bc3,rfl,fun h=>h55 (by simpa using h)⟩;go_simp
   ·intro w L f hC hLi hLd hLn ⟨d55,_⟩;refine au.live rfl ?_;obtain⟨B1,B2,B3,Bn1,Bn2,Bn3,Bc1,Bc2,Bc3,e55,h55⟩:=d55;obtain⟨ev,ec,ef⟩:=evs f;refine aj ?_ (hC.same (i:=9) (by decide)) (fun _=>Below.refl _ _) rfl;go_simp
   ·intro w L f hC hLi hLd hLn ⟨d55,_⟩;refine au.live rfl ?_;obtain⟨B1,B2,B3,Bn1,Bn2,Bn3,Bc1,Bc2,Bc3,e55,h55⟩:=d55;obtain⟨ev,ec,ef⟩:=evs f;refine aj ?_ (hC.same (i:=10) (by decide)) (fun _=>Below.refl _ _) rfl;go_simp
   ·intro w L f hC hLi hLd hLn ⟨a,d63,_⟩;change _=_ at a;refine au.live rfl ?_;obtain⟨B1,B2,B3,Bn1,Bn2,Bn3,Bc1,Bc2,Bc3,e63,h63⟩:=d63;obtain⟨⟨x0,x1,x2,x3,xl⟩,x5,x6⟩:=hfc.out w (hC.bel hLi);have z0:=hfz.out w 0 (hC.bel hLi);have z1:=hfz.out w 1 (hC.bel hLi);have z2:=hfz.out w 2 (hC.bel hLi);have z3:=hfz.out w 3 (hC.bel hLi);obtain⟨ev,ec,ef⟩:=evs f;refine dK (w':=((((w.setCell ⟨g6,0,none⟩ (.string (ay r.nm))).setCell ⟨g6,1,none⟩ (.slice B1 Bn1 Bc1)).setCell ⟨g6,2,none⟩ (.slice B2 Bn2 Bc2)).setCell ⟨g6,3,none⟩ (.slice B3 Bn3 Bc3))) ?_ (CS.last (hLd 6 (by decide)) ⟨w,B1,B2,B3,Bn1,Bn2,Bn3,Bc1,Bc2,Bc3,hC.bel hLi,h63 hLi,rfl⟩) (fun h=>absurd rfl h) trivial;go_simp
   ·intro w L f hC hLi hLd hLn ⟨d,_⟩;refine au.live rfl ?_;exact aj (v:=f 65) rfl (hC.same (i:=12) (by decide)) (fun _=>Below.refl _ _) d
  intro x w' hC hV

  obtain⟨wq,B1,B2,B3,Bn1,Bn2,Bn3,Bc1,Bc2,Bc3,hbq,hFq,rfl⟩:=(hC.2 rfl).2;have h10:x 12= .int .i64 rb:=hV 12 _ rfl rfl;simp only[framed,h10];have hbw:=hBW.out.trans (hbq.mono hBW.out.size);have hHq:=hYW.out.h.below hbq hYW.out.h.lt;have hZ:=dU wq g6 (.string (ay r.nm)) (.slice B1 Bn1 Bc1) (.slice B2 Bn2 Bc2) (.slice B3 Bn3 Bc3);have hgg:=hg6.out;have hgl:=hlt.out
  have hF7:=hFq.stored (NoN.of rfl rfl rfl rfl hHq) hZ;have hH7:=hHq.vP (.string (ay r.nm)) (.slice B1 Bn1 Bc1) (.slice B2 Bn2 Bc2) (.slice B3 Bn3 Bc3);have hR7:=hZ.holds (hRW.out.below hbq hRW.out.lt) (by simp;omega);have hP7:=hZ.holds (hPW.out.below hbq hPW.out.lt) (by simp;omega);have hB7:=hbw.trans (hZ.below hbw.size (fun k hk=>by simp at hk;omega))
  obtain⟨w7,hw7⟩:∃y,y=(((wq.setCell ⟨g6,0,none⟩ (.string (ay r.nm))).setCell ⟨g6,1,none⟩ (.slice B1 Bn1 Bc1)).setCell ⟨g6,2,none⟩ (.slice B2 Bn2 Bc2)).setCell ⟨g6,3,none⟩ (.slice B3 Bn3 Bc3):=⟨_,rfl⟩;rw[←hw7]at hF7 hH7 hR7 hP7 hB7⊢;have hY7:=Za (show jH g6 r B1 B2 B3 Bn1 Bn2 Bn3 Bc1 Bc2 Bc3 w7 from⟨hH7,hF7⟩);replace hR7:=Za hR7;replace hP7:=Za hP7
  replace hB7:=Za hB7;clear hw7 hF7 hH7 hZ hHq hbw hbq hFq hfc hfz hcall hqW hqlW hYW hRW hPW hBW hend hgo h10 hC hV;by_cases hb1:rb=0
  case neg=>
   have hbb:((rb:Int) !=0)=true:=by simp;omega
   have hend:Hid (PEnd w gR gP w7):=Za ⟨hB7.out,hR7.out,_,hP7.out,.inl rfl⟩;go_wp2_with fail;exact⟨.inr ⟨rfl,hend⟩,by simp[intOf]⟩
  subst hb1;have p2:w7.cell? ⟨gP,2,none⟩=some (.slice none 0 0):=hP7.out.cell 2;have pl:=hP7.out.lt;go_wp2_with fail;go_loopw [11] (fun i wl=>i= .int .i64 0∧Hid (wl=w7)) (fun _ _=>0)
  case atStart=>exact⟨rfl,Za rfl⟩
  obtain⟨rfl,hw⟩:=hrel;rename World=>w8;obtain rfl:=hw.out;clear hw;go_wp2_with fail;go_quiet (fail);obtain⟨w9,hw9⟩:∃z,z=w8.drewN nq:=⟨_,rfl⟩
  have hb9:Below w8.heap.size w8 w9:=by rw[hw9];exact below_drewN (Below.refl _ _) nq
  rw[←hw9];have hY9:=Za (hY7.out.below hb9);have hR9:=Za (hR7.out.below hb9 hR7.out.lt);have hP9:=Za (hP7.out.below hb9 hP7.out.lt);have hB9:=Za (hB7.out.trans (hb9.mono hB7.out.size));clear hw9 hb9 hY7 hR7 hP7 hB7 p2 pl;go_upto_region 16 with(fail);obtain⟨iA,hiA,hzA0,hzA1,hzA2⟩:=info_parts Tryz.clFn;obtain⟨wW,hwW⟩:∃y,y=w9.drew:=⟨_,rfl⟩
  have hbd:Below w9.heap.size w9 wW:=by rw[hwW];exact(Below.refl _ w9).drew
  have hgo:Hid (Below wW.heap.size wW w9.drew):=Za (by rw[←hwW];exact Below.refl _ _);have hYW:=Za (hY9.out.below hbd);have hRW:=Za (hR9.out.below hbd hR9.out.lt);have hPW:=Za (hP9.out.below hbd hP9.out.lt);have hBW:=Za (hB9.out.trans (hbd.mono hB9.out.size))
  have hfc:Hid (∀w',Below wW.heap.size wW w'→(w'.cell? ⟨g6,0,none⟩=some (.string (ay r.nm))∧w'.cell? ⟨g6,1,none⟩=some (.slice B1 Bn1 Bc1)∧w'.cell? ⟨g6,2,none⟩=some (.slice B2 Bn2 Bc2)∧w'.cell? ⟨g6,3,none⟩=some (.slice B3 Bn3 Bc3)∧g6<w'.heap.size)∧w'.cell? ⟨gP,2,none⟩=some (.slice none 0 0)∧gP<w'.heap.size):=Za fun w' hb=>⟨(hYW.out.below hb).facts,(hPW.out.below hb hPW.out.lt).cell 2,(hPW.out.below hb hPW.out.lt).lt⟩
  have hfz:Hid (∀w' i,Below wW.heap.size wW w'→w'.frozen? ⟨gP,i,none⟩=false):=Za fun w' i hb=>(hPW.out.below hb hPW.out.lt).frozen i;clear hwW hbd hY9 hR9 hP9 hB9
  refine aC ((eqv (.pointer (some ⟨gP,2,none⟩)))::(eqv (.slice none 0 0))::(eqv (.int .i64 0))::(eqv (.int .i64 0))::(eqv (.slice none 0 0))::(eqv (.agg #[.string (ay r.nm),.slice B1 Bn1 Bc1,.slice B2 Bn2 Bc2,.slice B3 Bn3 Bc3]))::(fun L w v=>L 11=false→w.ownsRow wW.heap.size 26 4 v 1 [.string (ay r.nm),.slice B1 Bn1 Bc1,.slice B2 Bn2 Bc2,.slice B3 Bn3 Bc3])::(eqv (.pointer (some ⟨gP,2,none⟩)))::(eqv (.slice none 0 0))::(eqv (.int .i64 0))::(eqv (.slice none 0 0))::(fun L w v=>L 11=true∧(L 12=false→w.ownsRow wW.heap.size 26 4 v 1 [.string (ay r.nm),.slice B1 Bn1 Bc1,.slice B2 Bn2 Bc2,.slice B3 Bn3 Bc3]))::(fun L w v=>L 12=true∧(L 14=false→w.ownsRow wW.heap.size 26 4 v 1 [.string (ay r.nm),.slice B1 Bn1 Bc1,.slice B2 Bn2 Bc2,.slice B3 Bn3 Bc3]))::(eqv (.pointer (some ⟨gP,2,none⟩)))::(fun _ _ _=>True)::[])
   (⟨[(3,none)],0,[14]⟩::⟨[(87,some 0)],0,[14]⟩::⟨[(11,none)],0,[14]⟩::⟨[(11,none)],0,[14]⟩::⟨[(88,some 1),(89,some 2),(90,some 3)],0,[14]⟩::⟨[(8,none)],0,[14]⟩::⟨[(92,some 5)],0,[14]⟩::⟨[(3,none)],0,[14]⟩::⟨[(94,some 7)],0,[14]⟩::⟨[(11,none)],0,[14]⟩::⟨[(95,some 8),(96,some 9)],0,[14]⟩::⟨[(93,some 6),(97,some 10)],0,[14]⟩::⟨[(91,some 4),(98,some 11)],0,[14]⟩::⟨[(3,none)],0,[14]⟩::⟨[(100,some 13),(99,some 12)],0,[]⟩::[])
   (no::no::no::no::no::no::no::no::no::no::no::no::no::no::no::no::no::no::no::no::no::no::no::no::no::no::no::no::no::no::no::no::no::no::no::no::no::no::no::no::no::no::no::no::no::no::no::no::no::no::no::no::no::no::no::no::no::no::no::no::no::no::no::no::no::no::no::no::no::no::no::no::no::no::no::no::no::no::no::no::no::no::no::no::no::no::no::so 0::so 1::so 2::so 3::so 4::so 5::so 6::so 7::so 8::so 9::so 10::so 11::so 12::so 13::[])
   (fun L w'=>CS 14 12 wW (fun w'=>∃v wq,Below wW.heap.size wW wq∧wq.ownsRow wW.heap.size 26 4 v 1 [.string (ay r.nm),.slice B1 Bn1 Bc1,.slice B2 Bn2 Bc2,.slice B3 Bn3 Bc3]∧w'=wq.setCell ⟨gP,2,none⟩ v) L w'∧(L 12=true→L 11=true)) (fun i w w'=>i≠11→i≠14→Below w.heap.size w w') ?mixK16prog16 ?okK16prog16 ?tabK16prog16 ?frK16prog16 ?inK16prog16 ?keptK16prog16 ?startK16prog16 ?eachK16prog16 ?finK16prog16
  case mixK16prog16|okK16prog16|tabK16prog16|frK16prog16=>kernel_rfl
  case inK16prog16=>rfl
  case keptK16prog16=>exact⟨fun _ _ _ _ _ _ _ _ _ _ _ h=>h,fun _ _ _ _ _ _ _ _ _ _ _ h=>h,fun _ _ _ _ _ _ _ _ _ _ _ h=>h,fun _ _ _ _ _ _ _ _ _ _ _ h=>h,fun _ _ _ _ _ _ _ _ _ _ _ h=>h,fun _ _ _ _ _ _ _ _ _ _ _ h=>h,fun i hne hr L w w' v hLi hC hC' hG h h1=>by
     simp only[Bool.or_eq_false_iff,beq_eq_false_iff_ne]at h1
     have n14:i≠14:=fun e=>by subst e;have h2:=(hC'.1.2 (by simp)).1;have h3:=hC.2 (by simpa using h2);rw[h1.2]at h3;cases h3
     exact own_below (h h1.2) (hG (fun e=>h1.1 e.symm) n14),fun _ _ _ _ _ _ _ _ _ _ _ h=>h,fun _ _ _ _ _ _ _ _ _ _ _ h=>h,fun _ _ _ _ _ _ _ _ _ _ _ h=>h,fun _ _ _ _ _ _ _ _ _ _ _ h=>h,fun i hne hr L w w' v hLi hC hC' hG h=>⟨by simp[h.1],fun h1=>by
     simp only[Bool.or_eq_false_iff,beq_eq_false_iff_ne]at h1
     have n14:i≠14:=fun e=>by subst e;have h2:=(hC'.1.2 (by simp)).1;simp[h1.2]at h2
     exact own_below (h.2 h1.2) (hG hne n14)⟩,fun i hne hr L w w' v hLi hC hC' hG h=>⟨by simp[h.1],fun h1=>by
     simp only[Bool.or_eq_false_iff,beq_eq_false_iff_ne]at h1
     have n11:i≠11:=fun e=>by subst e;have:=hC.2 h.1;rw[hLi]at this;cases this
     exact own_below (h.2 h1.2) (hG n11 fun e=>h1.1 e.symm)⟩,fun _ _ _ _ _ _ _ _ _ _ _ h=>h,fun _ _ _ _ _ _ _ _ _ _ _ h=>h,trivial⟩
  case startK16prog16=>exact⟨⟨fun _=>hgo.out,fun e=>by simp at e⟩,fun e=>by simp at e⟩
  case eachK16prog16=>
   repeat' first|exact trivial|refine And.intro ?_ ?_
   ·intro w L f hC hLi hLd hLn ⟨a,_⟩;change _=_ at a;refine au.live rfl ?_;obtain⟨⟨x0,x1,x2,x3,xl⟩,x5,x6⟩:=hfc.out w (hC.1.bel (hLn 14 (by simp)));obtain⟨ev,ec,ef⟩:=evs f;refine aj ?_ (⟨hC.1.same (i:=0) (by decide),fun h=>by simp at h⊢;exact hC.2 h⟩) (fun _ _=>Below.refl _ _) rfl;go_simp
   ·intro w L f hC hLi hLd hLn ⟨a,_⟩;change _=_ at a;refine au.live rfl ?_;obtain⟨⟨x0,x1,x2,x3,xl⟩,x5,x6⟩:=hfc.out w (hC.1.bel (hLn 14 (by simp)));obtain⟨ev,ec,ef⟩:=evs f;refine aj ?_ (⟨hC.1.same (i:=1) (by decide),fun h=>by simp at h⊢;exact hC.2 h⟩) (fun _ _=>Below.refl _ _) rfl;go_simp
   ·intro w L f hC hLi hLd hLn ⟨d,_⟩;refine au.live rfl ?_;exact aj (v:=f 11) rfl (⟨hC.1.same (i:=2) (by decide),fun h=>by simp at h⊢;exact hC.2 h⟩) (fun _ _=>Below.refl _ _) d
   ·intro w L f hC hLi hLd hLn ⟨d,_⟩;refine au.live rfl ?_;exact aj (v:=f 11) rfl (⟨hC.1.same (i:=3) (by decide),fun h=>by simp at h⊢;exact hC.2 h⟩) (fun _ _=>Below.refl _ _) d
   ·intro w L f hC hLi hLd hLn ⟨a,b,c,_⟩;change _=_ at a b c;refine au.live rfl ?_;obtain⟨⟨x0,x1,x2,x3,xl⟩,x5,x6⟩:=hfc.out w (hC.1.bel (hLn 14 (by simp)));obtain⟨ev,ec,ef⟩:=evs f;refine aj ?_ (⟨hC.1.same (i:=4) (by decide),fun h=>by simp at h⊢;exact hC.2 h⟩) (fun _ _=>Below.refl _ _) rfl;go_simp
   ·intro w L f hC hLi hLd hLn ⟨a,_⟩;change _=_ at a;refine au.live rfl ?_;obtain⟨⟨x0,x1,x2,x3,xl⟩,x5,x6⟩:=hfc.out w (hC.1.bel (hLn 14 (by simp)));obtain⟨ev,ec,ef⟩:=evs f;refine aj ?_ (⟨hC.1.same (i:=5) (by decide),fun h=>by simp at h⊢;exact hC.2 h⟩) (fun _ _=>Below.refl _ _) rfl;go_simp
   ·intro w L f hC hLi hLd hLn ⟨a,_⟩;change _=_ at a;refine au.live rfl ?_;have hbn:=aA w (.cells #[.string (ay r.nm),.slice B1 Bn1 Bc1,.slice B2 Bn2 Bc2,.slice B3 Bn3 Bc3] 26);have hbs:=(hC.1.bel (hLn 14 (by simp))).size;obtain⟨ev,ec,ef⟩:=evs f;refine aj (w':=w.alloc (.cells #[.string (ay r.nm),.slice B1 Bn1 Bc1,.slice B2 Bn2 Bc2,.slice B3 Bn3 Bc3] 26)) (v:= .slice (some ⟨w.heap.size,0,none⟩) 1 1) (by go_simp) ⟨hC.1.go (i:=6) (hLn 14 (by simp)) (by decide) hbn,fun h=>by simp at h⊢;exact hC.2 h⟩ (fun _ _=>hbn) (fun _=>own_fresh w hbs)
   ·intro w L f hC hLi hLd hLn ⟨a,_⟩;change _=_ at a;refine au.live rfl ?_;obtain⟨⟨x0,x1,x2,x3,xl⟩,x5,x6⟩:=hfc.out w (hC.1.bel (hLn 14 (by simp)));obtain⟨ev,ec,ef⟩:=evs f;refine aj ?_ (⟨hC.1.same (i:=7) (by decide),fun h=>by simp at h⊢;exact hC.2 h⟩) (fun _ _=>Below.refl _ _) rfl;go_simp
   ·intro w L f hC hLi hLd hLn ⟨a,_⟩;change _=_ at a;refine au.live rfl ?_;obtain⟨⟨x0,x1,x2,x3,xl⟩,x5,x6⟩:=hfc.out w (hC.1.bel (hLn 14 (by simp)));obtain⟨ev,ec,ef⟩:=evs f;refine aj ?_ (⟨hC.1.same (i:=8) (by decide),fun h=>by simp at h⊢;exact hC.2 h⟩) (fun _ _=>Below.refl _ _) rfl;go_simp
   ·intro w L f hC hLi hLd hLn ⟨d,_⟩;refine au.live rfl ?_;exact aj (v:=f 11) rfl (⟨hC.1.same (i:=9) (by decide),fun h=>by simp at h⊢;exact hC.2 h⟩) (fun _ _=>Below.refl _ _) d
   ·intro w L f hC hLi hLd hLn ⟨a,b,_⟩;change _=_ at a b;refine au.live rfl ?_;obtain⟨⟨x0,x1,x2,x3,xl⟩,x5,x6⟩:=hfc.out w (hC.1.bel (hLn 14 (by simp)));obtain⟨ev,ec,ef⟩:=evs f;refine aj ?_ (⟨hC.1.same (i:=10) (by decide),fun h=>by simp at h⊢;exact hC.2 h⟩) (fun _ _=>Below.refl _ _) rfl;go_simp
   ·intro w L f hC hLi hLd hLn ⟨d93,d97,_⟩;change _=_ at d97;refine au.live rfl ?_;have ho1:=d93 hLi;obtain⟨ev,ec,ef⟩:=evs f;refine dY w (.tmp 93) (.tmp 97) 95 rfl wW.heap.size 26 iA _ 4 88 Tryz.underlying95 hiA hzA0 hzA1 hzA2 rfl (by omega) (f 93) 1 [.string (ay r.nm),.slice B1 Bn1 Bc1,.slice B2 Bn2 Bc2,.slice B3 Bn3 Bc3] (by rw[ev]) ho1 none 0 0 [] (by rw[ev,d97]) rfl (bI.nil_ _ _ _) (fun u h=>nomatch h) (by decide) (by decide) (hC.1.bel (hLn 14 (by simp))).size ?_;intro v' w' ho hg;exact⟨⟨CS.go0 (hLn 14 (by simp)) (by decide) (grown4 (hC.1.bel (hLn 14 (by simp))) ho1 hg),fun _=>by simp⟩,fun h=>absurd rfl h,by simp,fun _=>by simpa using ho⟩
   ·intro w L f hC hLi hLd hLn ⟨d91,d98,_⟩;change _=_ at d91;refine au.live rfl ?_;have ho1:=d98.2 hLi;obtain⟨g9,c',e98,hr98⟩:=own4 ho1;obtain⟨ev,ec,ef⟩:=evs f;refine dY w (.tmp 91) (.tmp 98) 95 rfl wW.heap.size 26 iA _ 4 88 Tryz.underlying95 hiA hzA0 hzA1 hzA2 rfl (by omega) (.slice none 0 0) 0 [] (by rw[ev,d91]) (World.ownsRow_nil _ _ _ _) (some ⟨g9,0,none⟩) 1 c' [.string (ay r.nm),.slice B1 Bn1 Bc1,.slice B2 Bn2 Bc2,.slice B3 Bn3 Bc3] (by rw[ev,e98]) rfl (rowS_of hr98) (by intro u h;simp at h;rcases h with rfl|rfl|rfl|rfl<;>rfl) (by decide) (by decide) (hC.1.bel (hLn 14 (by simp))).size ?_;intro v' w' ho hg;have hb:Below w.heap.size w w':=⟨hg.os,hg.tape,hg.output,hg.size,fun k hk=>hg.block k hk (by simp[Value.ownBlock])⟩;exact⟨⟨hC.1.go (i:=12) (hLn 14 (by simp)) (by decide) hb,fun _=>by simp[hLd 11 (by decide)]⟩,fun _ _=>hb,by simp,fun _=>by simpa using ho⟩
   ·intro w L f hC hLi hLd hLn ⟨a,_⟩;change _=_ at a;refine au.live rfl ?_;obtain⟨⟨x0,x1,x2,x3,xl⟩,x5,x6⟩:=hfc.out w (hC.1.bel (hLn 14 (by simp)));obtain⟨ev,ec,ef⟩:=evs f;refine aj ?_ (⟨hC.1.same (i:=13) (by decide),fun h=>by simp at h⊢;exact hC.2 h⟩) (fun _ _=>Below.refl _ _) rfl;go_simp
   ·intro w L f hC hLi hLd hLn ⟨a,d99,_⟩;change _=_ at a;refine au.live rfl ?_;have ho1:=d99.2 hLi;obtain⟨q9,c9,e99,-⟩:=own4 ho1;rw[e99]at ho1;obtain⟨⟨x0,x1,x2,x3,xl⟩,x5,x6⟩:=hfc.out w (hC.1.bel hLi);have z2:=hfz.out w 2 (hC.1.bel hLi);obtain⟨ev,ec,ef⟩:=evs f;refine dK (w':=w.setCell ⟨gP,2,none⟩ (.slice (some ⟨q9,0,none⟩) 1 c9)) ?_ ⟨CS.last (hLd 12 (by decide)) ⟨_,w,hC.1.bel hLi,ho1,rfl⟩,fun h=>by simp at h⊢;exact hC.2 h⟩ (fun _ h=>absurd rfl h) trivial;go_simp
  intro x w' hC hV

  obtain⟨v,wq,hbq,ho,rfl⟩:=(hC.1.2 rfl).2;simp only[framed];obtain⟨q9,c9,rfl,hrow⟩:=own4 ho
  have hend:Hid (PEnd w gR gP (wq.setCell ⟨gP,2,none⟩ (.slice (some ⟨q9,0,none⟩) 1 c9))):=Za (prog_end hlt.out (hBW.out.trans (hbq.mono hBW.out.size)) (hRW.out.below hbq hRW.out.lt) (hPW.out.below hbq hPW.out.lt) (hYW.out.at_.below hbq) hrow ⟨_,u,fz,a,D7.out,by rw[hr'.out,(Gm hr'.out).1]⟩);go_wp2_with fail;exact⟨.inr ⟨rfl,hend⟩,by simp[intOf]⟩
 ·obtain⟨hB,hR,v,hP,hL⟩:=hE.out;have p0:wl.cell? ⟨gP,0,none⟩=some (.slice none 0 0):=hP.cell 0;have p1:wl.cell? ⟨gP,1,none⟩=some (.slice none 0 0):=hP.cell 1;have p2:wl.cell? ⟨gP,2,none⟩=some v:=hP.cell 2;have pl:=hP.lt;obtain⟨An,nn,cn,rfl⟩:=hL.slice;have r0:wl.cell? ⟨gR,0,none⟩=some (.slice none 0 0):=hR.cell 0
  have r1:wl.cell? ⟨gR,1,none⟩=some (.slice none 0 0):=hR.cell 1;have r2:wl.cell? ⟨gR,2,none⟩=some (.slice none 0 0):=hR.cell 2;have rl:=hR.lt;have rf:=hR.frozen;have f0:=rf 0;have f1:=rf 1;have f2:=rf 2;clear rf
  have hW:Writes [some gR] wl (((wl.setCell ⟨gR,0,none⟩ (.slice none 0 0)).setCell ⟨gR,1,none⟩ (.slice none 0 0)).setCell ⟨gR,2,none⟩ (.slice An nn cn)):=((Writes.store wl (by simp) _).trans (Writes.store _ (by simp) _)).trans (Writes.store _ (by simp) _)
  have hH3:Holds (((wl.setCell ⟨gR,0,none⟩ (.slice none 0 0)).setCell ⟨gR,1,none⟩ (.slice none 0 0)).setCell ⟨gR,2,none⟩ (.slice An nn cn)) gR 97 #[.slice none 0 0,.slice none 0 0,.slice An nn cn]:=by have:=((hR.store 0 (.slice none 0 0)).store 1 (.slice none 0 0)).store 2 (.slice An nn cn);simpa[ProgZ]using this
  have hE3:=Za (And.intro hH3 (And.intro (hL.stored hR hW) (hB.trans (hW.below hB.size (fun k hk=>by simp at hk;have:=hlt.out;omega)))));clear hB hR hP hL hW hH3;go_wp2_with fail;refine ret_cell1 rfl rfl rfl hE3.out.1 Tryz.underlying97 Tryz.sProg ?_;exact⟨_,rfl,hE3.out.2⟩
end Go.Proofs.YtpndglghpojjkaaGreat
