/-
  11 texts of the proof, in one file: no condition.
-/
import Derived.Laws.ResultCell
import Derived.Laws.Rows
import Derived.Laws.NewBlocks
import Derived.Deep.QuietTactic
import Derived.BigQuiet
import Derived.StillTailTactics
import Derived.IntWalk
import Derived.Test.YtpndglghpojjkaaGreatPea1
set_option maxRecDepth 1000000
set_option maxHeartbeats 8000000
namespace Go.Proofs.YtpndglghpojjkaaGreat
open Go.RowKit Go.Deep
section
variable {P:Program} (w:World)
theorem run_append_empty2 (base:Nat) (t ty e:TypeId) (i:TypeInfo) (size:Nat) (ht:P.underlying t=some (.slice e)) (hi:P.info? e=some i)
  (v:Value) (n:Nat) (xs:List Value) (hown:w.ownsRow base e size v n xs) (c:Nat):(Builtin.append_ #[t,t] ty #[v,.slice none 0 c]).run P w= .ok v w:=by
 rcases hown.2 with⟨rfl,_⟩| ⟨g,cap,cur,rfl,_,_,hnc,_⟩
 ·simp[Builtin.append_,run_underlying ht,sizeOf,typeInfo,hi,Builtin.lenOf,Builtin.firstCells]
 ·simp[Builtin.append_,run_underlying ht,sizeOf,typeInfo,hi,Builtin.lenOf,Builtin.firstCells,hnc,storeCells]
theorem run_append_row2 (base:Nat) (t ty e:TypeId) (i:TypeInfo) (z:Value) (bytes:Nat) (ht:P.underlying t=some (.slice e)) (hi:P.info? e=some i) (hz:i.zero=some z)
  (hsize:i.size=1) (hby:i.bytes=bytes) (hzs:z.cells.size=1)
  (v:Value) (n:Nat) (xs:List Value) (hown:w.ownsRow base e 1 v n xs)
  (B:Nat) (A:Option Addr) (m c:Nat) (news:List Value) (hl:news.length=m) (hr:Row w B A news) (h1:∀u∈news,u.oneCell'=true)
  (h63:n+m≤maxLen) (hbytes:(n+m)*bytes≤140737488355328) (hbase:base≤w.heap.size):
  ∃v' w',(Builtin.append_ #[t,t] ty #[v,.slice A m c]).run P w= .ok v' w'∧w'.ownsRow base e 1 v' (n+m) (xs++news)∧w.grownBy w' v.ownBlock∧(v'.ownBlock=v.ownBlock∨v'.ownBlock=some w.heap.size):=by
 subst hl;rcases A with _|ad
 ·have hn:news= []:=by
   rcases news with _| ⟨a,r⟩
   ·rfl
   ·obtain⟨_,_,h,_⟩:=hr (by simp);cases h
  subst hn;exact⟨v,w,run_append_empty2 w base t ty e i 1 ht hi v n xs hown c,by simpa using hown,World.grownBy.refl w _,.inl rfl⟩
 ·have hcells:∀j u,news[j]? =some u→w.cell? (ad.add j)=some u:=by
   intro j u hu;obtain⟨b,off,h,_,hc⟩:=hr (by rintro rfl;simp at hu);injection h with h;subst h
   have hadd:(⟨b,off,none⟩:Addr).add j=⟨b,off+j,none⟩:=by unfold Addr.add;split<;>simp_all
   rw[hadd];exact hc j u hu
  obtain⟨v',w',hrun,h2,h3,_,h5⟩:=run_append_own_at (P:=P) w base t ty e i z 1 bytes ht hi hz hsize hby hzs (by omega) v n xs hown ad news.length c news (by simp) hcells h1 h63 hbytes hbase;exact⟨v',w',hrun,h2,h3,h5⟩
theorem wpList_append_row2 {ops:Array Oper} {rest:List Oper} {o:Oper} {a:Act} {Q:Exit→Act→World→Prop} (hgd:o.guard=none) (s x:Operand) (t:TypeId)
  (ho:o.op= .call {callee:= .builtin .append,args:= #[s,x],argTypes:= #[t,t]})
  (base:Nat) (e:TypeId) (i:TypeInfo) (z:Value) (bytes:Nat) (ht:P.underlying t=some (.slice e)) (hi:P.info? e=some i) (hz:i.zero=some z)
  (hsize:i.size=1) (hby:i.bytes=bytes) (hzs:z.cells.size=1)
  (v:Value) (n:Nat) (xs:List Value) (hs:a.eval s=v) (hown:w.ownsRow base e 1 v n xs)
  (B:Nat) (A:Option Addr) (m c:Nat) (news:List Value) (hx:a.eval x= .slice A m c) (hl:news.length=m) (hr:Row w B A news) (h1:∀u∈news,u.oneCell'=true)
  (h63:n+m≤maxLen) (hbytes:(n+m)*bytes≤140737488355328) (hbase:base≤w.heap.size)
  (h:∀v' w',w'.ownsRow base e 1 v' (n+m) (xs++news)→w.grownBy w' v.ownBlock→(v'.ownBlock=v.ownBlock∨v'.ownBlock=some w.heap.size)→wpList P ops Q rest (a.put o.dst v') w'):wpList P ops Q (o::rest) a w:=by
 refine wpList_plain hgd fun K hK=> ?_;obtain⟨v',w',hrun,h2,h3,h4⟩:=run_append_row2 (P:=P) w base t o.type e i z bytes ht hi hz hsize hby hzs v n xs hown B A m c news hl hr h1 h63 hbytes hbase;unfold Oper.wp execOp;simp only[ho,resolve,invoke,builtin,Sem.run_bind,Sem.run_pure,Result.andThen_ok,List.map_toArray,List.map_cons,List.map_nil,hs,hx,hrun];exact hK _ _ (h v' w' h2 h3 h4)
end
theorem canon_nil2:canon []= []:=canon_of List.Pairwise.nil fun _=>Iff.rfl
theorem enc_oneO {l:List S}:∀u∈l.map encStr,u.oneCell'=true:=by
 intro u hu;obtain⟨x,_,rfl⟩:=List.mem_map.1 hu;rfl
theorem ordered2_any (w0:World) (A:Option Addr) (n c:Nat) (ls:List (List S)) (hn:ls.length=n) (hm:n≤100000) (hL:Lists w0 w0.heap.size A ls) (hs:ls.flatten.length≤1000000):
  Calls Tryz.prog 117 #[.slice A n c] w0 fun e w'=>∃v,e= .returned v∧w'.ownsRow w0.heap.size 9 1 v (canon ls.flatten).length ((canon ls.flatten).map encStr)∧Below w0.heap.size w0 w':=by
 obtain⟨iS,hiS,hzS0,hzS1,hzS2⟩:=info_parts Tryz.infoStr;have hL':=zi hL;have hn':=zi hn;have hs':=zi hs;clear hL hn hs;go_enter Tryz.func117,Tryz.ntmps117;go_wp2_with fail;go_loopw [3,8] (fun rv i wr=>∃k:Nat,k≤n∧i= .int .i64 k∧wr.ownsRow w0.heap.size 9 1 rv ((ls.take k).flatten).length (((ls.take k).flatten).map encStr)∧Below w0.heap.size w0 wr) (fun _ i _=>n-(intOf i).toNat)
 case atStart=>exact⟨0,by omega,rfl,World.ownsRow_nil _ _ _ _,Below.refl _ _⟩
 obtain⟨k,hk,rfl,ho0,hb0⟩:=hrel;by_cases hlt:k<n
 ·obtain⟨b,off,Ak,ck,rfl,hb,hcell,hrow⟩:=(hL'.out.below hb0).at_ (k:=k) (by rw[hn'.out];exact hlt);have hrow':=zi hrow;have ho:=zi ho0;have hbl:=zi hb0
  have htk:Hid ((ls.take (k+1)).flatten=(ls.take k).flatten++ls[k]'(by rw[hn'.out];exact hlt)):=zi (by
   have hk2:k<ls.length:=by rw[hn'.out];exact hlt
   rw[List.take_succ_eq_append_getElem hk2,List.flatten_append]
   simp)
  have hlk:Hid (((ls.take (k+1)).flatten).length≤1000000):=zi (by
   have h1:=hs'.out
   have h2:ls.flatten=(ls.take (k+1)).flatten++(ls.drop (k+1)).flatten:=by rw[←List.flatten_append,List.take_append_drop]
   rw[h2,List.length_append]at h1
   omega)
  clear hrow ho0 hb0;generalize ls[k]'(by rw[hn'.out];exact hlt)=lk at hcell hrow' htk
  have hsum:((ls.take k).flatten).length+lk.length≤1000000:=by have:=hlk.out;rw[htk.out,List.length_append]at this;exact this
  generalize (ls.take k).flatten=cur at*
  have hbs:=zi hbl.out.size;go_wp2_with
   (at_builtin
    go_loud (refine wpList_append_row2 _ rfl (.tmp 12) (.tmp 13) 35 rfl w0.heap.size 9 iS (.string ⟨#[]⟩) 16 Tryz.underlying35 hiS hzS0 hzS1 hzS2 rfl u3 cur.length (cur.map encStr) rfl ho.out w0.heap.size Ak lk.length ck (lk.map encStr) rfl (by simp) hrow'.out enc_oneO (by unfold maxLen;omega) (by omega) hbs.out ?_)
    intro v3 w3 ho3 hg3 _;have ho4:=zi ho3
    have hb4:=zi (hbl.out.trans ((Writes.of_grown hg3 (M:= [u3.ownBlock]) (by simp)).below hbs.out (fun j hj=>by
     rcases ho.out.2 with⟨h,_⟩| ⟨g,cap,cur2,h,hg,_⟩
     ·rw[h]at hj;simp[Value.ownBlock]at hj
     ·rw[h]at hj;simp[Value.ownBlock]at hj;omega)))
    clear ho3 hg3)
  go_roundw
  case rel=>exact⟨k+1,by omega,by go_num,by rw[htk.out,List.length_append,List.map_append];exact ho4.out,hb4.out⟩
  case measure=>simp[intOf];omega
 obtain rfl:k=n:=by omega
 rw[show ls.take k=ls from by rw[←hn'.out,List.take_length]]at ho0;generalize hfl:ls.flatten=ss at ho0 hs';have hss:ss.length≤1000000:=hs'.out;have hfl':=zi hfl;clear hfl;by_cases hnil:u3= .slice none 0 0
 ·subst hnil
  have hss0:ss= []:=by
   rcases ho0.2 with⟨_,h⟩| ⟨g,cap,cur,h,_⟩
   ·exact List.eq_nil_of_length_eq_zero h
   ·cases h
  subst hss0;clear ho0;go_wp2_with fail;refine(Tryz.slices_Sort_string_none none 0 wr).mono ?_;rintro e w2 ⟨rfl,rfl⟩;go_wp2_with fail;refine(Tryz.slices_Compact_string_empty none 0 w2).mono ?_;rintro e w3 ⟨rfl,rfl⟩;have hb1:=zi hb0;clear hb0;go_wp2_with fail;go_ret;exact⟨_,rfl,by rw[hfl'.out,canon_nil2];exact World.ownsRow_nil _ _ _ _,hb1.out⟩
 ·obtain⟨g,cap,hv,hbg,hgl,hnc,hcm,hlen,hH⟩:=Lib.holds_of_ownsRow ho0 hnil;subst hv;have hfin:=zi (fun nn os q=>sorted_left (nn:=nn) (os:=os) (q:=q) (ss:=ss) ho0 hb0 hbg rfl);have hsort:=zi (Tryz.slices_Sort_string g 0 cap ss wr hH hgl (by omega))
  have hH2:Hid (∀nn os,Sort.Holds encStr (Sort.grow (Sort.putRow encStr (Sort.ahead wr nn) g 0 (ss.mergeSort fun x y=>decide (x≤y)).toArray) os) g 0 (ss.mergeSort fun x y=>decide (x≤y)).toArray):=zi fun nn os=>
   Sort.holds_grow encStr _ os g 0 _ (by simpa[Sort.putRow,Sort.mapBlock,Sort.ahead]using hgl) (Sort.holds_putRow encStr _ g 0 _ _ (Sort.holds_ahead encStr wr nn g 0 _ hH) (by simp))
  have hl2:Hid ((ss.mergeSort fun x y=>decide (x≤y)).length=ss.length):=zi (List.length_mergeSort ss);have hnc':=zi hnc;clear ho0 hb0 hH hnil hlen hnc;go_wp2_with fail;refine hsort.out.mono ?_;rintro e w2 ⟨rfl,nn,os,rfl⟩;clear hsort;go_wp2_with fail;have hcomp:=Tryz.slices_Compact_string g 0 cap (ss.mergeSort fun x y=>decide (x≤y)) _ (hH2.out nn os) (by rw[hl2.out];omega) (by rw[hl2.out];exact hnc'.out);rw[hl2.out]at hcomp;refine hcomp.mono ?_;rintro e w3 ⟨rfl,q,rfl⟩;have hf:=zi (hfin.out nn os q);clear hcomp hH2 hfin;go_wp2_with fail;go_ret;exact⟨_,rfl,by rw[hfl'.out];exact hf.out.1,hf.out.2⟩
end Go.Proofs.YtpndglghpojjkaaGreat
namespace Go.Proofs.YtpndglghpojjkaaGreat
open Go.RowKit
structure Pz where
 nul:Bool
 cells:List S
def PzO (w:World) (B:Nat) (p:Pz) (v:Value):Prop:=∃A c,v= .agg #[.bool p.nul,.slice A p.cells.length c]∧w.ownsRow B 9 1 (.slice A p.cells.length c) p.cells.length (p.cells.map encStr)
theorem fact_of {w:World} {k:Nat} {t:TypeId} {cs:Array Value} (h:Holds w k t cs) (i:Nat) {v:Value} (hv:cs[i]? =some v):k<w.heap.size∧w.cell? ⟨k,i,none⟩=some v:=⟨h.lt,by rw[h.cell];exact hv⟩
theorem ret_cellO {fn:Func} {p:Tmp} {ty:TypeId} {R:Ending→World→Prop} {a:Act} {w:World} {g:Nat} {t:TypeId} {cs:Array Value} {fs:Array Field} (h:fn.results= #[.cell p ty]) (hd0:a.defers= []) (hp:a.tmps.getD p undef= .pointer (some ⟨g,0,none⟩))
  (hg:Holds w g t cs) (hu:Tryz.prog.underlying ty=some (.struct fs)) (hi:(Tryz.prog.info? ty).map (·.size)=some cs.size)
  (hR:R (.returned (.agg cs)) w):bodyPost Tryz.prog fn R .ret a w:=by
 refine bodyPost_ret_by (v:= .agg cs) ?_ hd0 hR
 have hp':a.tmps[p]?.getD undef= .pointer (some ⟨g,0,none⟩):=by simpa[Array.getD_eq_getD_getElem?]using hp
 simp[results,h,hp',asAddr,run_loadVar_row w g t ty cs (0,0) _ hg hu rfl hi]
theorem Tryz.szPts:(Tryz.prog.info? 130).map (·.size)=some 2:=by kernel_rfl
theorem holds_two {w:World} {g:Nat} {t:TypeId} {a b:Value} (h:Holds w g t #[a,b]) (x y:Value):Holds ((w.setCell ⟨g,0,none⟩ x).setCell ⟨g,1,none⟩ y) g t #[x,y]:=by
 have:=(h.store 0 x).store 1 y;simpa using this
theorem writes_two (w:World) (g:Nat) (x y:Value):Writes [some g] w ((w.setCell ⟨g,0,none⟩ x).setCell ⟨g,1,none⟩ y):=
 (Writes.store w (p:=⟨g,0,none⟩) (by simp) x).trans (Writes.store _ (p:=⟨g,1,none⟩) (by simp) y)
theorem own_kept {w w':World} {B:Nat} {e:TypeId} {k:Nat} {v:Value} {n:Nat} {xs:List Value} {M:List (Option Nat)} (h:w.ownsRow B e k v n xs) (hM:Writes M w w') (hk:∀j,some j∈M→j<B):w'.ownsRow B e k v n xs:=
 hM.own h (by
  by_cases hn:v.ownBlock=none
  ·exact .inl hn
  ·refine .inr fun hm=> ?_;rcases h.2 with⟨hv,_⟩| ⟨g,cap,cur,hv,hg,_⟩
   ·rw[hv]at hn;exact hn rfl
   ·rw[hv]at hm;simp[Value.ownBlock]at hm;have:=hk g hm
    omega)
theorem nullO_any (w0:World):Calls Tryz.prog 69 #[] w0 fun e w'=>(∃v,e= .returned v∧PzO w' w0.heap.size ⟨true,[]⟩ v)∧Below w0.heap.size w0 w':=by
 have hb:=below_new w0 (.cells #[.bool true,.slice none 0 0] 130);have hh:=Holds.new w0 130 #[.bool true,.slice none 0 0];go_enter Tryz.func69,Tryz.ntmps69;go_wp2_with fail;exact ret_cellO rfl rfl rfl hh Tryz.underlying130 Tryz.szPts ⟨⟨_,rfl,none,0,rfl,World.ownsRow_nil _ _ _ _⟩,hb⟩
theorem anyO_any (w0:World) (A:Option Addr) (n c:Nat) (l:List S) (hn:l.length=n) (hr:Row w0 w0.heap.size A (l.map encStr)) (hm:n≤100000):
  Calls Tryz.prog 67 #[.slice A n c] w0 fun e w'=>(∃v,e= .returned v∧PzO w' w0.heap.size ⟨true,canon l⟩ v)∧Below w0.heap.size w0 w':=by
 have k1:=below_new w0 (.cells #[.bool false,.slice none 0 0] 130);have hh:=zi ((Holds.new w0 130 #[.bool false,.slice none 0 0]).alloc (.cells #[.slice A n c] 35));have hL:=zi (Lists.one (w:=w0.alloc (.cells #[.bool false,.slice none 0 0] 130)) 35 (c:=c) hn ((hr.below k1).more k1.size));have hk:=zi (k1.trans ((below_new (w0.alloc (.cells #[.bool false,.slice none 0 0] 130)) (.cells #[.slice A n c] 35)).mono k1.size));have hs:Hid ([l].flatten.length≤1000000):=zi (by simp;omega);have e1:Hid ([l].flatten=l):=zi (by simp);clear k1 hr;go_enter Tryz.func67,Tryz.ntmps67;go_wp2_with fail
 have hsz:(w0.alloc (.cells #[.bool false,.slice none 0 0] 130)).heap.size=w0.heap.size+1:=by simp
 rw[hsz]at hL;clear hsz;generalize (w0.alloc (.cells #[.bool false,.slice none 0 0] 130)).alloc (.cells #[.slice A n c] 35)=w1 at hh hL hk⊢;refine(ordered2_any w1 (some ⟨w0.heap.size+1,0,none⟩) 1 1 [l] rfl (by omega) hL.out hs.out).mono ?_;rintro e w2 ⟨v,rfl,ho,hb2⟩;rw[e1.out]at ho;obtain⟨A2,c2,rfl,_,_⟩:=own_rowA ho;have hh2:=hh.out.below hb2 hh.out.lt;have z0:=(fact_of hh2 0 rfl).2;have z1:=(fact_of hh2 1 rfl).2;have f0:=hh2.frozen 0;have f1:=hh2.frozen 1;have hst:=writes_two w2 w0.heap.size (.bool true) (.slice A2 (canon l).length c2);have ho3:=own_base (own_kept ho hst (fun j hj=>by simp at hj;have:=hh.out.lt;omega)) hk.out.size
 have hfin:Hid ((∃v,Ending.returned (.agg #[.bool true,.slice A2 (canon l).length c2])= .returned v∧PzO ((w2.setCell ⟨w0.heap.size,0,none⟩ (.bool true)).setCell ⟨w0.heap.size,1,none⟩ (.slice A2 (canon l).length c2)) w0.heap.size ⟨true,canon l⟩ v)∧Below w0.heap.size w0 ((w2.setCell ⟨w0.heap.size,0,none⟩ (.bool true)).setCell ⟨w0.heap.size,1,none⟩ (.slice A2 (canon l).length c2))):=
  zi ⟨⟨_,rfl,A2,c2,rfl,ho3⟩,(hk.out.trans (hb2.mono hk.out.size)).trans (hst.below (Nat.le_trans hk.out.size hb2.size) (fun j hj=>by simp at hj;omega))⟩
 have hh3:=zi (holds_two hh2 (.bool true) (.slice A2 (canon l).length c2));clear hh2 hst hb2 ho ho3 hh hL hk hs e1;go_wp2_with fail;exact ret_cellO rfl rfl rfl hh3.out Tryz.underlying130 Tryz.szPts hfin.out
def ivV (so:Bool) (lo hi:Int):Value:= .agg #[.bool so,.int .i64 lo,.int .i64 hi]
theorem Tryz.szIval:(Tryz.prog.info? 115).map (·.size)=some 3:=by kernel_rfl
theorem holds_three {w:World} {g:Nat} {t:TypeId} {a b c:Value} (h:Holds w g t #[a,b,c]) (x y z:Value):Holds (((w.setCell ⟨g,0,none⟩ x).setCell ⟨g,1,none⟩ y).setCell ⟨g,2,none⟩ z) g t #[x,y,z]:=by
 have:=((h.store 0 x).store 1 y).store 2 z;simpa using this
theorem writes_three (w:World) (g:Nat) (x y z:Value):Writes [some g] w (((w.setCell ⟨g,0,none⟩ x).setCell ⟨g,1,none⟩ y).setCell ⟨g,2,none⟩ z):=
 (writes_two w g x y).trans (Writes.store _ (p:=⟨g,2,none⟩) (by simp) z)
def RetB (w0:World) (v:Value) (e:Ending) (w':World):Prop:=e= .returned v∧Below w0.heap.size w0 w'
theorem ivalEmpty_any (w0:World):Calls Tryz.prog 111 #[] w0 (RetB w0 (ivV false 0 0)):=by
 have hb:=below_new w0 (.cells #[.bool false,.int .i64 0,.int .i64 0] 115);have hh:=Holds.new w0 115 #[.bool false,.int .i64 0,.int .i64 0];go_enter Tryz.func111,Tryz.ntmps111;go_wp2_with fail;exact ret_cellO rfl rfl rfl hh Tryz.underlying115 Tryz.szIval ⟨rfl,hb⟩
theorem ivalOf_any (w0:World) (lo hi:Int) (h:lo≤hi):Calls Tryz.prog 118 #[.int .i64 lo,.int .i64 hi] w0 (RetB w0 (ivV true lo hi)):=by
 have hb:=below_new w0 (.cells #[.bool true,.int .i64 lo,.int .i64 hi] 115);have hh:=Holds.new w0 115 #[.bool true,.int .i64 lo,.int .i64 hi]
 have h1:¬hi<lo:=by omega
 have h2:¬lo>hi:=by omega
 go_enter Tryz.func118,Tryz.ntmps118;go_wp2_with fail;exact ret_cellO rfl rfl rfl hh Tryz.underlying115 Tryz.szIval ⟨rfl,hb⟩
theorem refNorm_any (w0:World) (lo hi:Int) (h:lo≤hi):Calls Tryz.prog 115 #[ivV true lo hi] w0 (RetB w0 (ivV true lo hi)):=by
 have k1:=below_new w0 (.cells #[.bool true,.int .i64 lo,.int .i64 hi] 115);have hb:=k1.trans ((below_new (w0.alloc (.cells #[.bool true,.int .i64 lo,.int .i64 hi] 115)) (.cells #[.bool true,.int .i64 lo,.int .i64 hi] 115)).mono k1.size);have hh:=Holds.new (w0.alloc (.cells #[.bool true,.int .i64 lo,.int .i64 hi] 115)) 115 #[.bool true,.int .i64 lo,.int .i64 hi]
 have h1:¬hi<lo:=by omega
 have h2:¬lo>hi:=by omega
 unfold ivV;go_enter Tryz.func115,Tryz.ntmps115;go_wp2_with fail;exact ret_cellO rfl rfl (by simp) hh Tryz.underlying115 Tryz.szIval ⟨rfl,hb⟩
theorem ivalTop_any (w0:World):Calls Tryz.prog 68 #[] w0 (RetB w0 (ivV true (-9223372036854775808) 9223372036854775807)):=by
 have hb:=zi (below_new w0 (.cells #[.bool false,.int .i64 0,.int .i64 0] 115));have hh:=zi (Holds.new w0 115 #[.bool false,.int .i64 0,.int .i64 0]);go_enter Tryz.func68,Tryz.ntmps68;go_wp2_with fail;generalize w0.alloc (.cells #[.bool false,.int .i64 0,.int .i64 0] 115)=w1 at hb hh⊢;refine(ivalOf_any w1 (-9223372036854775808) 9223372036854775807 (by decide)).mono ?_;rintro e w2 ⟨rfl,hb2⟩;have hh2:=hh.out.below hb2 hh.out.lt;have z0:=(fact_of hh2 0 rfl).2;have z1:=(fact_of hh2 1 rfl).2;have z2:=(fact_of hh2 2 rfl).2;have f0:=hh2.frozen 0;have f1:=hh2.frozen 1;have f2:=hh2.frozen 2;have hst:=writes_three w2 w0.heap.size (.bool true) (.int .i64 (-9223372036854775808)) (.int .i64 9223372036854775807)
 have hfin:Hid (Below w0.heap.size w0 (((w2.setCell ⟨w0.heap.size,0,none⟩ (.bool true)).setCell ⟨w0.heap.size,1,none⟩ (.int .i64 (-9223372036854775808))).setCell ⟨w0.heap.size,2,none⟩ (.int .i64 9223372036854775807))):=
  zi ((hb.out.trans (hb2.mono hb.out.size)).trans (hst.below (Nat.le_trans hb.out.size hb2.size) (fun j hj=>by simp at hj;omega)))
 have hh3:=zi (holds_three hh2 (.bool true) (.int .i64 (-9223372036854775808)) (.int .i64 9223372036854775807));clear hh2 hst hb2 hh hb;unfold ivV;go_wp2_with fail;exact ret_cellO rfl rfl rfl hh3.out Tryz.underlying115 Tryz.szIval ⟨rfl,hfin.out⟩
theorem ivalConst_any (w0:World) (n:Int):Calls Tryz.prog 70 #[.int .i64 n] w0 (RetB w0 (ivV true n n)):=by
 have hb:=zi (below_new w0 (.cells #[.bool false,.int .i64 0,.int .i64 0] 115));have hh:=zi (Holds.new w0 115 #[.bool false,.int .i64 0,.int .i64 0]);go_enter Tryz.func70,Tryz.ntmps70;go_wp2_with fail;generalize w0.alloc (.cells #[.bool false,.int .i64 0,.int .i64 0] 115)=w1 at hb hh⊢;refine(ivalOf_any w1 n n (Int.le_refl _)).mono ?_;rintro e w2 ⟨rfl,hb2⟩;have hh2:=hh.out.below hb2 hh.out.lt;have z0:=(fact_of hh2 0 rfl).2;have z1:=(fact_of hh2 1 rfl).2;have z2:=(fact_of hh2 2 rfl).2;have f0:=hh2.frozen 0;have f1:=hh2.frozen 1;have f2:=hh2.frozen 2;have hst:=writes_three w2 w0.heap.size (.bool true) (.int .i64 n) (.int .i64 n)
 have hfin:Hid (Below w0.heap.size w0 (((w2.setCell ⟨w0.heap.size,0,none⟩ (.bool true)).setCell ⟨w0.heap.size,1,none⟩ (.int .i64 n)).setCell ⟨w0.heap.size,2,none⟩ (.int .i64 n))):=
  zi ((hb.out.trans (hb2.mono hb.out.size)).trans (hst.below (Nat.le_trans hb.out.size hb2.size) (fun j hj=>by simp at hj;omega)))
 have hh3:=zi (holds_three hh2 (.bool true) (.int .i64 n) (.int .i64 n));clear hh2 hst hb2 hh hb;unfold ivV;go_wp2_with fail;exact ret_cellO rfl rfl rfl hh3.out Tryz.underlying115 Tryz.szIval ⟨rfl,hfin.out⟩
theorem refOf_any (w0:World) (lo hi:Int) (h:lo≤hi):Calls Tryz.prog 62 #[.int .i64 lo,.int .i64 hi] w0 (RetB w0 (ivV true lo hi)):=by
 have hb:=zi (below_new w0 (.cells #[.bool false,.int .i64 0,.int .i64 0] 115));have hh:=zi (Holds.new w0 115 #[.bool false,.int .i64 0,.int .i64 0]);go_enter Tryz.func62,Tryz.ntmps62;go_wp2_with fail;generalize w0.alloc (.cells #[.bool false,.int .i64 0,.int .i64 0] 115)=w1 at hb hh⊢;refine(refNorm_any w1 lo hi h).mono ?_;rintro e w2 ⟨rfl,hb2⟩;have hh2:=hh.out.below hb2 hh.out.lt;have z0:=(fact_of hh2 0 rfl).2;have z1:=(fact_of hh2 1 rfl).2;have z2:=(fact_of hh2 2 rfl).2;have f0:=hh2.frozen 0;have f1:=hh2.frozen 1;have f2:=hh2.frozen 2;have hst:=writes_three w2 w0.heap.size (.bool true) (.int .i64 lo) (.int .i64 hi)
 have hfin:Hid (Below w0.heap.size w0 (((w2.setCell ⟨w0.heap.size,0,none⟩ (.bool true)).setCell ⟨w0.heap.size,1,none⟩ (.int .i64 lo)).setCell ⟨w0.heap.size,2,none⟩ (.int .i64 hi))):=
  zi ((hb.out.trans (hb2.mono hb.out.size)).trans (hst.below (Nat.le_trans hb.out.size hb2.size) (fun j hj=>by simp at hj;omega)))
 have hh3:=zi (holds_three hh2 (.bool true) (.int .i64 lo) (.int .i64 hi));clear hh2 hst hb2 hh hb;unfold ivV;go_wp2_with fail;exact ret_cellO rfl rfl rfl hh3.out Tryz.underlying115 Tryz.szIval ⟨rfl,hfin.out⟩
theorem refTop_any (w0:World):Calls Tryz.prog 61 #[] w0 (RetB w0 (ivV true (-9223372036854775808) 9223372036854775807)):=by
 have hb:=zi (below_new w0 (.cells #[.bool false,.int .i64 0,.int .i64 0] 115));have hh:=zi (Holds.new w0 115 #[.bool false,.int .i64 0,.int .i64 0]);go_enter Tryz.func61,Tryz.ntmps61;go_wp2_with fail;generalize w0.alloc (.cells #[.bool false,.int .i64 0,.int .i64 0] 115)=w1 at hb hh⊢;refine(refOf_any w1 (-9223372036854775808) 9223372036854775807 (by decide)).mono ?_;rintro e w2 ⟨rfl,hb2⟩;have hh2:=hh.out.below hb2 hh.out.lt;have z0:=(fact_of hh2 0 rfl).2;have z1:=(fact_of hh2 1 rfl).2;have z2:=(fact_of hh2 2 rfl).2;have f0:=hh2.frozen 0;have f1:=hh2.frozen 1;have f2:=hh2.frozen 2;have hst:=writes_three w2 w0.heap.size (.bool true) (.int .i64 (-9223372036854775808)) (.int .i64 9223372036854775807)
 have hfin:Hid (Below w0.heap.size w0 (((w2.setCell ⟨w0.heap.size,0,none⟩ (.bool true)).setCell ⟨w0.heap.size,1,none⟩ (.int .i64 (-9223372036854775808))).setCell ⟨w0.heap.size,2,none⟩ (.int .i64 9223372036854775807))):=
  zi ((hb.out.trans (hb2.mono hb.out.size)).trans (hst.below (Nat.le_trans hb.out.size hb2.size) (fun j hj=>by simp at hj;omega)))
 have hh3:=zi (holds_three hh2 (.bool true) (.int .i64 (-9223372036854775808)) (.int .i64 9223372036854775807));clear hh2 hst hb2 hh hb;unfold ivV;go_wp2_with fail;exact ret_cellO rfl rfl rfl hh3.out Tryz.underlying115 Tryz.szIval ⟨rfl,hfin.out⟩
end Go.Proofs.YtpndglghpojjkaaGreat
namespace Go.Proofs.YtpndglghpojjkaaGreat
structure Tok where
 k:Nat
 t:List UInt8
 at_:Nat
def letC (c:UInt8):Bool:=(97≤c.toNat&&c.toNat≤122)|| (65≤c.toNat&&c.toNat≤90)||c.toNat==95
def digC (c:UInt8):Bool:=48≤c.toNat&&c.toNat≤57
def wsC (c:UInt8):Bool:=c.toNat==32||c.toNat==9||c.toNat==13||c.toNat==10
def span_ (p:UInt8→Bool):List UInt8→Nat
 | []=>0
 |c::r=>if p c then span_ p r+1 else 0
def numG:List UInt8→Nat→Bool→Nat×Bool
 | [],n,g=>(n,g)
 |c::r,n,g=>if 922337203685477580<n then numG r n true else numG r (10*n+(c.toNat-48)) g
def signs1:List UInt8:= [61,60,62,43,45,42,47,37,38,33,40,41,123,125,91,93,44,59]
def two_ (l:List UInt8):Bool:=l.take 2== [61,61]||l.take 2== [33,61]||l.take 2== [60,61]||l.take 2== [62,61]||l.take 2== [38,38]||l.take 2== [124,124]
def lexL:Nat→List UInt8→Nat→List Tok→List Tok×Nat×Nat
 |0,_,_,out=>(out,0,0)
 |f+1,l,i,out=>match l with
  | []=>(out,0,0)
  |c::r=>
   if wsC c then lexL f r (i+1) out
   else if c.toNat=35 then lexL f (l.drop (span_ (fun x=>x.toNat !=10) l)) (i+span_ (fun x=>x.toNat !=10) l) out
   else if letC c then
    if 32<span_ (fun x=>letC x||digC x) l then([],i,53)
    else lexL f (l.drop (span_ (fun x=>letC x||digC x) l)) (i+span_ (fun x=>letC x||digC x) l) (out++ [⟨0,l.take (span_ (fun x=>letC x||digC x) l),i⟩])
   else if digC c then
    if (numG (l.take (span_ digC l)) 0 false).2||9223372036854775807<(numG (l.take (span_ digC l)) 0 false).1 then([],i,53)
    else if (match l.drop (span_ digC l)with| []=>false|d::_=>letC d)|| (c.toNat==48&&1<span_ digC l)then([],i,50)
    else lexL f (l.drop (span_ digC l)) (i+span_ digC l) (out++ [⟨1,l.take (span_ digC l),i⟩])
   else if two_ l then lexL f (l.drop 2) (i+2) (out++ [⟨2,l.take 2,i⟩])
   else if signs1.contains c then lexL f r (i+1) (out++ [⟨2,[c],i⟩])
   else([],i,50)
def lexF (l:List UInt8):List Tok×Nat×Nat:=if 4096<l.length then([],0,53)else lexL (l.length+1) l 0 []
inductive Ex where
 |nil:Ex
 |mk (k:Nat) (n:Int) (nm:List UInt8) (a b:Ex):Ex
inductive Cn where
 |nil:Cn
 |mk (k:Nat) (a b:Ex) (p q:Cn) (nm:List UInt8):Cn
structure Ag where
 ptr:Bool
 nm:List UInt8
 e:Ex
structure Hd where
 k:Nat
 x:List UInt8
 y:List UInt8
 e:Ex
 f:Ex
 c:Cn
 args:List Ag
 at_:Nat
inductive Sl where
 |nil:Sl
 |cons (h:Hd) (t e r:Sl):Sl
structure Vr where
 nm:List UInt8
 ptr:Bool
structure Fnc where
 nm:List UInt8
 ps:List Vr
 ls:List Vr
 body:Sl
def Fnc.none:Fnc:=⟨[],[],[],.nil⟩
def Sl.len:Sl→Nat
 | .nil=>0
 | .cons _ _ _ r=>r.len+1
def Sl.snoc:Sl→Hd→Sl→Sl→Sl
 | .nil,h,t,e=> .cons h t e .nil
 | .cons h0 t0 e0 r,h,t,e=> .cons h0 t0 e0 (r.snoc h t e)
theorem Sl.snoc_len:∀(l:Sl) (h:Hd) (t e:Sl),(l.snoc h t e).len=l.len+1
 | .nil,_,_,_=>rfl
 | .cons _ _ _ r,h,t,e=>by show(r.snoc h t e).len+1=r.len+1+1;rw[Sl.snoc_len r h t e]
structure PC where
 tk:List Tok
 end_:Nat
structure PS where
 i:Nat
 e:Nat
 at_:Nat
 deep:Nat
 n:Nat
section
variable (C:PC)
def failF (k:Nat) (s:PS):PS:=if s.e=0 then{s with e:=k,at_:=match C.tk[s.i]? with|some t=>t.at_|none=>C.end_}else s
def isF (t:List UInt8) (s:PS):Bool:=s.e==0&&(match C.tk[s.i]? with|some x=>x.k !=1&&x.t==t|none=>false)
def PS.next (s:PS):PS:={s with i:=s.i+1}
def PS.shut (s:PS):PS:={s with deep:=s.deep-1}
def takeF (t:List UInt8) (s:PS):Bool×PS:=if isF C t s then(true,s.next)else(false,s)
def wantF (t:List UInt8) (s:PS):PS:=if isF C t s then s.next else failF C 51 s
def words_:List (List UInt8):= [[102,110],[118,97,114],[112,116,114],[105,102],[101,108,115,101],[119,104,105,108,101],[114,101,116,117,114,110],[97,115,115,101,114,116],[110,117,108,108],[99,101,108,108],[97,114,114,97,121]]
def wordF (t:List UInt8):Bool:=words_.any fun x=>x==t
def namedF (s:PS):Bool:=s.e==0&&(match C.tk[s.i]? with|some x=>x.k==0&& !wordF x.t|none=>false)
def nameF (s:PS):List UInt8×PS:=if namedF C s then((match C.tk[s.i]? with|some x=>x.t|none=> []),s.next)else([],failF C 51 s)
def openF (s:PS):Bool×PS:=if s.e≠0 then(false,s)else if 40≤s.deep then(false,failF C 52 s)else(true,{s with deep:=s.deep+1})
def w64 (x:Int):Int:=(x+9223372036854775808)%18446744073709551616-9223372036854775808
def numF:List UInt8→Int→Int
 | [],n=>n
 |c::r,n=>numF r (w64 (w64 (10*n)+(c-48).toNat))
def unF (sum un:PS→Ex×PS) (s:PS):Ex×PS:=
 if s.e≠0 then(.nil,failF C 51 s)else
 match C.tk[s.i]? with
 |none=>(.nil,failF C 51 s)
 |some x=>
  if isF C [45] s then
   if (openF C s).1 then(.mk 7 0 [] (un (openF C s).2.next).1 .nil,(un (openF C s).2.next).2.shut)else(.nil,(openF C s).2)
  else if isF C [40] s then
   if (openF C s).1 then((sum (openF C s).2.next).1,(wantF C [41] (sum (openF C s).2.next).2).shut)else(.nil,(openF C s).2)
  else if x.k=1 then(.mk 0 (numF x.t 0) [] .nil .nil,s.next)
  else if namedF C s then(.mk 1 0 (nameF C s).1 .nil .nil,(nameF C s).2)
  else(.nil,failF C 51 s)
def prodK (s:PS):Nat:=if isF C [42] s then 4 else if isF C [47] s then 5 else if isF C [37] s then 6 else 0
def sumK (s:PS):Nat:=if isF C [45] s then 3 else if isF C [43] s then 2 else 0
def moreL (kf:PS→Nat) (part:PS→Ex×PS):Nat→Ex→PS→Ex×PS
 |0,a,s=>(a,s)
 |f+1,a,s=>if s.e≠0 then(a,s)else if kf s=0 then(a,s)else moreL kf part f (.mk (kf s) 0 [] a (part s.next).1) (part s.next).2
def prodF (un:PS→Ex×PS) (s:PS):Ex×PS:=moreL (prodK C) un (C.tk.length+1) (un s).1 (un s).2
def sumF (un:PS→Ex×PS) (s:PS):Ex×PS:=moreL (sumK C) (prodF C un) (C.tk.length+1) (prodF C un s).1 (prodF C un s).2
def unD:Nat→PS→Ex×PS
 |0=>unF C (fun s=>(.nil,s)) (fun s=>(.nil,s))
 |d+1=>unF C (sumF C (unD d)) (unD d)
def prodD (d:Nat):PS→Ex×PS:=prodF C (unD C d)
def sumD (d:Nat):PS→Ex×PS:=sumF C (unD C d)
def cmpT:List (List UInt8):= [[61,61],[33,61],[60],[60,61],[62],[62,61]]
def cmpF (sum:PS→Ex×PS) (a:Ex):Nat→List (List UInt8)→PS→Cn×PS
 |_,[],s=>(.nil,failF C 51 s)
 |k,t::r,s=>if isF C t s then(.mk k a (sum s.next).1 .nil .nil [],(sum s.next).2)else cmpF sum a (k+1) r s
def txtAt (i:Nat):List UInt8:=match C.tk[i]? with|some x=>x.t|none=> []
def nullF (s:PS):Bool:=namedF C s&&(decide (s.i+2<C.tk.length)&&(txtAt C (s.i+2)== [110,117,108,108]&&(txtAt C (s.i+1)== [61,61]||txtAt C (s.i+1)== [33,61])))
def notF (sum:PS→Ex×PS) (cond not_:PS→Cn×PS) (s:PS):Cn×PS:=
 if isF C [33] s then
  if (openF C s).1 then(.mk 8 .nil .nil (not_ (openF C s).2.next).1 .nil [],(not_ (openF C s).2.next).2.shut)else(.nil,(openF C s).2)
 else if isF C [40] s then
  if (openF C s).1 then((cond (openF C s).2.next).1,(wantF C [41] (cond (openF C s).2.next).2).shut)else(.nil,(openF C s).2)
 else if nullF C s then
  ((if txtAt C (s.i+1)== [33,61]then .mk 8 .nil .nil (.mk 9 .nil .nil .nil .nil (txtAt C s.i)) .nil []else .mk 9 .nil .nil .nil .nil (txtAt C s.i)),{s with i:=s.i+3})
 else cmpF C sum (sum s).1 0 cmpT (sum s).2
def joinL (t:List UInt8) (k:Nat) (part:PS→Cn×PS):Nat→Cn→PS→Cn×PS
 |0,c,s=>(c,s)
 |f+1,c,s=>if isF C t s then joinL t k part f (.mk k .nil .nil c (part s.next).1 []) (part s.next).2 else(c,s)
def andF (not_:PS→Cn×PS) (s:PS):Cn×PS:=joinL C [38,38] 6 not_ (C.tk.length+1) (not_ s).1 (not_ s).2
def condF (not_:PS→Cn×PS) (s:PS):Cn×PS:=joinL C [124,124] 7 (andF C not_) (C.tk.length+1) (andF C not_ s).1 (andF C not_ s).2
def notD:Nat→PS→Cn×PS
 |0=>notF C (sumD C 0) (fun s=>(.nil,s)) (fun s=>(.nil,s))
 |d+1=>notF C (sumD C (d+1)) (condF C (notD d)) (notD d)
def andD (d:Nat):PS→Cn×PS:=andF C (notD C d)
def condD (d:Nat):PS→Cn×PS:=condF C (notD C d)
def argsL (sum:PS→Ex×PS):Nat→List Ag→PS→List Ag×PS
 |0,_,s=>([],s)
 |f+1,l,s=>if s.e≠0 then([],s)else
  if isF C [41] (sum s).2 then(l++ [⟨false,[],(sum s).1⟩],(sum s).2.next)
  else argsL sum f (l++ [⟨false,[],(sum s).1⟩]) (wantF C [44] (sum s).2)
def argsF (sum:PS→Ex×PS) (s:PS):List Ag×PS:=if isF C [41] s then([],s.next)else argsL C sum (C.tk.length+1) [] s
def valueF (sum:PS→Ex×PS) (h:Hd) (s:PS):Hd×PS:=
 if isF C [110,117,108,108] s then({h with k:=3},s.next)
 else if isF C [38] s then({h with k:=1,y:=(nameF C s.next).1},(nameF C s.next).2)
 else if isF C [42] s then({h with k:=4,y:=(nameF C s.next).1},(nameF C s.next).2)
 else if namedF C s&&(decide (s.i+1<C.tk.length)&&txtAt C (s.i+1)== [91])then
  ({h with k:=6,y:=(nameF C s).1,e:=(sum (nameF C s).2.next).1},wantF C [93] (sum (nameF C s).2.next).2)
 else if namedF C s&&(decide (s.i+1<C.tk.length)&&txtAt C (s.i+1)== [40])then
  ({h with k:=8,y:=(nameF C s).1,args:=(argsF C sum (nameF C s).2.next).1},(argsF C sum (nameF C s).2.next).2)
 else({h with k:=0,e:=(sum s).1},(sum s).2)
def knownF (s:PS):Bool:=namedF C s||isF C [42] s||isF C [114,101,116,117,114,110] s||isF C [97,115,115,101,114,116] s||isF C [105,102] s||isF C [119,104,105,108,101] s
def hd0 (n:Nat):Hd:=⟨0,[],[],.nil,.nil,.nil,[],n⟩
def PS.one (s:PS):PS:={s with n:=s.n+1}
def plainF (sum:PS→Ex×PS) (cond:PS→Cn×PS) (n:Nat) (s:PS):Hd×PS:=
 if isF C [114,101,116,117,114,110] s then({hd0 n with k:=9,e:=(sum s.next).1},(sum s.next).2)
 else if isF C [97,115,115,101,114,116] s then({hd0 n with k:=12,c:=(cond (wantF C [40] s.next)).1},wantF C [41] (cond (wantF C [40] s.next)).2)
 else if isF C [42] s then({hd0 n with k:=5,x:=(nameF C s.next).1,e:=(sum (wantF C [61] (nameF C s.next).2)).1},(sum (wantF C [61] (nameF C s.next).2)).2)
 else if isF C [40] (nameF C s).2 then({hd0 n with k:=8,y:=(nameF C s).1,args:=(argsF C sum (nameF C s).2.next).1},(argsF C sum (nameF C s).2.next).2)
 else if isF C [91] (nameF C s).2 then
  ({hd0 n with k:=7,y:=(nameF C s).1,e:=(sum (nameF C s).2.next).1,f:=(sum (wantF C [61] (wantF C [93] (sum (nameF C s).2.next).2))).1},(sum (wantF C [61] (wantF C [93] (sum (nameF C s).2.next).2))).2)
 else valueF C sum {hd0 n with x:=(nameF C s).1} (wantF C [61] (nameF C s).2)
def testF (cond:PS→Cn×PS) (s:PS):Cn×PS:=((cond (wantF C [40] s.next)).1,wantF C [41] (cond (wantF C [40] s.next)).2)
def stmtF (sum:PS→Ex×PS) (cond:PS→Cn×PS) (block:PS→Sl×PS) (s:PS):(Hd×Sl×Sl)×PS:=
 if knownF C s&&decide (200≤s.n)then((hd0 s.n,.nil,.nil),failF C 53 s)
 else if isF C [105,102] s.one then
  if isF C [101,108,115,101] (block (testF C cond s.one).2).2 then
   (({hd0 s.n with k:=10,c:=(testF C cond s.one).1},(block (testF C cond s.one).2).1,(block (block (testF C cond s.one).2).2.next).1),(block (block (testF C cond s.one).2).2.next).2)
  else(({hd0 s.n with k:=10,c:=(testF C cond s.one).1},(block (testF C cond s.one).2).1,.nil),(block (testF C cond s.one).2).2)
 else if isF C [119,104,105,108,101] s.one then
  (({hd0 s.n with k:=11,c:=(testF C cond s.one).1},(block (testF C cond s.one).2).1,.nil),(block (testF C cond s.one).2).2)
 else(((plainF C sum cond s.n s.one).1,.nil,.nil),wantF C [59] (plainF C sum cond s.n s.one).2)
def stmtsL (stmt:PS→(Hd×Sl×Sl)×PS):Nat→Sl→PS→Sl×PS
 |0,l,s=>(l,s)
 |f+1,l,s=>if s.e≠0 then(l,s)else if isF C [125] s then(l,s.next)else if C.tk.length≤s.i then(.nil,failF C 51 s)
  else stmtsL stmt f (l.snoc (stmt s).1.1 (stmt s).1.2.1 (stmt s).1.2.2) (stmt s).2
def stmtsF (stmt:PS→(Hd×Sl×Sl)×PS) (s:PS):Sl×PS:=stmtsL C stmt (C.tk.length+1) .nil s
def blockF (stmts:PS→Sl×PS) (s:PS):Sl×PS:=
 if isF C [123] s then
  if (openF C s).1 then((stmts (openF C s).2.next).1,(stmts (openF C s).2.next).2.shut)else(.nil,(openF C s).2)
 else(.nil,failF C 51 s)
def stmtD:Nat→PS→(Hd×Sl×Sl)×PS
 |0=>stmtF C (sumD C 0) (condD C 0) (blockF C fun s=>(.nil,s))
 |d+1=>stmtF C (sumD C (d+1)) (condD C (d+1)) (blockF C (stmtsF C (stmtD d)))
def stmtsD (d:Nat):PS→Sl×PS:=stmtsF C (stmtD C d)
def moreV (l:List Vr) (ptr:Bool) (most:Nat) (s:PS):List Vr×PS:=
 if namedF C s&&decide (most≤l.length)then(l,failF C 53 s)else(l++ [⟨(nameF C s).1,ptr⟩],(nameF C s).2)
def paramsL:Nat→List Vr→PS→List Vr×PS
 |0,l,s=>(l,s)
 |f+1,l,s=>if s.e≠0 then(l,s)else
  if isF C [41] (moreV C l (takeF C [42] s).1 6 (takeF C [42] s).2).2 then((moreV C l (takeF C [42] s).1 6 (takeF C [42] s).2).1,(moreV C l (takeF C [42] s).1 6 (takeF C [42] s).2).2.next)
  else paramsL f (moreV C l (takeF C [42] s).1 6 (takeF C [42] s).2).1 (wantF C [44] (moreV C l (takeF C [42] s).1 6 (takeF C [42] s).2).2)
def paramsF (s:PS):List Vr×PS:=if isF C [41] s then([],s.next)else paramsL C (C.tk.length+1) [] s
def localsL:Nat→List Vr→PS→List Vr×PS
 |0,l,s=>(l,s)
 |f+1,l,s=>if isF C [118,97,114] s||isF C [112,116,114] s then
   localsL f (moreV C l (isF C [112,116,114] s) 20 s.next).1 (wantF C [59] (moreV C l (isF C [112,116,114] s) 20 s.next).2)
  else(l,s)
def bodyAt (s:PS):PS:=if isF C [123] s&&(openF C s).1 then(openF C s).2.next else failF C 51 (if isF C [123] s then(openF C s).2 else s)
def restF (s:PS):PS:=if s.e=0∧s.i<C.tk.length then failF C 51 s else s
end
def headF (C:PC):List UInt8×PS:=nameF C (wantF C [102,110] ⟨0,0,0,0,0⟩)
def psF (C:PC):List Vr×PS:=paramsF C (wantF C [40] (headF C).2)
def lsF (C:PC):List Vr×PS:=localsL C (C.tk.length+1) [] (bodyAt C (psF C).2)
def bodyF (C:PC):Sl×PS:=stmtsD C 39 (lsF C).2
def funcP (C:PC):Fnc×Nat×Nat:=
 if (restF C (bodyF C).2).e≠0 then(Fnc.none,(restF C (bodyF C).2).at_,(restF C (bodyF C).2).e)
 else(⟨(headF C).1,(psF C).1,(lsF C).1,(bodyF C).1⟩,0,0)
def funcF (l:List UInt8):Fnc×Nat×Nat:=
 if (lexF l).2.2≠0 then(Fnc.none,(lexF l).2.1,(lexF l).2.2)else funcP ⟨(lexF l).1,l.length⟩
structure Stp (C:PC) (s s2:PS):Prop where
 i1:s.i≤s2.i
 i2:s.i≤C.tk.length→s2.i≤C.tk.length
 dp:s2.deep=s.deep
 er:s.e≠0→s2.e≠0
 nn:(s.n≤201∧(s.e=0→s.n≤200))→(s2.n≤201∧(s2.e=0→s2.n≤200))
 pl:∀M,(∀t∈C.tk,t.at_≤M)→C.end_≤M→s.at_≤M→s2.at_≤M
 ec:s.e≤100→s2.e≤100
section
variable {C:PC} {s s2 s3:PS}
theorem Stp.refl (s:PS):Stp C s s:=⟨Nat.le_refl _,id,rfl,id,id,fun _ _ _ h=>h,id⟩
theorem Stp.trans (h:Stp C s s2) (h2:Stp C s2 s3):Stp C s s3:=
 ⟨Nat.le_trans h.i1 h2.i1,fun x=>h2.i2 (h.i2 x),h2.dp.trans h.dp,fun x=>h2.er (h.er x),fun x=>h2.nn (h.nn x),fun M a b c=>h2.pl M a b (h.pl M a b c),fun x=>h2.ec (h.ec x)⟩
theorem Stp.fail (k:Nat) (hk:k≠0∧k≤100) (s:PS):Stp C s (failF C k s):=by
 unfold failF;by_cases h:s.e=0
 ·rw[if_pos h];refine⟨Nat.le_refl _,id,rfl,fun x=>absurd h x,fun x=>⟨x.1,fun y=>absurd y hk.1⟩,fun M a b c=> ?_,fun _=>hk.2⟩;show(match C.tk[s.i]? with|some t=>t.at_|none=>C.end_)≤M;split
  ·rename_i t ht;exact a t (List.mem_of_getElem? ht)
  ·exact b
 ·rw[if_neg h];exact Stp.refl s
theorem Stp.next (h:s.i<C.tk.length):Stp C s s.next:=⟨Nat.le_succ _,fun _=>h,rfl,id,id,fun _ _ _ x=>x,id⟩
theorem isF_lt {t:List UInt8} (h:isF C t s=true):s.i<C.tk.length:=by
 unfold isF at h
 cases hx:C.tk[s.i]? with
 |none=>rw[hx]at h;simp at h
 |some x=>exact(List.getElem?_eq_some_iff.1 hx).1
theorem isF_e {t:List UInt8} (h:isF C t s=true):s.e=0:=by
 unfold isF at h;simp at h;exact h.1
theorem namedF_lt (h:namedF C s=true):s.i<C.tk.length:=by
 unfold namedF at h
 cases hx:C.tk[s.i]? with
 |none=>rw[hx]at h;simp at h
 |some x=>exact(List.getElem?_eq_some_iff.1 hx).1
theorem Stp.is_ {t:List UInt8} (h:isF C t s=true):Stp C s s.next:=Stp.next (isF_lt h)
theorem Stp.take_ (t:List UInt8) (s:PS):Stp C s (takeF C t s).2:=by
 unfold takeF;split
 ·exact Stp.is_ ‹_›
 ·exact Stp.refl s
theorem Stp.want (t:List UInt8) (s:PS):Stp C s (wantF C t s):=by
 unfold wantF;split
 ·exact Stp.is_ ‹_›
 ·exact Stp.fail 51 (by decide) s
theorem Stp.name (s:PS):Stp C s (nameF C s).2:=by
 unfold nameF;split
 ·exact Stp.next (namedF_lt ‹_›)
 ·exact Stp.fail 51 (by decide) s
theorem openF_true (h:(openF C s).1=true):(openF C s).2={s with deep:=s.deep+1}∧s.e=0∧s.deep<40:=by
 unfold openF at h⊢;split at h
 ·cases h
 ·split at h
  ·cases h
  ·rw[if_neg ‹_›,if_neg ‹_›];exact⟨rfl,by omega,by omega⟩
theorem Stp.open_no (h:(openF C s).1=false):Stp C s (openF C s).2:=by
 unfold openF at h⊢;split
 ·exact Stp.refl s
 ·split
  ·exact Stp.fail 52 (by decide) s
  ·rw[if_neg ‹_›,if_neg ‹_›]at h;cases h
theorem Stp.bracket {t:List UInt8} (hi:isF C t s=true) (h:(openF C s).1=true) (h2:Stp C (openF C s).2.next s2):Stp C s s2.shut:=by
 obtain⟨e,_,_⟩:=openF_true h;rw[e]at h2;have hlt:=isF_lt hi;have a1:=h2.i1;have a2:=h2.dp;simp only[PS.next]at a1 a2;refine⟨by simp only[PS.shut];omega,fun _=>h2.i2 hlt,?_,fun x=>h2.er x,fun x=>h2.nn x,fun M a b c=>h2.pl M a b c,fun x=>h2.ec x⟩;simp only[PS.shut];omega
theorem unF_stp {sum un:PS→Ex×PS} (hs:∀s,Stp C s (sum s).2) (hu:∀s,Stp C s (un s).2) (s:PS):Stp C s (unF C sum un s).2:=by
 unfold unF;split
 ·exact Stp.fail 51 (by decide) s
 ·split
  ·exact Stp.fail 51 (by decide) s
  ·rename_i x hx;split
   ·split
    ·exact Stp.bracket ‹isF C [45] s=true› ‹_› (hu _)
    ·exact Stp.open_no (by simpa using ‹¬(openF C s).1=true›)
   ·split
    ·split
     ·exact Stp.bracket ‹isF C [40] s=true› ‹_› ((hs _).trans (Stp.want _ _))
     ·exact Stp.open_no (by simpa using ‹¬(openF C s).1=true›)
    ·split
     ·exact Stp.next (List.getElem?_eq_some_iff.1 hx).1
     ·split
      ·exact Stp.name s
      ·exact Stp.fail 51 (by decide) s
theorem prodK_lt (h:prodK C s≠0):s.i<C.tk.length:=by
 unfold prodK at h;split at h
 ·exact isF_lt ‹_›
 ·split at h
  ·exact isF_lt ‹_›
  ·split at h
   ·exact isF_lt ‹_›
   ·exact absurd rfl h
theorem sumK_lt (h:sumK C s≠0):s.i<C.tk.length:=by
 unfold sumK at h;split at h
 ·exact isF_lt ‹_›
 ·split at h
  ·exact isF_lt ‹_›
  ·exact absurd rfl h
theorem moreL_stp {kf:PS→Nat} {part:PS→Ex×PS} (hk:∀s,kf s≠0→s.i<C.tk.length) (hp:∀s,Stp C s (part s).2):∀(f:Nat) (a:Ex) (s:PS),Stp C s (moreL kf part f a s).2
 |0,_,s=>Stp.refl s
 |f+1,a,s=>by
  unfold moreL;split
  ·exact Stp.refl s
  ·split
   ·exact Stp.refl s
   ·exact((Stp.next (hk s ‹_›)).trans (hp _)).trans (moreL_stp hk hp f _ _)
theorem prodF_stp {un:PS→Ex×PS} (hu:∀s,Stp C s (un s).2) (s:PS):Stp C s (prodF C un s).2:=(hu s).trans (moreL_stp (fun _=>prodK_lt) hu _ _ _)
theorem sumF_stp {un:PS→Ex×PS} (hu:∀s,Stp C s (un s).2) (s:PS):Stp C s (sumF C un s).2:=(prodF_stp hu s).trans (moreL_stp (fun _=>sumK_lt) (prodF_stp hu) _ _ _)
theorem unD_stp:∀(d:Nat) (s:PS),Stp C s (unD C d s).2
 |0,s=>unF_stp (fun s=>Stp.refl s) (fun s=>Stp.refl s) s
 |d+1,s=>unF_stp (sumF_stp (unD_stp d)) (unD_stp d) s
theorem prodD_stp (d:Nat) (s:PS):Stp C s (prodD C d s).2:=prodF_stp (unD_stp d) s
theorem sumD_stp (d:Nat) (s:PS):Stp C s (sumD C d s).2:=sumF_stp (unD_stp d) s
theorem cmpF_stp {sum:PS→Ex×PS} (hs:∀s,Stp C s (sum s).2) (a:Ex):∀(l:List (List UInt8)) (k:Nat) (s:PS),Stp C s (cmpF C sum a k l s).2
 | [],_,s=>Stp.fail 51 (by decide) s
 |t::r,k,s=>by
  unfold cmpF;split
  ·exact(Stp.is_ ‹_›).trans (hs _)
  ·exact cmpF_stp hs a r (k+1) s
theorem notF_stp {sum:PS→Ex×PS} {cond not_:PS→Cn×PS} (hs:∀s,Stp C s (sum s).2) (hc:∀s,Stp C s (cond s).2) (hn:∀s,Stp C s (not_ s).2) (s:PS):Stp C s (notF C sum cond not_ s).2:=by
 unfold notF;split
 ·split
  ·exact Stp.bracket ‹isF C [33] s=true› ‹_› (hn _)
  ·exact Stp.open_no (by simpa using ‹¬(openF C s).1=true›)
 ·split
  ·split
   ·exact Stp.bracket ‹isF C [40] s=true› ‹_› ((hc _).trans (Stp.want _ _))
   ·exact Stp.open_no (by simpa using ‹¬(openF C s).1=true›)
  ·split
   ·rename_i h;unfold nullF at h;simp only[Bool.and_eq_true,decide_eq_true_eq]at h;exact⟨by simp,fun _=>by simp only;omega,rfl,id,id,fun _ _ _ x=>x,id⟩
   ·exact(hs s).trans (cmpF_stp hs _ _ _ _)
theorem joinL_stp {t:List UInt8} {k:Nat} {part:PS→Cn×PS} (hp:∀s,Stp C s (part s).2):∀(f:Nat) (c:Cn) (s:PS),Stp C s (joinL C t k part f c s).2
 |0,_,s=>Stp.refl s
 |f+1,c,s=>by
  unfold joinL;split
  ·exact((Stp.is_ ‹_›).trans (hp _)).trans (joinL_stp hp f _ _)
  ·exact Stp.refl s
theorem andF_stp {n:PS→Cn×PS} (hn:∀s,Stp C s (n s).2) (s:PS):Stp C s (andF C n s).2:=(hn s).trans (joinL_stp hn _ _ _)
theorem condF_stp {n:PS→Cn×PS} (hn:∀s,Stp C s (n s).2) (s:PS):Stp C s (condF C n s).2:=(andF_stp hn s).trans (joinL_stp (andF_stp hn) _ _ _)
theorem notD_stp:∀(d:Nat) (s:PS),Stp C s (notD C d s).2
 |0,s=>notF_stp (sumD_stp 0) (fun s=>Stp.refl s) (fun s=>Stp.refl s) s
 |d+1,s=>notF_stp (sumD_stp (d+1)) (condF_stp (notD_stp d)) (notD_stp d) s
theorem andD_stp (d:Nat) (s:PS):Stp C s (andD C d s).2:=andF_stp (notD_stp d) s
theorem condD_stp (d:Nat) (s:PS):Stp C s (condD C d s).2:=condF_stp (notD_stp d) s
theorem argsL_stp {sum:PS→Ex×PS} (hs:∀s,Stp C s (sum s).2):∀(f:Nat) (l:List Ag) (s:PS),Stp C s (argsL C sum f l s).2
 |0,_,s=>Stp.refl s
 |f+1,l,s=>by
  unfold argsL;split
  ·exact Stp.refl s
  ·split
   ·exact(hs s).trans (Stp.is_ ‹_›)
   ·exact((hs s).trans (Stp.want _ _)).trans (argsL_stp hs f _ _)
theorem argsF_stp {sum:PS→Ex×PS} (hs:∀s,Stp C s (sum s).2) (s:PS):Stp C s (argsF C sum s).2:=by
 unfold argsF;split
 ·exact Stp.is_ ‹_›
 ·exact argsL_stp hs _ _ _
theorem namedAt_next {b:Bool} (h:(namedF C s&&(decide (s.i+1<C.tk.length)&&b))=true):Stp C (nameF C s).2 (nameF C s).2.next:=by
 simp only[Bool.and_eq_true,decide_eq_true_eq]at h;refine Stp.next ?_;unfold nameF;rw[if_pos h.1];exact h.2.1
theorem valueF_stp {sum:PS→Ex×PS} (hs:∀s,Stp C s (sum s).2) (h:Hd) (s:PS):Stp C s (valueF C sum h s).2:=by
 unfold valueF;split
 ·exact Stp.is_ ‹_›
 ·split
  ·exact(Stp.is_ ‹_›).trans (Stp.name _)
  ·split
   ·exact(Stp.is_ ‹_›).trans (Stp.name _)
   ·split
    ·exact(((Stp.name s).trans (namedAt_next ‹_›)).trans (hs _)).trans (Stp.want _ _)
    ·split
     ·exact((Stp.name s).trans (namedAt_next ‹_›)).trans (argsF_stp hs _)
     ·exact hs s
theorem plainF_stp {sum:PS→Ex×PS} {cond:PS→Cn×PS} (hs:∀s,Stp C s (sum s).2) (hc:∀s,Stp C s (cond s).2) (n:Nat) (s:PS):Stp C s (plainF C sum cond n s).2:=by
 unfold plainF;split
 ·exact(Stp.is_ ‹_›).trans (hs _)
 ·split
  ·exact(((Stp.is_ ‹_›).trans (Stp.want _ _)).trans (hc _)).trans (Stp.want _ _)
  ·split
   ·exact(((Stp.is_ ‹_›).trans (Stp.name _)).trans (Stp.want _ _)).trans (hs _)
   ·split
    ·exact((Stp.name s).trans (Stp.is_ ‹_›)).trans (argsF_stp hs _)
    ·split
     ·exact(((((Stp.name s).trans (Stp.is_ ‹_›)).trans (hs _)).trans (Stp.want _ _)).trans (Stp.want _ _)).trans (hs _)
     ·exact((Stp.name s).trans (Stp.want _ _)).trans (valueF_stp hs _ _)
theorem testF_stp {cond:PS→Cn×PS} (hc:∀s,Stp C s (cond s).2) (h:s.i<C.tk.length):Stp C s (testF C cond s).2:=(((Stp.next h).trans (Stp.want _ _)).trans (hc _)).trans (Stp.want _ _)
theorem Stp.one (hn:s.n<200):Stp C s s.one:=⟨Nat.le_refl _,id,rfl,id,fun _=>⟨by simp only[PS.one];omega,fun _=>by simp only[PS.one];omega⟩,fun _ _ _ x=>x,id⟩
theorem blockF_stp {stmts:PS→Sl×PS} (hs:∀s,Stp C s (stmts s).2) (s:PS):Stp C s (blockF C stmts s).2:=by
 unfold blockF;split
 ·split
  ·exact Stp.bracket ‹isF C [123] s=true› ‹_› (hs _)
  ·exact Stp.open_no (by simpa using ‹¬(openF C s).1=true›)
 ·exact Stp.fail 51 (by decide) s
theorem isF_not {t:List UInt8} (h:s.e≠0):isF C t s=false:=by
 cases hx:isF C t s with
 |false=>rfl
 |true=>exact absurd (isF_e hx) h
theorem stmtF_stp {sum:PS→Ex×PS} {cond:PS→Cn×PS} {block:PS→Sl×PS} (hs:∀s,Stp C s (sum s).2) (hc:∀s,Stp C s (cond s).2) (hb:∀s,Stp C s (block s).2) (s:PS) (he:s.e=0):Stp C s (stmtF C sum cond block s).2:=by
 unfold stmtF;by_cases hk:knownF C s=true
 ·rw[hk];by_cases hn:200≤s.n
  ·rw[if_pos (by simpa using hn)];exact Stp.fail 53 (by decide) s
  ·rw[if_neg (by simpa using hn)];have h1:=Stp.one (C:=C) (s:=s) (by omega);split
   ·rename_i hi;have h2:=(h1.trans (testF_stp hc (isF_lt hi))).trans (hb _);split
    ·exact(h2.trans (Stp.is_ ‹_›)).trans (hb _)
    ·exact h2
   ·split
    ·rename_i hi;exact(h1.trans (testF_stp hc (isF_lt hi))).trans (hb _)
    ·exact(h1.trans (plainF_stp hs hc _ _)).trans (Stp.want _ _)
 ·have hk':knownF C s=false:=by simpa using hk
  rw[hk'];unfold knownF at hk';simp only[Bool.or_eq_false_iff]at hk';obtain⟨⟨⟨⟨⟨k1,k2⟩,k3⟩,k4⟩,k5⟩,k6⟩:=hk';rw[if_neg (by simp),if_neg (by rw[show isF C [105,102] s.one=isF C [105,102] s from rfl,k5];simp),if_neg (by rw[show isF C [119,104,105,108,101] s.one=isF C [119,104,105,108,101] s from rfl,k6];simp)]
  have hnm:(nameF C s.one).2=failF C 51 s.one:=by unfold nameF;rw[if_neg (by rw[show namedF C s.one=namedF C s from rfl,k1];simp)]
  have he1:(nameF C s.one).2.e≠0:=by rw[hnm];unfold failF;rw[if_pos (show s.one.e=0 from he)];simp
  have hp:plainF C sum cond s.n s.one=valueF C sum {hd0 s.n with x:=(nameF C s.one).1} (wantF C [61] (nameF C s.one).2):=by unfold plainF;rw[if_neg (by rw[show isF C [114,101,116,117,114,110] s.one=isF C [114,101,116,117,114,110] s from rfl,k3];simp),if_neg (by rw[show isF C [97,115,115,101,114,116] s.one=isF C [97,115,115,101,114,116] s from rfl,k4];simp),if_neg (by rw[show isF C [42] s.one=isF C [42] s from rfl,k2];simp),if_neg (by rw[isF_not he1];simp),if_neg (by rw[isF_not he1];simp)]
  rw[hp];have h2:=((Stp.want [61] (nameF C s.one).2).trans (valueF_stp hs {hd0 s.n with x:=(nameF C s.one).1} _)).trans (Stp.want (C:=C) [59] _)
  have h0:Stp C s (nameF C s.one).2:=by
   rw[hnm];have:=Stp.fail (C:=C) 51 (by decide) s.one
   exact⟨this.i1,this.i2,this.dp,this.er,fun x=>by
    rw[←hnm];refine⟨?_,fun y=>absurd y he1⟩;rw[hnm];unfold failF;rw[if_pos (show s.one.e=0 from he)];show s.n+1≤201;have:=x.2 he
    omega,this.pl,this.ec⟩
  exact h0.trans h2
theorem stmtsL_stp {stmt:PS→(Hd×Sl×Sl)×PS} (hs:∀s,s.e=0→Stp C s (stmt s).2):∀(f:Nat) (l:Sl) (s:PS),Stp C s (stmtsL C stmt f l s).2
 |0,_,s=>Stp.refl s
 |f+1,l,s=>by
  unfold stmtsL;split
  ·exact Stp.refl s
  ·split
   ·exact Stp.is_ ‹_›
   ·split
    ·exact Stp.fail 51 (by decide) s
    ·exact(hs s (by omega)).trans (stmtsL_stp hs f _ _)
theorem stmtsF_stp {stmt:PS→(Hd×Sl×Sl)×PS} (hs:∀s,s.e=0→Stp C s (stmt s).2) (s:PS):Stp C s (stmtsF C stmt s).2:=stmtsL_stp hs _ _ _
theorem stmtD_stp:∀(d:Nat) (s:PS),s.e=0→Stp C s (stmtD C d s).2
 |0,s,he=>stmtF_stp (sumD_stp 0) (condD_stp 0) (blockF_stp fun s=>Stp.refl s) s he
 |d+1,s,he=>stmtF_stp (sumD_stp (d+1)) (condD_stp (d+1)) (blockF_stp (stmtsF_stp (stmtD_stp d))) s he
theorem stmtsD_stp (d:Nat) (s:PS):Stp C s (stmtsD C d s).2:=stmtsF_stp (stmtD_stp d) s
def blockD (C:PC):Nat→PS→Sl×PS
 |0=>blockF C fun s=>(.nil,s)
 |d+1=>blockF C (stmtsD C d)
theorem blockD_stp:∀(d:Nat) (s:PS),Stp C s (blockD C d s).2
 |0,s=>blockF_stp (fun s=>Stp.refl s) s
 |d+1,s=>blockF_stp (stmtsD_stp d) s
theorem failF_e (k:Nat) (hk:k≠0) (s:PS):(failF C k s).e≠0:=by
 unfold failF;split
 ·exact hk
 ·assumption
theorem moreV_stp (l:List Vr) (p:Bool) (m:Nat) (s:PS):Stp C s (moreV C l p m s).2:=by
 unfold moreV;split
 ·exact Stp.fail 53 (by decide) s
 ·exact Stp.name s
theorem paramsL_stp:∀(f:Nat) (l:List Vr) (s:PS),Stp C s (paramsL C f l s).2
 |0,_,s=>Stp.refl s
 |f+1,l,s=>by
  unfold paramsL;split
  ·exact Stp.refl s
  ·split
   ·exact((Stp.take_ _ s).trans (moreV_stp _ _ _ _)).trans (Stp.is_ ‹_›)
   ·exact(((Stp.take_ _ s).trans (moreV_stp _ _ _ _)).trans (Stp.want _ _)).trans (paramsL_stp f _ _)
theorem paramsF_stp (s:PS):Stp C s (paramsF C s).2:=by
 unfold paramsF;split
 ·exact Stp.is_ ‹_›
 ·exact paramsL_stp _ _ _
theorem localsL_stp:∀(f:Nat) (l:List Vr) (s:PS),Stp C s (localsL C f l s).2
 |0,_,s=>Stp.refl s
 |f+1,l,s=>by
  unfold localsL;split
  ·rename_i h
   have hlt:s.i<C.tk.length:=by simp only[Bool.or_eq_true]at h;rcases h with h|h<;>exact isF_lt h
   exact(((Stp.next hlt).trans (moreV_stp _ _ _ _)).trans (Stp.want _ _)).trans (localsL_stp f _ _)
  ·exact Stp.refl s
end
def kindL:List Vr→List UInt8→Nat
 | [],_=>0
 |v::l,x=>if v.nm==x then(if v.ptr then 2 else 1)else kindL l x
def Ex.name:Ex→List UInt8
 | .nil=> []
 | .mk _ _ nm _ _=>nm
section
variable (K:List UInt8→Nat)
def intsF:Ex→Bool
 | .nil=>true
 | .mk k _ nm a b=>if k=1 then K nm !=2 else intsF a&&intsF b
def condsF:Cn→Bool
 | .nil=>true
 | .mk k a b p q nm=>if k=9 then K nm==2 else intsF K a&&intsF K b&&condsF p&&condsF q
def ptrF:Ex→Bool
 | .nil=>false
 | .mk k _ nm _ _=>k==1&&K nm==2
def argF (a:Ag):Ag×Bool:=if a.ptr then(a,K a.nm==2)else if ptrF K a.e then(⟨true,a.e.name,.nil⟩,true)else(a,intsF K a.e)
def argsR (l:List Ag):List Ag×Bool:=(l.map fun a=>(argF K a).1,l.all fun a=>(argF K a).2)
def stmtR (h:Hd):Hd×Bool:=
 if h.k=0 then(if K h.x=2 then(if ptrF K h.e then(⟨2,h.x,h.e.name,.nil,.nil,.nil,[],h.at_⟩,true)else(h,false))else(h,intsF K h.e))
 else if h.k=2 then(h,K h.x==2&&K h.y==2)
 else if h.k=1 then(h,K h.x==2&&K h.y==0)
 else if h.k=3 then(h,K h.x==2)
 else if h.k=4 then(h,K h.x !=2&&K h.y==2)
 else if h.k=5 then(h,K h.x==2&&intsF K h.e)
 else if h.k=6 then(h,K h.x !=2&&K h.y==0&&intsF K h.e)
 else if h.k=7 then(h,K h.y==0&&intsF K h.e&&intsF K h.f)
 else if h.k=8 then({h with args:=(argsR K h.args).1},((h.x== []||K h.x !=2)&&K h.y==0)&&(argsR K h.args).2)
 else if h.k=9 then(h,intsF K h.e)
 else(h,condsF K h.c)
def turned (h:Hd):Bool:=h.k==0&&K h.x==2&&ptrF K h.e
def stmtsR:Sl→Sl×Option Nat
 | .nil=>(.nil,none)
 | .cons h t e r=>
  if (stmtR K h).2 then
   (if turned K h then
    (match (stmtsR r).2 with|some at_=>(.nil,some at_)|none=>(.cons (stmtR K h).1 .nil .nil (stmtsR r).1,none))
   else match (stmtsR t).2 with
    |some at_=>(.nil,some at_)
    |none=>match (stmtsR e).2 with
     |some at_=>(.nil,some at_)
     |none=>match (stmtsR r).2 with|some at_=>(.nil,some at_)|none=>(.cons (stmtR K h).1 (stmtsR t).1 (stmtsR e).1 (stmtsR r).1,none))
  else(.nil,some h.at_)
def freeP:Ex→Bool
 | .nil=>true
 | .mk k _ nm a b=>(k !=1||K nm !=2)&&freeP a&&freeP b
def condP:Cn→Bool
 | .nil=>true
 | .mk k a b p q nm=>(k !=9||K nm==2)&&freeP K a&&freeP K b&&condP p&&condP q
def argP (a:Ag):Bool:=if a.ptr then K a.nm==2 else ptrF K a.e||freeP K a.e
def soundP (h:Hd):Bool:=
 if h.k=0 then(if K h.x=2 then ptrF K h.e else freeP K h.e)
 else if h.k=2 then K h.x==2&&K h.y==2
 else if h.k=1 then K h.x==2&&K h.y==0
 else if h.k=3 then K h.x==2
 else if h.k=4 then K h.x !=2&&K h.y==2
 else if h.k=5 then K h.x==2&&freeP K h.e
 else if h.k=6 then K h.x !=2&&K h.y==0&&freeP K h.e
 else if h.k=7 then K h.y==0&&(freeP K h.e&&freeP K h.f)
 else if h.k=8 then(h.x== []||K h.x !=2)&&K h.y==0&&h.args.all (argP K)
 else if h.k=9 then freeP K h.e
 else if h.k=10∨h.k=11∨h.k=12 then condP K h.c
 else true
def firstP:Sl→Option Nat
 | .nil=>none
 | .cons h t e r=>if soundP K h then(match firstP t with|some a=>some a|none=>match firstP e with|some a=>some a|none=>firstP r)else some h.at_
def argL (a:Ag):Ag:=if ptrF K a.e&& !a.ptr then⟨true,a.e.name,.nil⟩else a
def headL (h:Hd):Hd:=if ptrF K h.e&&h.k==0 then{h with k:=2,y:=h.e.name,e:= .nil,args:=h.args.map (argL K)}else{h with args:=h.args.map (argL K)}
def listP:Sl→Sl
 | .nil=> .nil
 | .cons h t e r=> .cons (headL K h) (listP t) (listP e) (listP r)
end
def WfE:Ex→Prop
 | .nil=>True
 | .mk k _ _ a b=>(k=1→a= .nil∧b= .nil)∧WfE a∧WfE b
def WfC:Cn→Prop
 | .nil=>True
 | .mk k a b p q _=>(k=9→a= .nil∧b= .nil∧p= .nil∧q= .nil)∧WfE a∧WfE b∧WfC p∧WfC q
structure WfH (h:Hd) (tt ee:Sl):Prop where
 e:WfE h.e
 f:WfE h.f
 c:WfC h.c
 a:∀a∈h.args,WfE a.e∧(a.ptr=true→a.e=Ex.nil)
 args:h.k≠8→h.args= []
 k0:h.k=0→h.f= .nil∧h.c= .nil∧tt= .nil∧ee= .nil
 k2:h.k=2→h.e= .nil
 k:h.k≤12
def WfS:Sl→Prop
 | .nil=>True
 | .cons h t e r=>WfH h t e∧WfS t∧WfS e∧WfS r
section
variable {K:List UInt8→Nat}
theorem ints_free:∀{e:Ex},WfE e→intsF K e=freeP K e
 | .nil,_=>rfl
 | .mk k n nm a b,⟨h1,ha,hb⟩=>by
  unfold intsF freeP;by_cases hk:k=1
  ·obtain⟨rfl,rfl⟩:=h1 hk;rw[if_pos hk];simp[hk,freeP]
  ·rw[if_neg hk,ints_free ha,ints_free hb]
   have:(k !=1)=true:=by simpa using hk
   rw[this,Bool.true_or,Bool.true_and]
theorem conds_cond:∀{c:Cn},WfC c→condsF K c=condP K c
 | .nil,_=>rfl
 | .mk k a b p q nm,⟨h1,ha,hb,hp,hq⟩=>by
  unfold condsF condP;by_cases hk:k=9
  ·obtain⟨rfl,rfl,rfl,rfl⟩:=h1 hk;rw[if_pos hk];simp[hk,freeP,condP]
  ·rw[if_neg hk,ints_free ha,ints_free hb,conds_cond hp,conds_cond hq]
   have:(k !=9)=true:=by simpa using hk
   rw[this,Bool.true_or,Bool.true_and]
theorem hd_args {h:Hd} (e:h.args= []):({h with args:= []}:Hd)=h:=by
 cases h;simp only at e;rw[e]
theorem args_all:∀{l:List Ag},(∀a∈l,WfE a.e∧(a.ptr=true→a.e=Ex.nil))→(argsR K l).2=l.all (argP K)∧(argsR K l).1=l.map (argL K)
 | [],_=>⟨rfl,rfl⟩
 |a::l,h=>by
  obtain⟨i1,i2⟩:=args_all (l:=l) fun x hx=>h x (List.mem_cons_of_mem _ hx);obtain⟨h1,h2⟩:=h a (List.mem_cons_self ..);unfold argsR at i1 i2⊢;simp only at i1 i2
  have e1:(argF K a).2=argP K a:=by
   unfold argF argP
   cases hp:a.ptr with
   |true=>simp
   |false=>
    cases hq:ptrF K a.e with
    |true=>simp
    |false=>simp[ints_free h1]
  have e2:(argF K a).1=argL K a:=by
   unfold argF argL
   cases hp:a.ptr with
   |true=>simp
   |false=>
    cases hq:ptrF K a.e with
    |true=>simp
    |false=>simp
  exact⟨by rw[List.all_cons,List.all_cons,i1,e1],by rw[List.map_cons,List.map_cons,i2,e2]⟩
theorem stmt_sound {h:Hd} {t e:Sl} (H:WfH h t e):(stmtR K h).2=soundP K h:=by
 have he:=ints_free (K:=K) H.e;have hf:=ints_free (K:=K) H.f;have hc:=conds_cond (K:=K) H.c;have ha:=(args_all (K:=K) H.a).1;have hk:=H.k;unfold stmtR soundP;rw[he,hf,hc,ha];by_cases h0:h.k=0
 ·rw[if_pos h0,if_pos h0];by_cases hx:K h.x=2
  ·rw[if_pos hx,if_pos hx]
   cases hp:ptrF K h.e with
   |true=>rw[if_pos rfl]
   |false=>rw[if_neg (by simp)]
  ·rw[if_neg hx,if_neg hx]
 rw[if_neg h0,if_neg h0];by_cases h2:h.k=2
 ·rw[if_pos h2,if_pos h2]
 rw[if_neg h2,if_neg h2];by_cases h1:h.k=1
 ·rw[if_pos h1,if_pos h1]
 rw[if_neg h1,if_neg h1];by_cases h3:h.k=3
 ·rw[if_pos h3,if_pos h3]
 rw[if_neg h3,if_neg h3];by_cases h4:h.k=4
 ·rw[if_pos h4,if_pos h4]
 rw[if_neg h4,if_neg h4];by_cases h5:h.k=5
 ·rw[if_pos h5,if_pos h5]
 rw[if_neg h5,if_neg h5];by_cases h6:h.k=6
 ·rw[if_pos h6,if_pos h6]
 rw[if_neg h6,if_neg h6];by_cases h7:h.k=7
 ·rw[if_pos h7,if_pos h7,Bool.and_assoc]
 rw[if_neg h7,if_neg h7];by_cases h8:h.k=8
 ·rw[if_pos h8,if_pos h8]
 rw[if_neg h8,if_neg h8];by_cases h9:h.k=9
 ·rw[if_pos h9,if_pos h9]
 rw[if_neg h9,if_neg h9,if_pos (by omega)]
theorem ptr_not_free:∀{e:Ex},ptrF K e=true→freeP K e=false
 | .nil,h=>by cases h
 | .mk k n nm a b,h=>by unfold ptrF at h;simp at h;unfold freeP;simp[h.1,h.2]
theorem stmt_head {h:Hd} {t e:Sl} (H:WfH h t e) (hs:(stmtR K h).2=true):(stmtR K h).1=headL K h:=by
 have ha:=(args_all (K:=K) H.a).2;have hargs:=H.args;have hk0:=H.k0;unfold stmtR at hs⊢;unfold headL;by_cases h0:h.k=0
 ·have e0:=hargs (by omega);obtain⟨f0,c0,_⟩:=hk0 h0;rw[if_pos h0]at hs⊢;split
  ·rename_i hx;rw[if_pos hx]at hs;split
   ·rename_i hp;rw[hp,h0];simp[e0,f0,c0]
   ·rename_i hp;rw[if_neg hp]at hs;cases hs
  ·rename_i hx;rw[if_neg hx]at hs
   have:ptrF K h.e=false:=by
    cases hp:ptrF K h.e with
    |false=>rfl
    |true=>
     have:=ptr_not_free hp;rw[←ints_free H.e]at this;rw[this]at hs;cases hs
   rw[this];simp only[Bool.false_and,Bool.false_eq_true,if_false,e0,List.map_nil];exact(hd_args e0).symm
 ·have hb:(h.k==0)=false:=by simpa using h0
  simp only[hb,Bool.and_false,Bool.false_eq_true,if_false];by_cases h8:h.k=8
  ·rw[if_neg h0,if_neg (by omega),if_neg (by omega),if_neg (by omega),if_neg (by omega),if_neg (by omega),if_neg (by omega),if_neg (by omega),if_pos h8];simp only[ha]
  ·have e0:=hargs h8
   have:h={h with args:=h.args.map (argL K)}:=by rw[e0];exact(hd_args e0).symm
   rw[←this];simp only[if_neg h0,if_neg h8]
   repeat' split
   all_goals rfl
theorem stmts_first:∀{l:Sl},WfS l→(stmtsR K l).2=firstP K l∧((stmtsR K l).2=none→(stmtsR K l).1=listP K l)
 | .nil,_=>⟨rfl,fun _=>rfl⟩
 | .cons h t e r,⟨H,ht,he,hr⟩=>by
  obtain⟨t1,t2⟩:=stmts_first ht;obtain⟨e1,e2⟩:=stmts_first he;obtain⟨r1,r2⟩:=stmts_first hr;have hs:=stmt_sound (K:=K) H;unfold stmtsR firstP listP;rw[←hs]
  cases hso:(stmtR K h).2 with
  |false=>simp
  |true=>
   have hh:=stmt_head H hso;simp only[if_true]
   cases htu:turned K h with
   |true=>
    have hk:h.k=0:=by unfold turned at htu;simp at htu;exact htu.1.1
    obtain⟨_,_,rfl,rfl⟩:=H.k0 hk;simp only[if_true,firstP,listP];rw[←r1]
    cases hr2:(stmtsR K r).2 with
    |some a=>simp
    |none=>simp[hh,r2 hr2]
   |false=>
    simp only[Bool.false_eq_true,if_false];rw[←t1,←e1,←r1]
    cases ht2:(stmtsR K t).2 with
    |some a=>simp
    |none=>
     cases he2:(stmtsR K e).2 with
     |some a=>simp
     |none=>
      cases hr2:(stmtsR K r).2 with
      |some a=>simp
      |none=>simp[hh,t2 ht2,e2 he2,r2 hr2]
end
end Go.Proofs.YtpndglghpojjkaaGreat
namespace Go.Proofs.YtpndglghpojjkaaGreat
open Go.RowKit Go.Deep
def Tok.cells (t:Tok):List Value:= [.int .i64 t.k,.string (strV t.t),.int .i64 t.at_]
structure PL where
 g:Nat
 A:Option Addr
 c:Nat
structure PC.Fit (C:PC):Prop where
 len:C.tk.length≤4096
 end_:C.end_≤4096
 at_:∀t∈C.tk,t.at_≤4096
 txt:∀t∈C.tk,t.t.length≤4096∧t.k≤2
structure PS.Ok (C:PC) (s:PS):Prop where
 i:s.i≤C.tk.length
 n:s.n≤1000
 at_:s.at_≤4096
 e:s.e≤100
 deep:s.deep≤40
def PS.cells (C:PC) (L:PL) (s:PS):Array Value:= #[.slice L.A C.tk.length L.c,.int .i64 s.i,.int .i64 C.end_,.int .i64 s.e,.int .i64 s.at_,.int .i64 s.deep,.int .i64 s.n]
structure PAt (C:PC) (L:PL) (s:PS) (w:World):Prop where
 fit:C.Fit
 ok:s.Ok C
 hold:Holds w L.g 70 (s.cells C L)
 row:Row w L.g L.A (C.tk.flatMap Tok.cells)
def PL.v (L:PL):Value:= .pointer (some ⟨L.g,0,none⟩)
section
variable {C:PC} {L:PL} {s s2:PS} {w w':World}
theorem PAt.lt (h:PAt C L s w):L.g<w.heap.size:=h.hold.lt
theorem PAt.below {B:Nat} (h:PAt C L s w) (hb:Below B w w') (hB:L.g<B):PAt C L s w':=
 ⟨h.fit,h.ok,h.hold.below hb hB,h.row.keep fun p hp=>hb.cell (by omega)⟩
theorem PAt.up (h:PAt C L s w) (hb:Below w.heap.size w w'):PAt C L s w':=h.below hb h.lt
theorem PAt.writes {M:List (Option Nat)} (h:PAt C L s w) (hW:Writes M w w') (hM:∀k,some k∈M→L.g<k):PAt C L s w':=
 ⟨h.fit,h.ok,hW.holds h.hold fun e=>by have:=hM _ e;omega,hW.row h.row (Nat.le_of_lt h.lt) fun hn e=>by
  obtain⟨b,off,hA,hb,_⟩:=h.row hn;rw[hA]at e;have:=hM b e
  omega⟩
theorem PAt.store (h:PAt C L s w) (i:Nat) (v:Value) (hc:(s.cells C L).setIfInBounds i v=s2.cells C L) (ho:s2.Ok C):PAt C L s2 (w.setCell ⟨L.g,i,none⟩ v)∧Writes [some L.g] w (w.setCell ⟨L.g,i,none⟩ v):=by
 refine⟨⟨h.fit,ho,?_,h.row.keep fun p hp=> ?_⟩,Writes.store w (by simp) v⟩
 ·rw[←hc];exact h.hold.store i v
 ·exact World.cell?_of_block (Below.heap_setCell w ⟨L.g,i,none⟩ v p.block (by simp only;omega))
theorem PAt.facts (h:PAt C L s w):L.g<w.heap.size∧w.cell? ⟨L.g,0,none⟩=some (.slice L.A C.tk.length L.c)∧w.cell? ⟨L.g,1,none⟩=some (.int .i64 s.i)∧w.cell? ⟨L.g,2,none⟩=some (.int .i64 C.end_)∧w.cell? ⟨L.g,3,none⟩=some (.int .i64 s.e)∧
  w.cell? ⟨L.g,4,none⟩=some (.int .i64 s.at_)∧w.cell? ⟨L.g,5,none⟩=some (.int .i64 s.deep)∧w.cell? ⟨L.g,6,none⟩=some (.int .i64 s.n)∧(∀i,w.frozen? ⟨L.g,i,none⟩=false):=
 ⟨h.lt,by rw[h.hold.cell];rfl,by rw[h.hold.cell];rfl,by rw[h.hold.cell];rfl,by rw[h.hold.cell];rfl,by rw[h.hold.cell];rfl,by rw[h.hold.cell];rfl,by rw[h.hold.cell];rfl,fun i=>h.hold.frozen i⟩
theorem PAt.bounds (h:PAt C L s w):C.tk.length≤4096∧C.end_≤4096∧s.i≤C.tk.length∧s.e≤100∧s.at_≤4096∧s.deep≤40∧s.n≤1000:=⟨h.fit.len,h.fit.end_,h.ok.i,h.ok.e,h.ok.at_,h.ok.deep,h.ok.n⟩
theorem tok_at (l:List Tok):∀(k:Nat) (hk:k<l.length) (r:Nat) (v:Value),l[k].cells[r]? =some v→(l.flatMap Tok.cells)[k*3+r]? =some v:=by
 induction l with
 |nil=>intro k hk;simp at hk
 |cons a l ih=>
  intro k hk r v h;rw[List.flatMap_cons]
  cases k with
  |zero=>
   have hr:r<a.cells.length:=(List.getElem?_eq_some_iff.1 h).1;rw[Nat.zero_mul,Nat.zero_add,List.getElem?_append_left hr];exact h
  |succ k=>
   have hc:a.cells.length=3:=rfl;rw[List.getElem?_append_right (by rw[hc];omega),hc];have:=ih k (by simpa using hk) r v (by simpa using h);rw[←this];congr 1;omega
theorem PAt.tok (h:PAt C L s w) {k:Nat} (hk:k<C.tk.length):∃b off,L.A=some ⟨b,off,none⟩∧b<L.g∧w.cell? ⟨b,off+k*3,none⟩=some (.int .i64 C.tk[k].k)∧w.cell? ⟨b,off+k*3+1,none⟩=some (.string (strV C.tk[k].t))∧w.cell? ⟨b,off+k*3+2,none⟩=some (.int .i64 C.tk[k].at_):=by
 obtain⟨b,off,e,hb,hc⟩:=h.row (by
  intro e;have:=tok_at C.tk k hk 0 _ rfl;rw[e]at this
  cases this)
 exact⟨b,off,e,hb,by have:=hc _ _ (tok_at C.tk k hk 0 _ rfl);simpa[Nat.add_assoc]using this,by have:=hc _ _ (tok_at C.tk k hk 1 _ rfl);simpa[Nat.add_assoc]using this,by have:=hc _ _ (tok_at C.tk k hk 2 _ rfl);simpa[Nat.add_assoc]using this⟩
end
theorem below_drewN {B:Nat} {w w':World} (h:Below B w w') (n:Nat):Below B w (w'.drewN n):=⟨h.os,h.tape,h.output,h.size,h.block⟩
theorem strV_toList (l:List UInt8):(strV l).toList=l:=by
 unfold strV;rw[ByteArray.toList_eq]
theorem pfail_any {C:PC} {L:PL} (w:World) (s:PS) (k:Nat) (hP:PAt C L s w) (hk:k≠0∧k≤100):
  Calls Tryz.prog 35 #[.pointer (some ⟨L.g,0,none⟩),.int .i64 k] w fun e w'=>e= .returned (.tuple #[])∧PAt C L (failF C k s) w'∧Writes [some L.g] w w':=by
 obtain⟨h0,c0,c1,c2,c3,c4,c5,c6,hfz⟩:=hP.facts;obtain⟨b1,b2,b3,b4,b5,b6,b7⟩:=hP.bounds;by_cases he:s.e=0
 ·have he':((s.e:Int)==0)=true:=by simp;omega
  have s1:=hP.store (s2:={s with e:=k}) 3 (.int .i64 k) rfl ⟨hP.ok.i,hP.ok.n,hP.ok.at_,hk.2,hP.ok.deep⟩;have s2:=s1.1.store (s2:={s with e:=k,at_:=C.end_}) 4 (.int .i64 C.end_) rfl ⟨hP.ok.i,hP.ok.n,b2,hk.2,hP.ok.deep⟩;have hW:=zi (s1.2.trans s2.2);obtain⟨wa,hwa⟩:∃x,x=(w.setCell ⟨L.g,3,none⟩ (.int .i64 k)).setCell ⟨L.g,4,none⟩ (.int .i64 C.end_):=⟨_,rfl⟩;rw[←hwa]at s2 hW;have hPa:=s2.1;clear s1 s2 hP;obtain⟨a0,d0,d1,d2,d3,d4,d5,d6,dfz⟩:=hPa.facts;by_cases hi:s.i<C.tk.length
  ·have hF:failF C k s={s with e:=k,at_:=C.tk[s.i].at_}:=by unfold failF;rw[if_pos he,List.getElem?_eq_getElem hi]
   rw[hF];clear hF;obtain⟨b,off,hA,hbg,t0,t1,t2⟩:=hPa.tok hi;have hPa:=zi hPa;go_enter Tryz.func35,Tryz.ntmps35;go_wp2_with fail;rw[←hwa];go_quiet (fail);have hPb:=hPa.out.up (below_drewN (Below.refl _ wa) nq);have hWb:=zi (hW.out.trans (Writes.of_below (below_drewN (Below.refl _ wa) nq) _));obtain⟨wb,hwb⟩:∃x,x=wa.drewN nq:=⟨_,rfl⟩;rw[←hwb]at hPb hWb⊢;clear hwb a0 d0 d1 d2 d3 d4 d5 d6 dfz t0 t1 t2 hPa hwa hW;obtain⟨a0,d0,d1,d2,d3,d4,d5,d6,dfz⟩:=hPb.facts;obtain⟨b',off',hA',hbg,t0,t1,t2⟩:=hPb.tok hi;rw[hA]at hA';injection hA' with hA';injection hA' with hb1 hb2;subst hb1 hb2;have hPb:=zi hPb;go_wp2_with fail
   go_still_tail 14,(by kernel_rfl)
   have hPc:=hPb.out.up (Below.refl _ wb).drew;have hWc:=hWb.out.trans (Writes.of_below (Below.refl _ wb).drew _);change wpList _ _ _ _ _ wb.drew;obtain⟨wc,hwc⟩:∃x,x=wb.drew:=⟨_,rfl⟩;rw[←hwc]at hPc hWc⊢;clear hwc a0 d0 d1 d2 d3 d4 d5 d6 dfz t0 t1 t2 hPb hWb;obtain⟨a0,d0,d1,d2,d3,d4,d5,d6,dfz⟩:=hPc.facts;have hPc:=zi hPc;have hWc:=zi hWc;go_wp2_with fail;go_end0;have s3:=hPc.out.store (s2:={s with e:=k,at_:=C.tk[s.i].at_}) 4 (.int .i64 C.tk[s.i].at_) rfl ⟨hPc.out.ok.i,hPc.out.ok.n,hPc.out.fit.at_ _ (List.getElem_mem hi),hPc.out.ok.e,hPc.out.ok.deep⟩;exact⟨rfl,s3.1,hWc.out.trans s3.2⟩
  ·have hF:failF C k s={s with e:=k,at_:=C.end_}:=by unfold failF;rw[if_pos he,List.getElem?_eq_none (by omega)]
   rw[hF];clear hF;have hPa:=zi hPa;go_enter Tryz.func35,Tryz.ntmps35;go_wp2_with fail;rw[←hwa];go_quiet (fail);go_wp2_with fail;go_end0;exact⟨rfl,hPa.out.up (below_drewN (Below.refl _ _) _),hW.out.trans (Writes.of_below (below_drewN (Below.refl _ _) _) _)⟩
 ·have he':((s.e:Int)==0)=false:=by simp;omega
  have hF:failF C k s=s:=by unfold failF;rw[if_neg he]
  rw[hF];clear hF;have hP:=zi hP;go_enter Tryz.func35,Tryz.ntmps35;go_wp2_with fail;go_end0;exact⟨rfl,hP.out,Writes.refl _ _⟩
theorem is_any {C:PC} {L:PL} (w:World) (s:PS) (t:List UInt8) (hP:PAt C L s w):
  Calls Tryz.prog 33 #[.pointer (some ⟨L.g,0,none⟩),.string ⟨t.toArray⟩] w fun e w'=>e= .returned (.bool (isF C t s))∧∃n,w'=w.drewN n:=by
 obtain⟨a0,d0,d1,d2,d3,d4,d5,d6,dfz⟩:=hP.facts;obtain⟨b1,b2,b3,b4,b5,b6,b7⟩:=hP.bounds;by_cases he:s.e=0
 ·have he':((s.e:Int)==0)=true:=by simp;omega
  by_cases hi:s.i<C.tk.length
  ·have hi2:decide (s.i<C.tk.length)=true:=by simpa using hi
   obtain⟨b,off,hA,hbg,t0,t1,t2⟩:=hP.tok hi;have hk:=(hP.fit.txt _ (List.getElem_mem hi)).2;obtain⟨x,hx⟩:∃x,x=C.tk[s.i]:=⟨_,rfl⟩
   have hF:isF C t s=(x.k !=1&&x.t==t):=by unfold isF;rw[he,List.getElem?_eq_getElem hi,hx];rfl
   rw[←hx]at t0 t1 t2 hk;rw[hF];clear hF hx hP he;by_cases h1:x.k=1
   ·have h1':((x.k:Int) !=1)=false:=by simp;omega
    have hR:(x.k !=1&&x.t==t)=false:=by simp[h1]
    rw[hR];clear hR h1;go_enter Tryz.func33,Tryz.ntmps33;go_wp2_with fail;go_quiet (fail);go_wp2_with fail;go_ret;exact⟨rfl,_,rfl⟩
   ·have h1':((x.k:Int) !=1)=true:=by simp;omega
    have hst:Hid (((strV x.t).toList==t)=(x.t==t)):=zi (by rw[strV_toList])
    have hR:(x.k !=1&&x.t==t)=(x.t==t):=by simp[h1]
    rw[hR];clear hR h1;go_enter Tryz.func33,Tryz.ntmps33;go_wp2_with fail;go_quiet (fail);go_wp2_with fail;go_ret;exact⟨ret_bool hst.out,_,rfl⟩
  ·have hi2:decide (s.i<C.tk.length)=false:=by simpa using hi
   have hF:isF C t s=false:=by unfold isF;rw[List.getElem?_eq_none (by omega)];simp
   rw[hF];clear hF hP he;go_enter Tryz.func33,Tryz.ntmps33;go_wp2_with fail;go_quiet (fail);go_wp2_with fail;go_ret;exact⟨rfl,_,rfl⟩
 ·have he':((s.e:Int)==0)=false:=by simp;omega
  have hF:isF C t s=false:=by unfold isF;rw[show(s.e==0)=false by simpa using he];rfl
  rw[hF];clear hF hP;go_enter Tryz.func33,Tryz.ntmps33;go_wp2_with fail;go_quiet (fail);go_wp2_with fail;go_ret;exact⟨rfl,_,rfl⟩
structure Moved (C:PC) (L:PL) (s2:PS) (w w':World):Prop where
 at_:PAt C L s2 w'
 wr:Writes [some L.g] w w'
section
variable {C:PC} {L:PL} {s s2 s3:PS} {w w' w'':World}
theorem Moved.refl (h:PAt C L s w):Moved C L s w w:=⟨h,Writes.refl _ _⟩
theorem Moved.drewN (h:PAt C L s w) (n:Nat):Moved C L s w (w.drewN n):=⟨h.up (below_drewN (Below.refl _ _) _),Writes.of_below (below_drewN (Below.refl _ _) _) _⟩
theorem Moved.trans (h:Moved C L s w w') (h2:Moved C L s2 w' w''):Moved C L s2 w w'':=⟨h2.at_,h.wr.trans h2.wr⟩
theorem Moved.below (h:Moved C L s w w') (hb:Below w'.heap.size w' w''):Moved C L s w w'':=⟨h.at_.up hb,h.wr.trans (Writes.of_below hb _)⟩
theorem Moved.store (h:Moved C L s w w') (i:Nat) (v:Value) (hc:(s.cells C L).setIfInBounds i v=s2.cells C L) (ho:s2.Ok C):Moved C L s2 w (w'.setCell ⟨L.g,i,none⟩ v):=by
 have:=h.at_.store (s2:=s2) i v hc ho;exact⟨this.1,h.wr.trans this.2⟩
theorem Moved.next (h:Moved C L s w w') (hi:s.i<C.tk.length):Moved C L s.next w (w'.setCell ⟨L.g,1,none⟩ (.int .i64 ((s.i:Int)+1))):=by
 refine h.store 1 _ ?_ ⟨hi,h.at_.ok.n,h.at_.ok.at_,h.at_.ok.e,h.at_.ok.deep⟩;simp[PS.cells,PS.next]
end
theorem take_any {C:PC} {L:PL} (w:World) (s:PS) (t:List UInt8) (hP:PAt C L s w):
  Calls Tryz.prog 31 #[.pointer (some ⟨L.g,0,none⟩),.string ⟨t.toArray⟩] w fun e w'=>e= .returned (.bool (isF C t s))∧Moved C L (if isF C t s then s.next else s) w w':=by
 obtain⟨b1,b2,b3,b4,b5,b6,b7⟩:=hP.bounds;have hc:=is_any w s t hP
 cases hi:isF C t s with
 |false=>
  rw[hi]at hc;simp only[Bool.false_eq_true,if_false];have hP:=zi hP;clear hi;go_enter Tryz.func31,Tryz.ntmps31;go_wp2_with fail;refine hc.mono ?_;rintro e w1 ⟨rfl,n,rfl⟩;go_wp2_with fail;go_ret;exact⟨rfl,Moved.drewN hP.out n⟩
 |true=>
  rw[hi]at hc;simp only[if_true];have hlt:=isF_lt hi;have hP:=zi hP;clear hi;go_enter Tryz.func31,Tryz.ntmps31;go_wp2_with fail;refine hc.mono ?_;clear hc;rintro e w1 ⟨rfl,n,hw1⟩;have hM:=Moved.drewN hP.out n;rw[←hw1]at hM;clear hw1 hP;obtain⟨a0,d0,d1,d2,d3,d4,d5,d6,dfz⟩:=hM.at_.facts;have hM:=zi hM;go_wp2_with fail;go_ret;exact⟨rfl,hM.out.next hlt⟩
theorem want_any {C:PC} {L:PL} (w:World) (s:PS) (t:List UInt8) (hP:PAt C L s w):
  Calls Tryz.prog 29 #[.pointer (some ⟨L.g,0,none⟩),.string ⟨t.toArray⟩] w fun e w'=>e= .returned (.tuple #[])∧Moved C L (wantF C t s) w w':=by
 have hc:=take_any w s t hP;unfold wantF
 cases hi:isF C t s with
 |false=>
  rw[hi]at hc;simp only[Bool.false_eq_true,if_false]at hc⊢;clear hi hP;go_enter Tryz.func29,Tryz.ntmps29;go_wp2_with fail;refine hc.mono ?_;clear hc;rintro e w1 ⟨rfl,hM⟩;have hc:=pfail_any w1 s 51 hM.at_ (by decide);have hM:=zi hM;go_wp2_with fail;refine hc.mono ?_;clear hc;rintro e w2 ⟨rfl,hP,hW⟩;have hM2:=zi (hM.out.trans ⟨hP,hW⟩);clear hP hW hM;go_wp2_with fail;go_end0;exact⟨rfl,hM2.out⟩
 |true=>
  rw[hi]at hc;simp only[if_true]at hc⊢;clear hi hP;go_enter Tryz.func29,Tryz.ntmps29;go_wp2_with fail;refine hc.mono ?_;clear hc;rintro e w1 ⟨rfl,hM⟩;have hM:=zi hM;go_wp2_with fail;go_end0;exact⟨rfl,hM.out⟩
def wordsV:List Value:=words_.map fun l=> .string (strV l)
theorem word_at (k:Nat) (hk:k<11):wordsV[k]? =some (.string (strV (words_.getD k []))):=by
 match k,hk with
 |0,_=>rfl
 |1,_=>rfl
 |2,_=>rfl
 |3,_=>rfl
 |4,_=>rfl
 |5,_=>rfl
 |6,_=>rfl
 |7,_=>rfl
 |8,_=>rfl
 |9,_=>rfl
 |10,_=>rfl
theorem any_take_snoc {α:Type} (l:List α) (p:α→Bool) (k:Nat) (hk:k<l.length):(l.take (k+1)).any p=((l.take k).any p||p l[k]):=by
 rw[List.take_succ_eq_append_getElem hk,List.any_append];simp
theorem word_any (w:World) (t:List UInt8):
  Calls Tryz.prog 116 #[.string (strV t)] w fun e w'=>e= .returned (.bool (wordF t))∧Below w.heap.size w w':=by
 obtain⟨wa,hwa⟩:∃x,x=w.alloc (.cells #[.string ⟨#[102,110]⟩,.string ⟨#[118,97,114]⟩,.string ⟨#[112,116,114]⟩,.string ⟨#[105,102]⟩,.string ⟨#[101,108,115,101]⟩,.string ⟨#[119,104,105,108,101]⟩,.string ⟨#[114,101,116,117,114,110]⟩,.string ⟨#[97,115,115,101,114,116]⟩,.string ⟨#[110,117,108,108]⟩,.string ⟨#[99,101,108,108]⟩,.string ⟨#[97,114,114,97,121]⟩] 9):=⟨_,rfl⟩
 have hH:Holds wa w.heap.size 9 wordsV.toArray:=by rw[hwa];exact Holds.new w _ _
 have hB:Hid (Below w.heap.size w wa):=zi (by rw[hwa];exact below_new w _);go_enter Tryz.func116,Tryz.ntmps116;go_wp2_with fail;rw[←hwa];clear hwa;obtain⟨g,hg⟩:∃x,x=w.heap.size:=⟨_,rfl⟩;rw[←hg]at hH⊢;clear hg;have hH:=zi hH
 go_loop [4] (fun i=>∃k:Nat,k≤11∧i= .int .i64 k∧Hid ((words_.take k).any (fun x=>x==t)=false)) (fun i=>11-(intOf i).toNat)
 case atStart=>exact⟨0,by omega,rfl,zi rfl⟩
 case round=>
  obtain⟨k,hk,rfl,hT⟩:=hrel;by_cases hlt:k<11
  ·have hlt':(k:Int)<11:=by omega
   have hc:wa.cell? ⟨g,k,none⟩=some (.string (strV (words_.getD k []))):=by rw[hH.out.cell];simpa using word_at k hlt
   have hs:=any_take_snoc words_ (fun x=>x==t) k hlt
   have hgd:words_.getD k []=words_[k]:=by rw[List.getD_eq_getElem?_getD,List.getElem?_eq_getElem hlt];rfl
   rw[hgd]at hc
   have he:((strV words_[k]).toList==(strV t).toList)=(words_[k]==t):=by rw[strV_toList,strV_toList]
   have hl:=hH.out.lt
   cases hx:(words_[k]==t)with
   |true=>
    rw[hx]at he;have hr:Hid (wordF t=true):=zi (List.any_eq_true.2 ⟨_,List.getElem_mem hlt,hx⟩);clear hs hx hgd;generalize strV words_[k]=sk at hc he;go_wp2_with fail;go_ret;rw[hr.out];exact⟨rfl,hB.out⟩
   |false=>
    rw[hx]at he;have hT2:Hid ((words_.take (k+1)).any (fun x=>x==t)=false):=zi (by rw[hs,hT.out,hx];rfl);clear hs hx hgd hT;generalize strV words_[k]=sk at hc he;go_wp2_with fail;go_round
    case rel=>exact⟨k+1,by omega,by go_num,hT2⟩
    case measure=>simp[intOf];omega
  ·obtain rfl:k=11:=by omega
   have hr:Hid (wordF t=false):=zi hT.out;clear hT;go_wp2_with fail;go_ret;rw[hr.out];exact⟨rfl,hB.out⟩
theorem named_any {C:PC} {L:PL} (w:World) (s:PS) (hP:PAt C L s w):
  Calls Tryz.prog 64 #[.pointer (some ⟨L.g,0,none⟩)] w fun e w'=>e= .returned (.bool (namedF C s))∧Below w.heap.size w w':=by
 obtain⟨a0,d0,d1,d2,d3,d4,d5,d6,dfz⟩:=hP.facts;obtain⟨b1,b2,b3,b4,b5,b6,b7⟩:=hP.bounds;by_cases he:s.e=0
 ·have he':((s.e:Int)==0)=true:=by simp;omega
  by_cases hi:s.i<C.tk.length
  ·have hi2:decide (s.i<C.tk.length)=true:=by simpa using hi
   obtain⟨b,off,hA,hbg,t0,t1,t2⟩:=hP.tok hi;have hk:=(hP.fit.txt _ (List.getElem_mem hi)).2;obtain⟨x,hx⟩:∃x,x=C.tk[s.i]:=⟨_,rfl⟩
   have hF:namedF C s=(x.k==0&& !wordF x.t):=by unfold namedF;rw[he,List.getElem?_eq_getElem hi,hx];rfl
   rw[←hx]at t0 t1 t2 hk;rw[hF];clear hF hx he;by_cases h1:x.k=0
   ·have h1':((x.k:Int)==0)=true:=by simp;omega
    have hR:(x.k==0&& !wordF x.t)= !wordF x.t:=by simp[h1]
    rw[hR];clear hR h1;have hP:=zi hP;go_enter Tryz.func64,Tryz.ntmps64;go_wp2_with fail
    go_still_tail 43,(by kernel_rfl)
    have hb:=(Below.refl w.heap.size w).drew;change wpList _ _ _ _ _ w.drew;obtain⟨wb,hwb⟩:∃x,x=w.drew:=⟨_,rfl⟩;rw[←hwb]at hb⊢;clear hwb;have hb:=zi hb;clear t0 t1 t2 d0 d1 d2 d3 d4 d5 d6 dfz;go_wp2_with fail;refine(word_any wb x.t).mono ?_;rintro e w1 ⟨rfl,hb1⟩;have hb2:=zi (hb.out.trans (hb1.mono hb.out.size));clear hb1;go_wp2_with fail;go_ret;exact⟨rfl,hb2.out⟩
   ·have h1':((x.k:Int)==0)=false:=by simp;omega
    have hR:(x.k==0&& !wordF x.t)=false:=by simp[h1]
    rw[hR];clear hR h1;go_enter Tryz.func64,Tryz.ntmps64;go_wp2_with fail;go_quiet (fail);go_wp2_with fail;go_ret;exact⟨rfl,below_drewN (Below.refl _ _) _⟩
  ·have hi2:decide (s.i<C.tk.length)=false:=by simpa using hi
   have hF:namedF C s=false:=by unfold namedF;rw[List.getElem?_eq_none (by omega)];simp
   rw[hF];clear hF hP he;go_enter Tryz.func64,Tryz.ntmps64;go_wp2_with fail;go_quiet (fail);go_wp2_with fail;go_ret;exact⟨rfl,below_drewN (Below.refl _ _) _⟩
 ·have he':((s.e:Int)==0)=false:=by simp;omega
  have hF:namedF C s=false:=by unfold namedF;rw[show(s.e==0)=false by simpa using he];rfl
  rw[hF];clear hF hP;go_enter Tryz.func64,Tryz.ntmps64;go_wp2_with fail;go_quiet (fail);go_wp2_with fail;go_ret;exact⟨rfl,below_drewN (Below.refl _ _) _⟩
theorem name_any {C:PC} {L:PL} (w:World) (s:PS) (hP:PAt C L s w):
  Calls Tryz.prog 30 #[.pointer (some ⟨L.g,0,none⟩)] w fun e w'=>e= .returned (.string (strV (nameF C s).1))∧Moved C L (nameF C s).2 w w'∧(nameF C s).1.length≤4096:=by
 have hc:=named_any w s hP
 cases hi:namedF C s with
 |false=>
  have hF:nameF C s=([],failF C 51 s):=by unfold nameF;rw[hi];rfl
  rw[hF];clear hF;rw[hi]at hc;have hP:=zi hP;clear hi;go_enter Tryz.func30,Tryz.ntmps30;go_wp2_with fail;refine hc.mono ?_;clear hc;rintro e w1 ⟨rfl,hb⟩;have hM:=(Moved.refl hP.out).below hb;have hc:=pfail_any w1 s 51 hM.at_ (by decide);have hM:=zi hM;clear hb;go_wp2_with fail;refine hc.mono ?_;clear hc;rintro e w2 ⟨rfl,hP,hW⟩;have hM2:=zi (hM.out.trans ⟨hP,hW⟩);clear hP hW hM;go_wp2_with fail;go_ret;exact⟨rfl,hM2.out,by simp⟩
 |true=>
  have hlt:=namedF_lt hi
  have hF:nameF C s=(C.tk[s.i].t,s.next):=by unfold nameF;rw[hi,List.getElem?_eq_getElem hlt];rfl
  rw[hF];clear hF;rw[hi]at hc;have htx:=(hP.fit.txt _ (List.getElem_mem hlt)).1;obtain⟨b1,b2,b3,b4,b5,b6,b7⟩:=hP.bounds;have hP:=zi hP;clear hi;go_enter Tryz.func30,Tryz.ntmps30;go_wp2_with fail;refine hc.mono ?_;clear hc;rintro e w1 ⟨rfl,hb⟩;have hM:=(Moved.refl hP.out).below hb;obtain⟨a0,d0,d1,d2,d3,d4,d5,d6,dfz⟩:=hM.at_.facts;have hM2:=hM.next hlt;obtain⟨wb,hwb⟩:∃x,x=w1.setCell ⟨L.g,1,none⟩ (.int .i64 ((s.i:Int)+1)):=⟨_,rfl⟩;rw[←hwb]at hM2;obtain⟨b,off,hA,hbg,t0,t1,t2⟩:=hM2.at_.tok hlt;have hwr:IntKind.i64.wrap ((s.i:Int)+1)=(s.i:Int)+1:=IntWalk.i64_in _ (by omega)
  have hsub:IntKind.i64.wrap ((s.i:Int)+1-1)=(s.i:Int):=by rw[IntWalk.i64_in _ (by omega)];omega
  clear hb hM hP;go_wp2_with fail;rw[←hwb];clear hwb a0 d0 d1 d2 d3 d4 d5 d6 dfz;obtain⟨a0,d0,d1,d2,d3,d4,d5,d6,dfz⟩:=hM2.at_.facts
  have e1:((s.next.i:Nat):Int)=(s.i:Int)+1:=by simp[PS.next]
  rw[e1]at d1;have hM2:=zi hM2;clear e1;go_quiet (fail);go_wp2_with fail;go_ret;exact⟨rfl,hM2.out.below (below_drewN (Below.refl _ _) _),htx⟩
theorem open_any {C:PC} {L:PL} (w:World) (s:PS) (hP:PAt C L s w):
  Calls Tryz.prog 34 #[.pointer (some ⟨L.g,0,none⟩)] w fun e w'=>e= .returned (.bool (openF C s).1)∧Moved C L (openF C s).2 w w':=by
 obtain⟨a0,d0,d1,d2,d3,d4,d5,d6,dfz⟩:=hP.facts;obtain⟨b1,b2,b3,b4,b5,b6,b7⟩:=hP.bounds;by_cases he:s.e=0
 ·have he':((s.e:Int) !=0)=false:=by simp;omega
  by_cases hd:40≤s.deep
  ·have hF:openF C s=(false,failF C 52 s):=by unfold openF;rw[if_neg (by omega),if_pos hd]
   rw[hF];have hc:=pfail_any w s 52 hP (by decide);clear hF hP;go_enter Tryz.func34,Tryz.ntmps34;go_wp2_with fail;refine hc.mono ?_;clear hc;rintro e w1 ⟨rfl,hP,hW⟩;have hM:=zi (⟨hP,hW⟩:Moved _ _ _ _ _);clear hP hW;go_wp2_with fail;go_ret;exact⟨rfl,hM.out⟩
  ·have hF:openF C s=(true,{s with deep:=s.deep+1}):=by unfold openF;rw[if_neg (by omega),if_neg hd]
   rw[hF];have hP:=zi hP;clear hF;go_enter Tryz.func34,Tryz.ntmps34;go_wp2_with fail;go_ret;exact⟨rfl,(Moved.refl hP.out).store 5 _ (by simp[PS.cells]) ⟨hP.out.ok.i,hP.out.ok.n,hP.out.ok.at_,hP.out.ok.e,by simp only;omega⟩⟩
 ·have he':((s.e:Int) !=0)=true:=by simp;omega
  have hF:openF C s=(false,s):=by unfold openF;rw[if_pos he]
  rw[hF];have hP:=zi hP;clear hF;go_enter Tryz.func34,Tryz.ntmps34;go_wp2_with fail;go_ret;exact⟨rfl,Moved.refl hP.out⟩
theorem numF_snoc (l:List UInt8) (c:UInt8) (n:Int):numF (l++ [c]) n=w64 (w64 (10*numF l n)+(c-48).toNat):=by
 induction l generalizing n with
 |nil=>rfl
 |cons a r ih=>exact ih _
theorem w64_eq (x:Int):w64 x=wrap64 x:=by unfold w64 wrap64;rfl
theorem sub48 (c:UInt8):(((c-48).toNat:Nat):Int)=((c.toNat:Int)-48)%256:=by
 have h:=c.toNat_lt;rw[UInt8.toNat_sub];simp;omega
theorem take_snocB (s:ByteArray) (k:Nat) (h:k<s.size):s.data.toList.take (k+1)=s.data.toList.take k++ [s[k]]:=by
 rw[List.take_succ_eq_append_getElem (by simpa using h)];rfl
theorem number_any (w:World) (s:ByteArray) (hs:s.size≤4096):
  Calls Tryz.prog 65 #[.string s] w fun e w'=>e= .returned (.int .i64 (numF s.data.toList 0))∧w'=w:=by
 go_enter Tryz.func65,Tryz.ntmps65;go_wp2_with fail
 go_loop [3,4] (fun n i=>∃k:Nat,k≤s.size∧i= .int .i64 k∧n= .int .i64 (numF (s.data.toList.take k) 0)) (fun _ i=>s.size-(intOf i).toNat)
 case atStart=>exact⟨0,Nat.zero_le _,rfl,rfl⟩
 case round=>
  obtain⟨k,hk,rfl,rfl⟩:=hrel;by_cases hlt:k<s.size
  ·have HS:Hid (numF (s.data.toList.take (k+1)) 0=wrap64 (wrap64 (10*numF (s.data.toList.take k) 0)+((s[k].toNat:Int)-48)%256)):=zi (by rw[take_snocB s k hlt,numF_snoc,w64_eq,w64_eq,sub48]);generalize numF (s.data.toList.take k) 0=n0 at HS⊢;go_wp2_with fail;go_round
   case rel=>exact⟨k+1,by omega,by go_num,by rw[HS.out]⟩
   case measure=>simp[intOf];omega
  ·go_wp2_with fail;go_ret;exact⟨ret_int (by rw[List.take_of_length_le (by simp;omega)]),rfl⟩
def ExAt (w:World) (S:Nat→Prop):Ex→Value→Prop
 | .nil,v=>v= .pointer none
 | .mk k n nm a b,v=>∃g va vb,v= .pointer (some ⟨g,0,none⟩)∧S g∧nm.length≤4096∧k≤7∧
   Holds w g 205 #[.int .i64 k,.int .i64 n,.string (strV nm),va,vb]∧ExAt w S a va∧ExAt w S b vb
theorem ExAt.keep {w w':World} {S:Nat→Prop} (hk:∀x,x<w.heap.size→S x→w'.heap[x]? =w.heap[x]?):∀{e:Ex} {v:Value},ExAt w S e v→ExAt w' S e v
 | .nil,_,h=>h
 | .mk _ _ _ _ _,_,h=>by obtain⟨g,va,vb,e,hS,hn,hk7,hH,ha,hb⟩:=h;exact⟨g,va,vb,e,hS,hn,hk7,(hk g hH.lt hS).trans hH,ha.keep hk,hb.keep hk⟩
theorem ExAt.mono {w:World} {S S':Nat→Prop} (hk:∀x,x<w.heap.size→S x→S' x):∀{e:Ex} {v:Value},ExAt w S e v→ExAt w S' e v
 | .nil,_,h=>h
 | .mk _ _ _ _ _,_,h=>by obtain⟨g,va,vb,e,hS,hn,hk7,hH,ha,hb⟩:=h;exact⟨g,va,vb,e,hk g hH.lt hS,hn,hk7,hH,ha.mono hk,hb.mono hk⟩
theorem ExAt.below {w w':World} {S:Nat→Prop} {e:Ex} {v:Value} (h:ExAt w S e v) (hb:Below w.heap.size w w'):ExAt w' S e v:=h.keep fun x hx _=>hb.block x hx
theorem ExAt.writes {w w':World} {M:List (Option Nat)} {S:Nat→Prop} {e:Ex} {v:Value} (h:ExAt w S e v) (hW:Writes M w w') (hM:∀k,some k∈M→¬S k):ExAt w' S e v:=h.keep fun x hx hS=>hW.block x hx fun e=>hM x e hS
def Ge (B x:Nat):Prop:=B≤x
theorem ExAt.ge {w:World} {B B':Nat} {e:Ex} {v:Value} (h:ExAt w (Ge B') e v) (hB:B≤B'):ExAt w (Ge B) e v:=h.mono fun _ _ h=>Nat.le_trans hB h
theorem ExAt.node {w:World} {S:Nat→Prop} {a b:Ex} {va vb:Value} (k:Nat) (n:Int) (nm:List UInt8) (hk:k≤7) (hn:nm.length≤4096) (hS:S w.heap.size) (ha:ExAt w S a va) (hb:ExAt w S b vb):
  ExAt (w.alloc (.cells #[.int .i64 k,.int .i64 n,.string (strV nm),va,vb] 205)) S (.mk k n nm a b) (.pointer (some ⟨w.heap.size,0,none⟩)):=
 ⟨_,va,vb,rfl,hS,hn,hk,Holds.new _ _ _,ha.below (below_new w _),hb.below (below_new w _)⟩
theorem ExAt.new {w:World} {B g:Nat} {a b:Ex} {va vb:Value} (k:Nat) (n:Int) (nm:List UInt8) (hk:k≤7) (hn:nm.length≤4096) (hB:B≤w.heap.size) (hg:g=w.heap.size) (ha:ExAt w (Ge B) a va) (hb:ExAt w (Ge B) b vb):
  ExAt (w.alloc (.cells #[.int .i64 k,.int .i64 n,.string (strV nm),va,vb] 205)) (Ge B) (.mk k n nm a b) (.pointer (some ⟨g,0,none⟩)):=by
 subst hg;exact ExAt.node k n nm hk hn hB ha hb
theorem setCell_size (w:World) (p:Addr) (v:Value):(w.setCell p v).heap.size=w.heap.size:=by simp[World.setCell]
theorem ExAt.pw {w w':World} {B g:Nat} {e:Ex} {v:Value} (h:ExAt w (Ge B) e v) (hW:Writes [some g] w w') (hg:g<B):ExAt w' (Ge B) e v:=
 h.writes hW fun k hk hge=>by simp at hk;subst hk;exact absurd hge (Nat.not_le_of_lt hg)
theorem ExAt.nil_ (w:World) (S:Nat→Prop):ExAt w S .nil (.pointer none):=rfl
theorem ExAt.vp {w:World} {S:Nat→Prop} {e:Ex} {v:Value} (h:ExAt w S e v):∃p,v= .pointer p:=by
 cases e with
 |nil=>exact⟨_,h⟩
 |mk k n nm a b=>
  obtain⟨g,va,vb,e,_⟩:=h;exact⟨_,e⟩
def ExPost (C:PC) (L:PL) (r:Ex×PS) (w:World) (e:Ending) (w':World):Prop:=∃p,e= .returned (.pointer p)∧Moved C L r.2 w w'∧ExAt w' (Ge w.heap.size) r.1 (.pointer p)
theorem ExPost.of {C:PC} {L:PL} {r:Ex×PS} {w w':World} {p:Option Addr} (h:Moved C L r.2 w w') (h2:ExAt w' (Ge w.heap.size) r.1 (.pointer p)):ExPost C L r w (.returned (.pointer p)) w':=⟨p,rfl,h,h2⟩
section
variable {C:PC} {L:PL} {s s2:PS} {w0 w w':World}
theorem is_from (hM:Moved C L s w0 w) (t:List UInt8) {b:Bool} (hb:isF C t s=b):Calls Tryz.prog 33 #[.pointer (some ⟨L.g,0,none⟩),.string ⟨t.toArray⟩] w fun e w'=>e= .returned (.bool b)∧Moved C L s w0 w'∧Writes [some L.g] w w':=by
 refine(is_any w s t hM.at_).mono ?_;rintro e w' ⟨rfl,n,rfl⟩;rw[hb];exact⟨rfl,hM.below (below_drewN (Below.refl _ _) _),Writes.of_below (below_drewN (Below.refl _ _) _) _⟩
theorem take_no (hM:Moved C L s w0 w) (t:List UInt8) (hb:isF C t s=false):Calls Tryz.prog 31 #[.pointer (some ⟨L.g,0,none⟩),.string ⟨t.toArray⟩] w fun e w'=>e= .returned (.bool false)∧Moved C L s w0 w'∧Writes [some L.g] w w':=by
 refine(take_any w s t hM.at_).mono ?_;rintro e w' ⟨rfl,h⟩;rw[hb]at h⊢;exact⟨rfl,hM.trans h,h.wr⟩
theorem take_yes (hM:Moved C L s w0 w) (t:List UInt8) (hb:isF C t s=true) (hs:s.next=s2):Calls Tryz.prog 31 #[.pointer (some ⟨L.g,0,none⟩),.string ⟨t.toArray⟩] w fun e w'=>e= .returned (.bool true)∧Moved C L s2 w0 w'∧Writes [some L.g] w w':=by
 subst hs;refine(take_any w s t hM.at_).mono ?_;rintro e w' ⟨rfl,h⟩;rw[hb]at h⊢;exact⟨rfl,hM.trans h,h.wr⟩
theorem want_from (hM:Moved C L s w0 w) (t:List UInt8) (hs:wantF C t s=s2):Calls Tryz.prog 29 #[.pointer (some ⟨L.g,0,none⟩),.string ⟨t.toArray⟩] w fun e w'=>e= .returned (.tuple #[])∧Moved C L s2 w0 w'∧Writes [some L.g] w w':=by
 subst hs;refine(want_any w s t hM.at_).mono ?_;rintro e w' ⟨rfl,h⟩;exact⟨rfl,hM.trans h,h.wr⟩
theorem fail_from (hM:Moved C L s w0 w) (k:Nat) (hk:k≠0∧k≤100) (hs:failF C k s=s2):Calls Tryz.prog 35 #[.pointer (some ⟨L.g,0,none⟩),.int .i64 k] w fun e w'=>e= .returned (.tuple #[])∧Moved C L s2 w0 w'∧Writes [some L.g] w w':=by
 subst hs;refine(pfail_any w s k hM.at_ hk).mono ?_;rintro e w' ⟨rfl,h1,h2⟩;exact⟨rfl,hM.trans ⟨h1,h2⟩,h2⟩
theorem named_from (hM:Moved C L s w0 w) {b:Bool} (hb:namedF C s=b):Calls Tryz.prog 64 #[.pointer (some ⟨L.g,0,none⟩)] w fun e w'=>e= .returned (.bool b)∧Moved C L s w0 w'∧Writes [some L.g] w w':=by
 refine(named_any w s hM.at_).mono ?_;rintro e w' ⟨rfl,h⟩;rw[hb];exact⟨rfl,hM.below h,Writes.of_below h _⟩
theorem name_from (hM:Moved C L s w0 w) {x:List UInt8} (hs:nameF C s=(x,s2)):Calls Tryz.prog 30 #[.pointer (some ⟨L.g,0,none⟩)] w fun e w'=>e= .returned (.string (strV x))∧Moved C L s2 w0 w'∧x.length≤4096∧Writes [some L.g] w w':=by
 refine(name_any w s hM.at_).mono ?_;rintro e w' ⟨rfl,h,hl⟩;rw[hs]at h hl⊢;exact⟨rfl,hM.trans h,hl,h.wr⟩
theorem open_from (hM:Moved C L s w0 w) {b:Bool} (hs:openF C s=(b,s2)):Calls Tryz.prog 34 #[.pointer (some ⟨L.g,0,none⟩)] w fun e w'=>e= .returned (.bool b)∧Moved C L s2 w0 w'∧Writes [some L.g] w w':=by
 refine(open_any w s hM.at_).mono ?_;rintro e w' ⟨rfl,h⟩;rw[hs]at h⊢;exact⟨rfl,hM.trans h,h.wr⟩
theorem Moved.shut (h:Moved C L s w0 w) (hd:1≤s.deep):Moved C L s.shut w0 (w.setCell ⟨L.g,5,none⟩ (.int .i64 ((s.deep:Int)-1))):=by
 refine h.store 5 _ ?_ ⟨h.at_.ok.i,h.at_.ok.n,h.at_.ok.at_,h.at_.ok.e,by have:=h.at_.ok.deep;simp only[PS.shut];omega⟩;simp[PS.cells,PS.shut];omega
theorem Moved.facts (h:Moved C L s w0 w):L.g<w.heap.size∧w.cell? ⟨L.g,0,none⟩=some (.slice L.A C.tk.length L.c)∧w.cell? ⟨L.g,1,none⟩=some (.int .i64 s.i)∧w.cell? ⟨L.g,2,none⟩=some (.int .i64 C.end_)∧w.cell? ⟨L.g,3,none⟩=some (.int .i64 s.e)∧
  w.cell? ⟨L.g,4,none⟩=some (.int .i64 s.at_)∧w.cell? ⟨L.g,5,none⟩=some (.int .i64 s.deep)∧w.cell? ⟨L.g,6,none⟩=some (.int .i64 s.n)∧(∀i,w.frozen? ⟨L.g,i,none⟩=false):=h.at_.facts
theorem Moved.bounds (h:Moved C L s w0 w):C.tk.length≤4096∧C.end_≤4096∧s.i≤C.tk.length∧s.e≤100∧s.at_≤4096∧s.deep≤40∧s.n≤1000:=h.at_.bounds
theorem i64_next {i:Nat} (h:i≤5000):IntKind.i64.wrap ((i:Int)+1)=(i:Int)+1:=IntWalk.i64_in _ (by omega)
theorem i64_pred {i:Nat} (h:1≤i) (h2:i≤5000):IntKind.i64.wrap ((i:Int)-1)=(i:Int)-1:=IntWalk.i64_in _ (by omega)
end
def Reads6 (f:Nat) (m:Nat) (F:PC→PS→Ex×PS):Prop:=∀(C:PC) (L:PL) (w:World) (s:PS),PAt C L s w→m≤s.deep→Calls Tryz.prog f #[.pointer (some ⟨L.g,0,none⟩)] w (ExPost C L (F C s) w)
theorem Reads6.from_ {f m:Nat} {F:PC→PS→Ex×PS} (h:Reads6 f m F) {C:PC} {L:PL} {s:PS} {w0 w:World} {r:Ex×PS} (hM:Moved C L s w0 w) (hm:m≤s.deep) (hr:F C s=r):
  Calls Tryz.prog f #[.pointer (some ⟨L.g,0,none⟩)] w fun e w'=>∃p,e= .returned (.pointer p)∧Moved C L r.2 w0 w'∧ExAt w' (Ge w0.heap.size) r.1 (.pointer p)∧Writes [some L.g] w w':=by
 subst hr;refine(h C L w s hM.at_ hm).mono ?_;rintro e w' ⟨p,rfl,h1,h2⟩;exact⟨p,rfl,hM.trans h1,h2.ge hM.wr.size,h1.wr⟩
theorem Moved.tok {C:PC} {L:PL} {s:PS} {w0 w:World} (h:Moved C L s w0 w) {k b off:Nat} {x:Tok} (hx:C.tk[k]? =some x) (hA:L.A=some ⟨b,off,none⟩):
  w.cell? ⟨b,off+k*3,none⟩=some (.int .i64 x.k)∧w.cell? ⟨b,off+k*3+1,none⟩=some (.string (strV x.t))∧w.cell? ⟨b,off+k*3+2,none⟩=some (.int .i64 x.at_):=by
 obtain⟨hk,rfl⟩:=List.getElem?_eq_some_iff.1 hx;obtain⟨b',off',hA',_,h1,h2,h3⟩:=h.at_.tok hk;rw[hA]at hA';injection hA' with hA';injection hA' with e1 e2;subst e1 e2;exact⟨h1,h2,h3⟩
theorem pair_of {α β:Type} {x:α×β} {a:α} (h:x.1=a):x=(a,x.2):=by rw[←h]
theorem un_step (m:Nat) (sum un:PC→PS→Ex×PS) (hsum:Reads6 130 (m+1) sum) (hun:Reads6 191 (m+1) un)
  (hs1:∀C s,Stp C s (sum C s).2) (hs2:∀C s,Stp C s (un C s).2):Reads6 191 m (fun C=>unF C (sum C) (un C)):=by
 intro C L w s hP hm;obtain⟨a0,d0,d1,d2,d3,d4,d5,d6,dfz⟩:=hP.facts;obtain⟨b1,b2,b3,b4,b5,b6,b7⟩:=hP.bounds;have hM:=zi (Moved.refl hP);have hlt0:=hP.lt;show Calls _ _ _ _ (ExPost C L (unF C (sum C) (un C) s) w);obtain⟨R,hR⟩:∃x,x=unF C (sum C) (un C) s:=⟨_,rfl⟩;rw[←hR];by_cases he:s.e=0
 case neg=>
  have he':((s.e:Int) !=0)=true:=by simp;omega
  have hF:Hid (R=(.nil,failF C 51 s)):=zi (by rw[hR];unfold unF;rw[if_pos he]);clear hP he hR;go_enter Tryz.func191,Tryz.ntmps191;go_wp2_with fail;go_quiet (fail);go_wp2_with fail;refine(fail_from (hM.out.below (below_drewN (Below.refl _ _) _)) 51 (by decide) rfl).mono ?_;rintro e w1 ⟨rfl,h1,-⟩;have h1:=zi h1;clear a0 d0 d1 d2 d3 d4 d5 d6 dfz;go_wp2_with fail;go_ret;rw[hF.out];exact ExPost.of h1.out (ExAt.nil_ _ _)
 have he':((s.e:Int) !=0)=false:=by simp;omega
 by_cases hi:s.i<C.tk.length
 case neg=>
  have hi2:decide (C.tk.length≤s.i)=true:=by simpa using hi
  have hF:Hid (R=(.nil,failF C 51 s)):=zi (by rw[hR];unfold unF;rw[if_neg (by omega),List.getElem?_eq_none (by omega)]);clear hP he hR;go_enter Tryz.func191,Tryz.ntmps191;go_wp2_with fail;go_quiet (fail);go_wp2_with fail;refine(fail_from (hM.out.below (below_drewN (Below.refl _ _) _)) 51 (by decide) rfl).mono ?_;rintro e w1 ⟨rfl,h1,-⟩;have h1:=zi h1;clear a0 d0 d1 d2 d3 d4 d5 d6 dfz;go_wp2_with fail;go_ret;rw[hF.out];exact ExPost.of h1.out (ExAt.nil_ _ _)
 have hi2:decide (C.tk.length≤s.i)=false:=by simpa using hi
 have hx:=List.getElem?_eq_getElem hi
 cases h45:isF C [45] s with
 |true=>
  cases ho:(openF C s).1 with
  |false=>
   have hF:Hid (R=(.nil,(openF C s).2)):=zi (by rw[hR];unfold unF;rw[if_neg (by omega),hx];simp only[h45,ho];rfl);have ho':=zi (pair_of ho);replace h45:=zi h45;clear hP he hx hR ho;go_enter Tryz.func191,Tryz.ntmps191;go_wp2_with fail;go_quiet (fail);go_wp2_with fail;refine(is_from (hM.out.below (below_drewN (Below.refl _ _) _)) [45] h45.out).mono ?_;rintro e w1 ⟨rfl,h1,-⟩;clear a0 d0 d1 d2 d3 d4 d5 d6 dfz;have h1:=zi h1;go_wp2_with fail;refine(open_from h1.out ho'.out).mono ?_;rintro e w2 ⟨rfl,h2,-⟩;have h2:=zi h2;go_wp2_with fail;go_ret;rw[hF.out];exact ExPost.of h2.out (ExAt.nil_ _ _)
  |true=>
   obtain⟨e1,_,hlt⟩:=openF_true ho;obtain⟨s2,hs2'⟩:∃x,x=(openF C s).2:=⟨_,rfl⟩;obtain⟨r,hr⟩:∃x,x=un C s2.next:=⟨_,rfl⟩;have hF:Hid (R=(.mk 7 0 [] r.1 .nil,r.2.shut)):=zi (by rw[hR,hr,hs2'];unfold unF;rw[if_neg (by omega),hx];simp only[h45,ho];rfl);have ho':Hid (openF C s=(true,s2)):=zi (by rw[hs2'];exact pair_of ho)
   have hi3:s2.i<C.tk.length:=by rw[hs2',e1];exact hi
   have hdp:m+1≤s2.next.deep:=by rw[hs2',e1];simp only[PS.next];omega
   have hd1:1≤r.2.deep:=by rw[hr,(hs2 C s2.next).dp];omega
   replace hr:=zi hr;replace h45:=zi h45;clear hP he hx hR ho e1 hs2';go_enter Tryz.func191,Tryz.ntmps191;go_wp2_with fail;go_quiet (fail);go_wp2_with fail;refine(is_from (hM.out.below (below_drewN (Below.refl _ _) _)) [45] h45.out).mono ?_;rintro e w1 ⟨rfl,h1,-⟩;clear a0 d0 d1 d2 d3 d4 d5 d6 dfz;have h1:=zi h1;go_wp2_with fail;refine(open_from h1.out ho'.out).mono ?_;rintro e w2 ⟨rfl,h2,-⟩;obtain⟨a0,d0,d1,d2,d3,d4,d5,d6,dfz⟩:=h2.facts;have h2:=zi h2;have hw1:=i64_next (i:=s2.i) (by omega);go_wp2_with fail;refine(hun.from_ (h2.out.next hi3) hdp hr.out.symm).mono ?_;rintro e w3 ⟨p,rfl,h3,hE,-⟩;clear a0 d0 d1 d2 d3 d4 d5 d6 dfz hw1 h2 h1;obtain⟨c1,c2,c3,c4,c5,c6,c7⟩:=h3.bounds;obtain⟨a0,d0,d1,d2,d3,d4,d5,d6,dfz⟩:=h3.facts;have h3:=zi h3;have hE:=zi hE;have hw1:=i64_pred hd1 (by omega);go_wp2_with fail;go_ret;rw[hF.out];have h4:=h3.out.shut hd1;have hst:Writes [some L.g] w3 (w3.setCell ⟨L.g,5,none⟩ (.int .i64 ((r.2.deep:Int)-1))):=Writes.store w3 (by simp) _;have hE2:=hE.out.pw hst hlt0
   exact ExPost.of (h4.below (below_new _ _)) (ExAt.new 7 0 [] (by decide) (by simp) (Nat.le_trans h3.out.wr.size hst.size) (setCell_size _ _ _).symm hE2 (ExAt.nil_ _ _))
 |false=>
  cases h40:isF C [40] s with
  |true=>
   cases ho:(openF C s).1 with
   |false=>
    have hF:Hid (R=(.nil,(openF C s).2)):=zi (by rw[hR];unfold unF;rw[if_neg (by omega),hx];simp only[h45,h40,ho];rfl);have ho':=zi (pair_of ho);replace h45:=zi h45;replace h40:=zi h40;clear hP he hx hR ho;go_enter Tryz.func191,Tryz.ntmps191;go_wp2_with fail;go_quiet (fail);go_wp2_with fail;refine(is_from (hM.out.below (below_drewN (Below.refl _ _) _)) [45] h45.out).mono ?_;rintro e w1 ⟨rfl,h1,-⟩;clear a0 d0 d1 d2 d3 d4 d5 d6 dfz;have h1:=zi h1;go_wp2_with fail;refine(is_from h1.out [40] h40.out).mono ?_;rintro e w2 ⟨rfl,h2,-⟩;have h2:=zi h2;go_wp2_with fail;refine(open_from h2.out ho'.out).mono ?_;rintro e w3 ⟨rfl,h3,-⟩;have h3:=zi h3;go_wp2_with fail;go_ret;rw[hF.out];exact ExPost.of h3.out (ExAt.nil_ _ _)
   |true=>
    obtain⟨e1,_,hlt⟩:=openF_true ho;obtain⟨s2,hs2'⟩:∃x,x=(openF C s).2:=⟨_,rfl⟩;obtain⟨r,hr⟩:∃x,x=sum C s2.next:=⟨_,rfl⟩;obtain⟨s3,hs3⟩:∃x,x=wantF C [41] r.2:=⟨_,rfl⟩;have hF:Hid (R=(r.1,s3.shut)):=zi (by rw[hR,hs3,hr,hs2'];unfold unF;rw[if_neg (by omega),hx];simp only[h45,h40,ho];rfl);have ho':Hid (openF C s=(true,s2)):=zi (by rw[hs2'];exact pair_of ho)
    have hi3:s2.i<C.tk.length:=by rw[hs2',e1];exact hi
    have hdp:m+1≤s2.next.deep:=by rw[hs2',e1];simp only[PS.next];omega
    have hd1:1≤s3.deep:=by rw[hs3,(Stp.want [41] r.2).dp,hr,(hs1 C s2.next).dp];omega
    replace hr:=zi hr;replace hs3:=zi hs3;replace h45:=zi h45;replace h40:=zi h40;clear hP he hx hR ho e1 hs2';go_enter Tryz.func191,Tryz.ntmps191;go_wp2_with fail;go_quiet (fail);go_wp2_with fail;refine(is_from (hM.out.below (below_drewN (Below.refl _ _) _)) [45] h45.out).mono ?_;rintro e w1 ⟨rfl,h1,-⟩;clear a0 d0 d1 d2 d3 d4 d5 d6 dfz;have h1:=zi h1;go_wp2_with fail;refine(is_from h1.out [40] h40.out).mono ?_;rintro e w2 ⟨rfl,h2,-⟩;have h2:=zi h2;go_wp2_with fail;refine(open_from h2.out ho'.out).mono ?_;rintro e w3 ⟨rfl,h3,-⟩;obtain⟨a0,d0,d1,d2,d3,d4,d5,d6,dfz⟩:=h3.facts;have h3:=zi h3;have hw1:=i64_next (i:=s2.i) (by omega);go_wp2_with fail;refine(hsum.from_ (h3.out.next hi3) hdp hr.out.symm).mono ?_;rintro e w4 ⟨p,rfl,h4,hE,-⟩;clear a0 d0 d1 d2 d3 d4 d5 d6 dfz hw1 h2 h1 h3;have h4:=zi h4;have hE:=zi hE;go_wp2_with fail;refine(want_from h4.out [41] hs3.out.symm).mono ?_;rintro e w5 ⟨rfl,h5,hW5⟩;have hE5:=zi (hE.out.pw hW5 hlt0);clear hW5 hE h4;obtain⟨c1,c2,c3,c4,c5,c6,c7⟩:=h5.bounds;obtain⟨a0,d0,d1,d2,d3,d4,d5,d6,dfz⟩:=h5.facts;have h5:=zi h5;have hw1:=i64_pred hd1 (by omega)
    go_wp2_with fail;go_ret;rw[hF.out];have h6:=h5.out.shut hd1;have hst:Writes [some L.g] w5 (w5.setCell ⟨L.g,5,none⟩ (.int .i64 ((s3.deep:Int)-1))):=Writes.store w5 (by simp) _;exact ExPost.of h6 (hE5.out.pw hst hlt0)
  |false=>
   obtain⟨x,hxx⟩:∃x,x=C.tk[s.i]:=⟨_,rfl⟩;have hxt:=(hP.fit.txt _ (List.getElem_mem hi));obtain⟨b,off,hA,hbg,t0,t1,t2⟩:=hP.tok hi;rw[←hxx]at hx hxt t0 t1 t2;by_cases hx1:x.k=1
   ·have hF:Hid (R=(.mk 0 (numF x.t 0) [] .nil .nil,s.next)):=zi (by rw[hR];unfold unF;rw[if_neg (by omega),hx];simp only[h45,h40,hx1];rfl);replace h45:=zi h45;replace h40:=zi h40
    have hx1':((x.k:Int)==1)=true:=by simp;omega
    replace hx:=zi hx;clear hP he hR hxx hx1;go_enter Tryz.func191,Tryz.ntmps191;go_wp2_with fail;go_quiet (fail);go_wp2_with fail;refine(is_from (hM.out.below (below_drewN (Below.refl _ _) _)) [45] h45.out).mono ?_;rintro e w1 ⟨rfl,h1,-⟩;clear a0 d0 d1 d2 d3 d4 d5 d6 dfz t0 t1 t2;have h1:=zi h1;go_wp2_with fail;refine(is_from h1.out [40] h40.out).mono ?_;rintro e w2 ⟨rfl,h2,-⟩;obtain⟨a0,d0,d1,d2,d3,d4,d5,d6,dfz⟩:=h2.facts;obtain⟨t0,t1,t2⟩:=h2.tok hx.out hA;have h2:=zi h2;clear h1;go_wp2_with fail;go_quiet (fail);have h3:=h2.out.below (below_drewN (Below.refl _ w2) nq);obtain⟨w3,hw3⟩:∃x,x=w2.drewN nq:=⟨_,rfl⟩;rw[←hw3]at h3⊢;clear hw3 a0 d0 d1 d2 d3 d4 d5 d6 dfz t0 t1 t2 h2;obtain⟨a0,d0,d1,d2,d3,d4,d5,d6,dfz⟩:=h3.facts;have h4:=h3.next hi;obtain⟨w4,hw4⟩:∃x,x=w3.setCell ⟨L.g,1,none⟩ (.int .i64 ((s.i:Int)+1)):=⟨_,rfl⟩;rw[←hw4]at h4;have hw1:=i64_next (i:=s.i) (by omega);go_wp2_with fail;rw[←hw4];clear hw4 a0 d0 d1 d2 d3 d4 d5 d6 dfz h3 hw1;obtain⟨a0,d0,d1,d2,d3,d4,d5,d6,dfz⟩:=h4.facts;obtain⟨t0,t1,t2⟩:=h4.tok hx.out hA
    have e1:((s.next.i:Nat):Int)=(s.i:Int)+1:=by simp[PS.next]
    rw[e1]at d1;clear e1;have h4:=zi h4
    have hsub:IntKind.i64.wrap ((s.i:Int)+1-1)=(s.i:Int):=by rw[IntWalk.i64_in _ (by omega)];omega
    have hsub2:IntKind.i64.wrap (s.i:Int)=(s.i:Int):=IntWalk.i64_in _ (by omega);have hnum:=number_any w4.drew (strV x.t) (by rw[strV_size];exact hxt.1)
    go_still_tail 12,(by kernel_rfl)
    have h5:=zi (h4.out.below (Below.refl _ w4).drew);change wpList _ _ _ _ _ w4.drew;obtain⟨w5,hw5⟩:∃x,x=w4.drew:=⟨_,rfl⟩;rw[←hw5]at h5 hnum⊢;clear hw5 a0 d0 d1 d2 d3 d4 d5 d6 dfz t0 t1 t2 h4 hsub hsub2;go_wp2_with fail;refine hnum.mono ?_;clear hnum;rintro e w6 ⟨rfl,hw6⟩;subst hw6;go_wp2_with fail;go_ret;rw[hF.out];exact ExPost.of (h5.out.below (below_new _ _)) (ExAt.new 0 (numF x.t 0) [] (by decide) (by simp) h5.out.wr.size rfl (ExAt.nil_ _ _) (ExAt.nil_ _ _))
   ·cases hn:namedF C s with
    |true=>
     obtain⟨nm,hnm⟩:∃y,y=(nameF C s).1:=⟨_,rfl⟩;obtain⟨s2,hs2'⟩:∃y,y=(nameF C s).2:=⟨_,rfl⟩;have hnf:Hid (nameF C s=(nm,s2)):=zi (by rw[hnm,hs2']);have hF:Hid (R=(.mk 1 0 nm .nil .nil,s2)):=zi (by rw[hR,hnm,hs2'];unfold unF;rw[if_neg (by omega),hx];simp only[h45,h40,hx1,hn];rfl);replace h45:=zi h45;replace h40:=zi h40;replace hn:=zi hn;replace hx:=zi hx
     have hx1':((x.k:Int)==1)=false:=by simp;omega
     clear hP he hR hxx hx1 hnm hs2';go_enter Tryz.func191,Tryz.ntmps191;go_wp2_with fail;go_quiet (fail);go_wp2_with fail;refine(is_from (hM.out.below (below_drewN (Below.refl _ _) _)) [45] h45.out).mono ?_;rintro e w1 ⟨rfl,h1,-⟩;clear a0 d0 d1 d2 d3 d4 d5 d6 dfz t0 t1 t2;have h1:=zi h1;go_wp2_with fail;refine(is_from h1.out [40] h40.out).mono ?_;rintro e w2 ⟨rfl,h2,-⟩;obtain⟨a0,d0,d1,d2,d3,d4,d5,d6,dfz⟩:=h2.facts;obtain⟨t0,t1,t2⟩:=h2.tok hx.out hA;have h2:=zi h2;clear h1;go_wp2_with fail;go_quiet (fail);go_wp2_with fail;refine(named_from (h2.out.below (below_drewN (Below.refl _ _) _)) hn.out).mono ?_;rintro e w3 ⟨rfl,h3,-⟩;clear a0 d0 d1 d2 d3 d4 d5 d6 dfz t0 t1 t2 h2;have h3:=zi h3;go_wp2_with fail;refine(name_from h3.out hnf.out).mono ?_;rintro e w4 ⟨rfl,h4,hl,-⟩;have h4:=zi h4;clear h3;go_wp2_with fail;go_ret;rw[hF.out];exact ExPost.of (h4.out.below (below_new _ _)) (ExAt.new 1 0 nm (by decide) hl h4.out.wr.size rfl (ExAt.nil_ _ _) (ExAt.nil_ _ _))
    |false=>
     have hF:Hid (R=(.nil,failF C 51 s)):=zi (by rw[hR];unfold unF;rw[if_neg (by omega),hx];simp only[h45,h40,hx1,hn];rfl);replace h45:=zi h45;replace h40:=zi h40;replace hn:=zi hn;replace hx:=zi hx
     have hx1':((x.k:Int)==1)=false:=by simp;omega
     clear hP he hR hxx hx1;go_enter Tryz.func191,Tryz.ntmps191;go_wp2_with fail;go_quiet (fail);go_wp2_with fail;refine(is_from (hM.out.below (below_drewN (Below.refl _ _) _)) [45] h45.out).mono ?_;rintro e w1 ⟨rfl,h1,-⟩;clear a0 d0 d1 d2 d3 d4 d5 d6 dfz t0 t1 t2;have h1:=zi h1;go_wp2_with fail;refine(is_from h1.out [40] h40.out).mono ?_;rintro e w2 ⟨rfl,h2,-⟩;obtain⟨a0,d0,d1,d2,d3,d4,d5,d6,dfz⟩:=h2.facts;obtain⟨t0,t1,t2⟩:=h2.tok hx.out hA;have h2:=zi h2;clear h1;go_wp2_with fail;go_quiet (fail);go_wp2_with fail;refine(named_from (h2.out.below (below_drewN (Below.refl _ _) _)) hn.out).mono ?_;rintro e w3 ⟨rfl,h3,-⟩;clear a0 d0 d1 d2 d3 d4 d5 d6 dfz t0 t1 t2 h2;have h3:=zi h3;go_wp2_with fail;refine(fail_from h3.out 51 (by decide) rfl).mono ?_;rintro e w4 ⟨rfl,h4,-⟩;have h4:=zi h4;clear h3;go_wp2_with fail;go_ret;rw[hF.out];exact ExPost.of h4.out (ExAt.nil_ _ _)
def left6 (L:PL) (w:World):Nat:=5000-(intOf ((w.cell? ⟨L.g,1,none⟩).getD undef)).toNat
theorem Moved.left {C:PC} {L:PL} {s:PS} {w0 w:World} (h:Moved C L s w0 w):left6 L w=5000-s.i:=by
 obtain⟨a0,d0,d1,d2,d3,d4,d5,d6,dfz⟩:=h.facts;unfold left6;rw[d1];simp[intOf]
structure MoreL (C:PC) (L:PL) (kf:PS→Nat) (part:PS→Ex×PS) (m:Nat) (R:Ex×PS) (f:Nat) (a:Ex) (s:PS) (p:Option Addr) (w0 w:World):Prop where
 eq:moreL kf part f a s=R
 fuel:C.tk.length<s.i+f
 dp:m≤s.deep
 mv:Moved C L s w0 w
 tree:ExAt w (Ge w0.heap.size) a (.pointer p)
theorem MoreL.stop {C:PC} {L:PL} {kf:PS→Nat} {part:PS→Ex×PS} {m:Nat} {R:Ex×PS} {f:Nat} {a:Ex} {s:PS} {p:Option Addr} {w0 w:World} (h:MoreL C L kf part m R f a s p w0 w) (hs:s.e≠0∨kf s=0):R=(a,s):=by
 rw[←h.eq]
 cases f with
 |zero=>rfl
 |succ f=>
  unfold moreL;rcases hs with hs|hs
  ·rw[if_pos hs]
  ·by_cases he:s.e≠0
   ·rw[if_pos he]
   ·rw[if_neg he,if_pos hs]
theorem MoreL.go_ {C:PC} {L:PL} {kf:PS→Nat} {part:PS→Ex×PS} {m:Nat} {R:Ex×PS} {f:Nat} {a:Ex} {s:PS} {p:Option Addr} {w0 w:World} (h:MoreL C L kf part m R f a s p w0 w) (he:s.e=0) {k:Nat} (hk:kf s=k) (hk0:k≠0) (hi:s.i<C.tk.length) (hp:∀s,Stp C s (part s).2):
  ∃f',moreL kf part f' (.mk k 0 [] a (part s.next).1) (part s.next).2=R∧C.tk.length<(part s.next).2.i+f'∧m≤(part s.next).2.deep∧s.i+1≤(part s.next).2.i:=by
 subst hk;have hi2:=(hp s.next).i1;have hd:=(hp s.next).dp;have hf:=h.fuel;have hdp:=h.dp;simp only[PS.next]at hi2 hd
 cases f with
 |zero=>omega
 |succ f=>
  refine⟨f,?_,by simp only[PS.next];omega,by simp only[PS.next];omega,hi2⟩;rw[←h.eq]
  conv=>rhs;unfold moreL
  rw[if_neg (by omega),if_neg hk0]
theorem prod_step (m:Nat) (un:PC→PS→Ex×PS) (hun:Reads6 191 m un) (hs:∀C s,Stp C s (un C s).2):Reads6 166 m (fun C=>prodF C (un C)):=by
 intro C L w s hP hm;have hM:=zi (Moved.refl hP);have hlt0:=hP.lt;have hlen:=hP.fit.len;show Calls _ _ _ _ (ExPost C L (prodF C (un C) s) w);obtain⟨R,hR⟩:∃x,x=prodF C (un C) s:=⟨_,rfl⟩;rw[←hR];obtain⟨r,hr⟩:∃x,x=un C s:=⟨_,rfl⟩;have hd:=(hs C s).dp;rw[←hr]at hd;have hR2:Hid (moreL (prodK C) (un C) (C.tk.length+1) r.1 r.2=R):=zi (by subst hr;exact hR.symm)
 have hdm:m≤r.2.deep:=by omega
 replace hr:=zi hr;clear hP hR hd;go_enter Tryz.func166,Tryz.ntmps166;go_wp2_with fail;refine(hun.from_ hM.out hm hr.out.symm).mono ?_;rintro e w1 ⟨p,rfl,h1,hE,-⟩;have hL1:Hid (MoreL C L (prodK C) (un C) m R (C.tk.length+1) r.1 r.2 p w w1):=zi ⟨hR2.out,by omega,hdm,h1,hE⟩;clear h1 hE hR2 hr hdm;go_wp2_with fail;go_loopw [3] (fun av wr=>∃(f:Nat) (a:Ex) (t:PS) (p:Option Addr),av= .pointer p∧Hid (MoreL C L (prodK C) (un C) m R f a t p w wr)) (fun _ wr=>left6 L wr)
 case atStart=>exact⟨_,_,_,p,rfl,hL1⟩
 clear hL1;obtain⟨f,a,t,q,rfl,hL⟩:=hrel;obtain⟨a0,d0,d1,d2,d3,d4,d5,d6,dfz⟩:=hL.out.mv.facts;obtain⟨b1,b2,b3,b4,b5,b6,b7⟩:=hL.out.mv.bounds;by_cases he:t.e=0
 case neg=>
  have he':((t.e:Int)==0)=false:=by simp;omega
  have hF:=zi (hL.out.stop (.inl he));go_wp2_with fail;go_ret;rw[hF.out];exact ExPost.of hL.out.mv hL.out.tree
 have he':((t.e:Int)==0)=true:=by simp;omega
 have he0:=zi he;clear he
 cases h42:isF C [42] t with
 |true=>
  have hk:prodK C t=4:=by unfold prodK;simp[h42]
  replace h42:=zi h42;have hi:=isF_lt h42.out;obtain⟨f',hE1,hE2,hE3,hE4⟩:=hL.out.go_ he0.out hk (by decide) hi (hs C);obtain⟨r,hr⟩:∃x,x=un C t.next:=⟨_,rfl⟩;rw[←hr]at hE1 hE2 hE3 hE4;replace hr:=zi hr;replace hE1:=zi hE1;clear hk;go_wp2_with fail;refine(is_from hL.out.mv [42] h42.out).mono ?_;rintro e v0 ⟨rfl,hV0,hW0⟩;have hT0:=zi (ExAt.pw (hL.out.tree) hW0 hlt0);clear hW0;clear a0 d0 d1 d2 d3 d4 d5 d6 dfz;obtain⟨a0,d0,d1,d2,d3,d4,d5,d6,dfz⟩:=hV0.facts;replace hV0:=zi hV0;have hw1:=i64_next (i:=t.i) (by omega);go_wp2_with fail;have hst:Writes [some L.g] v0 (v0.setCell ⟨L.g,1,none⟩ (.int .i64 ((t.i:Int)+1))):=Writes.store v0 (by simp) _;have hTs:=zi (hT0.out.pw hst hlt0);refine(hun.from_ (hV0.out.next hi) (by have:=hL.out.dp;simpa[PS.next]using this) hr.out.symm).mono ?_;rintro e w2 ⟨p2,rfl,h2,hE,hW2⟩;clear a0 d0 d1 d2 d3 d4 d5 d6 dfz hst;have hTa:=hTs.out.pw hW2 hlt0
  have hL2:Hid (MoreL C L (prodK C) (un C) m R f' (.mk 4 0 [] a r.1) r.2 (some ⟨w2.heap.size,0,none⟩) w (w2.alloc (.cells #[.int .i64 4,.int .i64 0,.string ⟨#[]⟩,.pointer q,.pointer p2] 205))):=
   zi ⟨hE1.out,hE2,hE3,h2.below (below_new _ _),ExAt.new 4 0 [] (by decide) (by simp) h2.wr.size rfl hTa hE⟩
  have hm1:=hL.out.mv.left;have hm2:=hL2.out.mv.left;have hb2:=hL2.out.mv.bounds.2.2.1;clear hTa h2 hE hW2 hE1 hTs;go_wp2_with fail;exact⟨⟨_,_,_,_,rfl,hL2⟩,by rw[hm1,hm2];omega⟩
 |false=>
  cases h47:isF C [47] t with
  |true=>
   have hk:prodK C t=5:=by unfold prodK;simp[h42,h47]
   replace h42:=zi h42;replace h47:=zi h47;have hi:=isF_lt h47.out;obtain⟨f',hE1,hE2,hE3,hE4⟩:=hL.out.go_ he0.out hk (by decide) hi (hs C);obtain⟨r,hr⟩:∃x,x=un C t.next:=⟨_,rfl⟩;rw[←hr]at hE1 hE2 hE3 hE4;replace hr:=zi hr;replace hE1:=zi hE1;clear hk;go_wp2_with fail;refine(is_from hL.out.mv [42] h42.out).mono ?_;rintro e v0 ⟨rfl,hV0,hW0⟩;have hT0:=zi (ExAt.pw (hL.out.tree) hW0 hlt0);clear hW0;clear a0 d0 d1 d2 d3 d4 d5 d6 dfz;replace hV0:=zi hV0;go_wp2_with fail;refine(is_from hV0.out [47] h47.out).mono ?_;rintro e v1 ⟨rfl,hV1,hW1⟩;have hT1:=zi (ExAt.pw (hT0.out) hW1 hlt0);clear hW1;obtain⟨a0,d0,d1,d2,d3,d4,d5,d6,dfz⟩:=hV1.facts;replace hV1:=zi hV1;have hw1:=i64_next (i:=t.i) (by omega);go_wp2_with fail;have hst:Writes [some L.g] v1 (v1.setCell ⟨L.g,1,none⟩ (.int .i64 ((t.i:Int)+1))):=Writes.store v1 (by simp) _;have hTs:=zi (hT1.out.pw hst hlt0);refine(hun.from_ (hV1.out.next hi) (by have:=hL.out.dp;simpa[PS.next]using this) hr.out.symm).mono ?_;rintro e w2 ⟨p2,rfl,h2,hE,hW2⟩;clear a0 d0 d1 d2 d3 d4 d5 d6 dfz hst;have hTa:=hTs.out.pw hW2 hlt0
   have hL2:Hid (MoreL C L (prodK C) (un C) m R f' (.mk 5 0 [] a r.1) r.2 (some ⟨w2.heap.size,0,none⟩) w (w2.alloc (.cells #[.int .i64 5,.int .i64 0,.string ⟨#[]⟩,.pointer q,.pointer p2] 205))):=
    zi ⟨hE1.out,hE2,hE3,h2.below (below_new _ _),ExAt.new 5 0 [] (by decide) (by simp) h2.wr.size rfl hTa hE⟩
   have hm1:=hL.out.mv.left;have hm2:=hL2.out.mv.left;have hb2:=hL2.out.mv.bounds.2.2.1;clear hTa h2 hE hW2 hE1 hTs;go_wp2_with fail;exact⟨⟨_,_,_,_,rfl,hL2⟩,by rw[hm1,hm2];omega⟩
  |false=>
   cases h37:isF C [37] t with
   |true=>
    have hk:prodK C t=6:=by unfold prodK;simp[h42,h47,h37]
    replace h42:=zi h42;replace h47:=zi h47;replace h37:=zi h37;have hi:=isF_lt h37.out;obtain⟨f',hE1,hE2,hE3,hE4⟩:=hL.out.go_ he0.out hk (by decide) hi (hs C);obtain⟨r,hr⟩:∃x,x=un C t.next:=⟨_,rfl⟩;rw[←hr]at hE1 hE2 hE3 hE4;replace hr:=zi hr;replace hE1:=zi hE1;clear hk;go_wp2_with fail;refine(is_from hL.out.mv [42] h42.out).mono ?_;rintro e v0 ⟨rfl,hV0,hW0⟩;have hT0:=zi (ExAt.pw (hL.out.tree) hW0 hlt0);clear hW0;clear a0 d0 d1 d2 d3 d4 d5 d6 dfz;replace hV0:=zi hV0;go_wp2_with fail;refine(is_from hV0.out [47] h47.out).mono ?_;rintro e v1 ⟨rfl,hV1,hW1⟩;have hT1:=zi (ExAt.pw (hT0.out) hW1 hlt0);clear hW1;replace hV1:=zi hV1;go_wp2_with fail;refine(is_from hV1.out [37] h37.out).mono ?_;rintro e v2 ⟨rfl,hV2,hW2⟩;have hT2:=zi (ExAt.pw (hT1.out) hW2 hlt0);clear hW2;obtain⟨a0,d0,d1,d2,d3,d4,d5,d6,dfz⟩:=hV2.facts;replace hV2:=zi hV2;have hw1:=i64_next (i:=t.i) (by omega);go_wp2_with fail;have hst:Writes [some L.g] v2 (v2.setCell ⟨L.g,1,none⟩ (.int .i64 ((t.i:Int)+1))):=Writes.store v2 (by simp) _;have hTs:=zi (hT2.out.pw hst hlt0)
    refine(hun.from_ (hV2.out.next hi) (by have:=hL.out.dp;simpa[PS.next]using this) hr.out.symm).mono ?_;rintro e w2 ⟨p2,rfl,h2,hE,hW2⟩;clear a0 d0 d1 d2 d3 d4 d5 d6 dfz hst;have hTa:=hTs.out.pw hW2 hlt0
    have hL2:Hid (MoreL C L (prodK C) (un C) m R f' (.mk 6 0 [] a r.1) r.2 (some ⟨w2.heap.size,0,none⟩) w (w2.alloc (.cells #[.int .i64 6,.int .i64 0,.string ⟨#[]⟩,.pointer q,.pointer p2] 205))):=
     zi ⟨hE1.out,hE2,hE3,h2.below (below_new _ _),ExAt.new 6 0 [] (by decide) (by simp) h2.wr.size rfl hTa hE⟩
    have hm1:=hL.out.mv.left;have hm2:=hL2.out.mv.left;have hb2:=hL2.out.mv.bounds.2.2.1;clear hTa h2 hE hW2 hE1 hTs;go_wp2_with fail;exact⟨⟨_,_,_,_,rfl,hL2⟩,by rw[hm1,hm2];omega⟩
   |false=>
    have hk:prodK C t=0:=by unfold prodK;simp[h42,h47,h37]
    have hF:=zi (hL.out.stop (.inr hk));clear hk;replace h42:=zi h42;replace h47:=zi h47;replace h37:=zi h37;go_wp2_with fail;refine(is_from hL.out.mv [42] h42.out).mono ?_;rintro e v0 ⟨rfl,hV0,hW0⟩;have hT0:=zi (ExAt.pw (hL.out.tree) hW0 hlt0);clear hW0;replace hV0:=zi hV0;clear a0 d0 d1 d2 d3 d4 d5 d6 dfz;go_wp2_with fail;refine(is_from hV0.out [47] h47.out).mono ?_;rintro e v1 ⟨rfl,hV1,hW1⟩;have hT1:=zi (ExAt.pw (hT0.out) hW1 hlt0);clear hW1;replace hV1:=zi hV1;go_wp2_with fail;refine(is_from hV1.out [37] h37.out).mono ?_;rintro e v2 ⟨rfl,hV2,hW2⟩;have hT2:=zi (ExAt.pw (hT1.out) hW2 hlt0);clear hW2;replace hV2:=zi hV2;go_wp2_with fail;go_ret;rw[hF.out];exact ExPost.of hV2.out hT2.out
theorem sum_step (m:Nat) (prod:PC→PS→Ex×PS) (hprod:Reads6 166 m prod) (hs:∀C s,Stp C s (prod C s).2):Reads6 130 m (fun C s=>moreL (sumK C) (prod C) (C.tk.length+1) (prod C s).1 (prod C s).2):=by
 intro C L w s hP hm;have hM:=zi (Moved.refl hP);have hlt0:=hP.lt;have hlen:=hP.fit.len;show Calls _ _ _ _ (ExPost C L (moreL (sumK C) (prod C) (C.tk.length+1) (prod C s).1 (prod C s).2) w);obtain⟨R,hR⟩:∃x,x=moreL (sumK C) (prod C) (C.tk.length+1) (prod C s).1 (prod C s).2:=⟨_,rfl⟩;rw[←hR];obtain⟨r,hr⟩:∃x,x=prod C s:=⟨_,rfl⟩;have hd:=(hs C s).dp;rw[←hr]at hd;have hR2:Hid (moreL (sumK C) (prod C) (C.tk.length+1) r.1 r.2=R):=zi (by subst hr;exact hR.symm)
 have hdm:m≤r.2.deep:=by omega
 replace hr:=zi hr;clear hP hR hd;go_enter Tryz.func130,Tryz.ntmps130;go_wp2_with fail;refine(hprod.from_ hM.out hm hr.out.symm).mono ?_;rintro e w1 ⟨p,rfl,h1,hE,-⟩;have hL1:Hid (MoreL C L (sumK C) (prod C) m R (C.tk.length+1) r.1 r.2 p w w1):=zi ⟨hR2.out,by omega,hdm,h1,hE⟩;clear h1 hE hR2 hr hdm;go_wp2_with fail;go_loopw [3] (fun av wr=>∃(f:Nat) (a:Ex) (t:PS) (p:Option Addr),av= .pointer p∧Hid (MoreL C L (sumK C) (prod C) m R f a t p w wr)) (fun _ wr=>left6 L wr)
 case atStart=>exact⟨_,_,_,p,rfl,hL1⟩
 clear hL1;obtain⟨f,a,t,q,rfl,hL⟩:=hrel;obtain⟨a0,d0,d1,d2,d3,d4,d5,d6,dfz⟩:=hL.out.mv.facts;obtain⟨b1,b2,b3,b4,b5,b6,b7⟩:=hL.out.mv.bounds;by_cases he:t.e=0
 case neg=>
  have he':((t.e:Int)==0)=false:=by simp;omega
  have hF:=zi (hL.out.stop (.inl he));go_wp2_with fail;go_ret;rw[hF.out];exact ExPost.of hL.out.mv hL.out.tree
 have he':((t.e:Int)==0)=true:=by simp;omega
 have he0:=zi he;clear he
 cases h45:isF C [45] t with
 |true=>
  have hk:sumK C t=3:=by unfold sumK;simp[h45]
  replace h45:=zi h45;have hi:=isF_lt h45.out;obtain⟨f',hE1,hE2,hE3,hE4⟩:=hL.out.go_ he0.out hk (by decide) hi (hs C);obtain⟨r,hr⟩:∃x,x=prod C t.next:=⟨_,rfl⟩;rw[←hr]at hE1 hE2 hE3 hE4;replace hr:=zi hr;replace hE1:=zi hE1;clear hk;go_wp2_with fail;refine(is_from hL.out.mv [45] h45.out).mono ?_;rintro e v0 ⟨rfl,hV0,hW0⟩;have hT0:=zi (ExAt.pw (hL.out.tree) hW0 hlt0);clear hW0;clear a0 d0 d1 d2 d3 d4 d5 d6 dfz;obtain⟨a0,d0,d1,d2,d3,d4,d5,d6,dfz⟩:=hV0.facts;replace hV0:=zi hV0;have hw1:=i64_next (i:=t.i) (by omega);go_wp2_with fail;have hst:Writes [some L.g] v0 (v0.setCell ⟨L.g,1,none⟩ (.int .i64 ((t.i:Int)+1))):=Writes.store v0 (by simp) _;have hTs:=zi (hT0.out.pw hst hlt0);refine(hprod.from_ (hV0.out.next hi) (by have:=hL.out.dp;simpa[PS.next]using this) hr.out.symm).mono ?_;rintro e w2 ⟨p2,rfl,h2,hE,hW2⟩;clear a0 d0 d1 d2 d3 d4 d5 d6 dfz hst;have hTa:=hTs.out.pw hW2 hlt0
  have hL2:Hid (MoreL C L (sumK C) (prod C) m R f' (.mk 3 0 [] a r.1) r.2 (some ⟨w2.heap.size,0,none⟩) w (w2.alloc (.cells #[.int .i64 3,.int .i64 0,.string ⟨#[]⟩,.pointer q,.pointer p2] 205))):=
   zi ⟨hE1.out,hE2,hE3,h2.below (below_new _ _),ExAt.new 3 0 [] (by decide) (by simp) h2.wr.size rfl hTa hE⟩
  have hm1:=hL.out.mv.left;have hm2:=hL2.out.mv.left;have hb2:=hL2.out.mv.bounds.2.2.1;clear hTa h2 hE hW2 hE1 hTs;go_wp2_with fail;exact⟨⟨_,_,_,_,rfl,hL2⟩,by rw[hm1,hm2];omega⟩
 |false=>
  cases h43:isF C [43] t with
  |true=>
   have hk:sumK C t=2:=by unfold sumK;simp[h45,h43]
   replace h45:=zi h45;replace h43:=zi h43;have hi:=isF_lt h43.out;obtain⟨f',hE1,hE2,hE3,hE4⟩:=hL.out.go_ he0.out hk (by decide) hi (hs C);obtain⟨r,hr⟩:∃x,x=prod C t.next:=⟨_,rfl⟩;rw[←hr]at hE1 hE2 hE3 hE4;replace hr:=zi hr;replace hE1:=zi hE1;clear hk;go_wp2_with fail;refine(is_from hL.out.mv [45] h45.out).mono ?_;rintro e v0 ⟨rfl,hV0,hW0⟩;have hT0:=zi (ExAt.pw (hL.out.tree) hW0 hlt0);clear hW0;clear a0 d0 d1 d2 d3 d4 d5 d6 dfz;replace hV0:=zi hV0;go_wp2_with fail;refine(is_from hV0.out [43] h43.out).mono ?_;rintro e v1 ⟨rfl,hV1,hW1⟩;have hT1:=zi (ExAt.pw (hT0.out) hW1 hlt0);clear hW1;obtain⟨a0,d0,d1,d2,d3,d4,d5,d6,dfz⟩:=hV1.facts;replace hV1:=zi hV1;have hw1:=i64_next (i:=t.i) (by omega);go_wp2_with fail;have hst:Writes [some L.g] v1 (v1.setCell ⟨L.g,1,none⟩ (.int .i64 ((t.i:Int)+1))):=Writes.store v1 (by simp) _;have hTs:=zi (hT1.out.pw hst hlt0);refine(hprod.from_ (hV1.out.next hi) (by have:=hL.out.dp;simpa[PS.next]using this) hr.out.symm).mono ?_;rintro e w2 ⟨p2,rfl,h2,hE,hW2⟩;clear a0 d0 d1 d2 d3 d4 d5 d6 dfz hst;have hTa:=hTs.out.pw hW2 hlt0
   have hL2:Hid (MoreL C L (sumK C) (prod C) m R f' (.mk 2 0 [] a r.1) r.2 (some ⟨w2.heap.size,0,none⟩) w (w2.alloc (.cells #[.int .i64 2,.int .i64 0,.string ⟨#[]⟩,.pointer q,.pointer p2] 205))):=
    zi ⟨hE1.out,hE2,hE3,h2.below (below_new _ _),ExAt.new 2 0 [] (by decide) (by simp) h2.wr.size rfl hTa hE⟩
   have hm1:=hL.out.mv.left;have hm2:=hL2.out.mv.left;have hb2:=hL2.out.mv.bounds.2.2.1;clear hTa h2 hE hW2 hE1 hTs;go_wp2_with fail;exact⟨⟨_,_,_,_,rfl,hL2⟩,by rw[hm1,hm2];omega⟩
  |false=>
   have hk:sumK C t=0:=by unfold sumK;simp[h45,h43]
   have hF:=zi (hL.out.stop (.inr hk));clear hk;replace h45:=zi h45;replace h43:=zi h43;go_wp2_with fail;refine(is_from hL.out.mv [45] h45.out).mono ?_;rintro e v0 ⟨rfl,hV0,hW0⟩;have hT0:=zi (ExAt.pw (hL.out.tree) hW0 hlt0);clear hW0;replace hV0:=zi hV0;clear a0 d0 d1 d2 d3 d4 d5 d6 dfz;go_wp2_with fail;refine(is_from hV0.out [43] h43.out).mono ?_;rintro e v1 ⟨rfl,hV1,hW1⟩;have hT1:=zi (ExAt.pw (hT0.out) hW1 hlt0);clear hW1;replace hV1:=zi hV1;go_wp2_with fail;go_ret;rw[hF.out];exact ExPost.of hV1.out hT1.out
end Go.Proofs.YtpndglghpojjkaaGreat
