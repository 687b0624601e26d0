/-
  8 texts of the proof, in one file: no condition.
-/
import Derived.ArgAppend
import Derived.Sort.Walk0
import Derived.Test.YtpndglghpojjkaaGreatPea7
set_option maxRecDepth 1000000
set_option maxHeartbeats 8000000
namespace Go.Proofs.YtpndglghpojjkaaGreat
open Go.RowKit
theorem addS_eq:∀(k:Nat) (l:List S) (x:S),(∀y∈l.take k,y<x)→(h:k<l.length)→l[k]=x→addS l x=l
 |0,y::r,x,_,_,e=>by
  simp at e;subst e;unfold addS;rw[if_neg (List.lt_irrefl y),if_pos rfl]
 |k+1,y::r,x,hb,h,e=>by have h1:y<x:=hb y (by simp);unfold addS;rw[if_pos h1,addS_eq k r x (fun z hz=>hb z (by simp[hz])) (by simpa using h) (by simpa using e)]
theorem addS_ins:∀(k:Nat) (l:List S) (x:S),(∀y∈l.take k,y<x)→k≤l.length→(∀h:k<l.length,¬l[k]<x∧l[k]≠x)→addS l x=l.take k++x::l.drop k
 |0,[],x,_,_,_=>rfl
 |0,y::r,x,_,_,e=>by
  obtain⟨h1,h2⟩:=e (by simp);simp at h1 h2;unfold addS;rw[if_neg (by simpa using h1),if_neg h2];rfl
 |k+1,[],x,_,h,_=>by simp at h
 |k+1,y::r,x,hb,h,e=>by have h1:y<x:=hb y (by simp);unfold addS;rw[if_pos h1,addS_ins k r x (fun z hz=>hb z (by simp[hz])) (by simpa using h) (fun hk=>e (Nat.succ_lt_succ hk))];rfl
section
variable {P:Program} (w:World)
theorem run_append_new (t ty e:TypeId) (i:TypeInfo) (z:Value) (bytes:Nat) (ht:P.underlying t=some (.slice e)) (hi:P.info? e=some i) (hz:i.zero=some z) (hsize:i.size=1) (hby:i.bytes=bytes) (hzs:z.cells.size=1)
  (A:Option Addr) (n c:Nat) (olds:List Value) (hlo:olds.length=n) {B:Nat} (hro:Row w B A olds) (hn0:A=none→c=0)
  (A':Option Addr) (m c':Nat) (news:List Value) (hln:news.length=m) {B':Nat} (hrn:Row w B' A' news) (h1:∀u∈news,u.oneCell'=true) (hm:0<m)
  (hg:c<n+m) (h63:n+m≤maxLen) (hbytes:(n+m)*bytes≤140737488355328):
  ∃v' w',(Builtin.append_ #[t,t] ty #[.slice A n c,.slice A' m c']).run P w= .ok v' w'∧w'.ownsRow w.heap.size e 1 v' (n+m) (olds++news)∧Below w.heap.size w w':=by
 obtain⟨bn,on,rfl,_,hcn⟩:=hrn (by rintro rfl;simp at hln;omega)
 have hadd:∀(b o j:Nat),(⟨b,o,none⟩:Addr).add j=⟨b,o+j,none⟩:=fun b o j=>by unfold Addr.add;split<;>simp_all
 rcases A with _|a
 ·have hc0:=hn0 rfl;subst hc0
  have hn:n=0:=by
   rcases olds with _| ⟨u,r⟩
   ·simpa using hlo.symm
   ·obtain⟨_,_,h,_⟩:=hro (by simp);cases h
  subst hn;have ho:olds= []:=List.eq_nil_of_length_eq_zero hlo;subst ho;obtain⟨v',w',h1,h2,h3,_⟩:=run_append_own (P:=P) w w.heap.size t ty e i z 1 bytes ht hi hz hsize hby hzs (by omega) (.slice none 0 0) 0 [] (World.ownsRow_nil _ _ _ _) ⟨bn,on,none⟩ m c' news (by omega) (fun j u hu=>by rw[hadd];exact hcn j u hu) h1 h63 hbytes (Nat.le_refl _);exact⟨v',w',h1,h2,⟨h3.os,h3.tape,h3.output,h3.size,fun k hk=>h3.block k hk (by simp[Value.ownBlock])⟩⟩
 ·obtain⟨v',w',h1,h2,h3⟩:=run_append_arg_grows (P:=P) w t ty e i z 1 bytes ht hi hz hsize hby hzs (by omega) a n c olds (by omega) (fun j u hu=>by
   obtain⟨b,off,h,_,hc⟩:=hro (by rintro rfl;simp at hu);injection h with h;subst h;rw[hadd]
   exact hc j u hu) ⟨bn,on,none⟩ m c' news (by omega) (fun j u hu=>by rw[hadd];exact hcn j u hu) hg h63 hbytes
  exact⟨v',w',h1,h2,⟨h3.os,h3.tape,h3.output,h3.size,fun k hk=>h3.block k hk (by simp)⟩⟩
end
def SlS (w:World) (vs:List Value) (v:Value):Prop:=∃A c,v= .slice A vs.length c∧Row w w.heap.size A vs∧vs.length≤c
theorem SlS.up {w w':World} {vs:List Value} {v:Value} (h:SlS w vs v) (hb:Below w.heap.size w w'):SlS w' vs v:=by
 obtain⟨A,c,e,h1,h2⟩:=h;exact⟨A,c,e,(h1.below hb).more hb.size,h2⟩
theorem SlS.own {w:World} {B:Nat} {e:TypeId} {v:Value} {n:Nat} {vs:List Value} (h:w.ownsRow B e 1 v n vs):SlS w vs v:=by
 obtain⟨A,c,rfl,hr,hl,hc⟩:=own_row h;subst hl;exact⟨A,c,rfl,hr,hc⟩
section
variable {P:Program} (w:World)
theorem run_append_tight (t ty e:TypeId) (i:TypeInfo) (z:Value) (bytes:Nat) (ht:P.underlying t=some (.slice e)) (hi:P.info? e=some i) (hz:i.zero=some z) (hsize:i.size=1) (hby:i.bytes=bytes) (hzs:z.cells.size=1)
  (A:Option Addr) (n:Nat) (olds:List Value) (hlo:olds.length=n) (hro:Row w w.heap.size A olds)
  (A':Option Addr) (m c':Nat) (news:List Value) (hln:news.length=m) {B':Nat} (hrn:Row w B' A' news) (h1:∀u∈news,u.oneCell'=true)
  (h63:n+m≤maxLen) (hbytes:(n+m)*bytes≤140737488355328):
  ∃v' w',(Builtin.append_ #[t,t] ty #[.slice A n n,.slice A' m c']).run P w= .ok v' w'∧SlS w' (olds++news) v'∧Below w.heap.size w w':=by
 rcases Nat.eq_zero_or_pos m with hm|hm
 ·subst hm;have:=List.eq_nil_of_length_eq_zero hln;subst this;refine⟨.slice A n n,w,?_,⟨A,n,by simp[hlo],by simpa using hro,by simp[hlo]⟩,Below.refl _ _⟩;cases A<;>cases A'<;>simp[Builtin.append_,run_underlying ht,sizeOf,typeInfo,hi,Builtin.lenOf,Builtin.firstCells,storeCells,loadCells,loadCellsFrom]
 ·obtain⟨v',w',h2,h3,h4⟩:=run_append_new (P:=P) w t ty e i z bytes ht hi hz hsize hby hzs A n n olds hlo hro (fun h=>by
   subst h;rcases olds with _| ⟨u,r⟩
   ·simpa using hlo.symm
   ·obtain⟨_,_,h,_⟩:=hro (by simp);cases h) A' m c' news hln hrn h1 hm (by omega) h63 hbytes
  exact⟨v',w',h2,SlS.own h3,h4⟩
theorem relUpon_append_tight {o:Oper} {ρ:Operand→Value} {A1 B1:World→Prop} {D:World→Value→Prop} (s x:Operand) (t:TypeId)
  (ho:o.op= .call {callee:= .builtin .append,args:= #[s,x],argTypes:= #[t,t]})
  (e:TypeId) (i:TypeInfo) (z:Value) (bytes:Nat) (ht:P.underlying t=some (.slice e)) (hi:P.info? e=some i) (hz:i.zero=some z) (hsize:i.size=1) (hby:i.bytes=bytes) (hzs:z.cells.size=1)
  (A:Option Addr) (n:Nat) (olds:List Value) (hs:ρ s= .slice A n n) (hlo:olds.length=n) (hro:Row w w.heap.size A olds)
  (A':Option Addr) (m c':Nat) (news:List Value) (hx:ρ x= .slice A' m c') (hln:news.length=m) {B':Nat} (hrn:Row w B' A' news) (h1:∀u∈news,u.oneCell'=true)
  (h63:n+m≤maxLen) (hbytes:(n+m)*bytes≤140737488355328)
  (h:∀v' w',SlS w' (olds++news) v'→Below w.heap.size w w'→A1 w'∧B1 w'∧D w' v'):
  relUpon P (fun v w'=>A1 w'∧B1 w'∧D w' v) ((execOp ρ o).run P w):=by
 obtain⟨v',w',hrun,h2,h3⟩:=run_append_tight (P:=P) w t o.type e i z bytes ht hi hz hsize hby hzs A n olds hlo hro A' m c' news hln hrn h1 h63 hbytes;unfold execOp;simp only[ho,resolve,invoke,builtin,Sem.run_bind,Sem.run_pure,Result.andThen_ok,List.map_toArray,List.map_cons,List.map_nil,hs,hx,hrun];exact h v' w' h2 h3
end
structure Kp (w0:World) (Hs:List (Nat×TypeId×Array Value)) (Rs:List (Option Addr×List Value)) (w:World):Prop where
 bel:Below w0.heap.size w0 w
 hold:∀(i:Nat) g t cs,Hs[i]? =some (g,t,cs)→Holds w g t cs
 row:∀(i:Nat) A vs,Rs[i]? =some (A,vs)→Row w w.heap.size A vs
section
variable {w0 w w':World} {Hs:List (Nat×TypeId×Array Value)} {Rs:List (Option Addr×List Value)}
theorem Kp.start (h:Below w0.heap.size w0 w):Kp w0 [] [] w:=⟨h,fun i _ _ _ e=>by simp at e,fun i _ _ e=>by simp at e⟩
theorem Kp.up (h:Kp w0 Hs Rs w) (hb:Below w.heap.size w w'):Kp w0 Hs Rs w':=
 ⟨h.bel.trans (hb.mono h.bel.size),fun i _ _ _ e=>(h.hold i _ _ _ e).below hb (h.hold i _ _ _ e).lt,fun i _ _ e=>((h.row i _ _ e).below hb).more hb.size⟩
theorem Kp.addH (h:Kp w0 Hs Rs w) {g:Nat} {t:TypeId} {cs:Array Value} (hg:Holds w g t cs):Kp w0 ((g,t,cs)::Hs) Rs w:=
 ⟨h.bel,fun i _ _ _ e=>by
  cases i with
  |zero=>simp at e;obtain⟨rfl,rfl,rfl⟩:=e;exact hg
  |succ i=>exact h.hold i _ _ _ (by simpa using e),h.row⟩
theorem Kp.addR (h:Kp w0 Hs Rs w) {A:Option Addr} {vs:List Value} (hr:Row w w.heap.size A vs):Kp w0 Hs ((A,vs)::Rs) w:=
 ⟨h.bel,h.hold,fun i _ _ e=>by
  cases i with
  |zero=>simp at e;obtain⟨rfl,rfl⟩:=e;exact hr
  |succ i=>exact h.row i _ _ (by simpa using e)⟩
theorem Kp.new (h:Kp w0 Hs Rs w) (t:TypeId) (cs:Array Value):Kp w0 ((w.heap.size,t,cs)::Hs) Rs (w.alloc (.cells cs t)):=
 (h.up (below_new w _)).addH (Holds.new w t cs)
theorem Kp.fact (h:Kp w0 Hs Rs w) (i j:Nat) {g:Nat} {t:TypeId} {cs:Array Value} {v:Value} (hi:Hs[i]? =some (g,t,cs)) (hv:cs[j]? =some v):g<w.heap.size∧w.cell? ⟨g,j,none⟩=some v:=
 ⟨(h.hold i _ _ _ hi).lt,by rw[(h.hold i _ _ _ hi).cell];exact hv⟩
theorem Kp.drew (h:Kp w0 Hs Rs w):Kp w0 Hs Rs w.drew:=h.up (Below.refl _ _).drew
theorem Kp.drewN (h:Kp w0 Hs Rs w) (n:Nat):Kp w0 Hs Rs (w.drewN n):=h.up ⟨rfl,rfl,rfl,Nat.le_refl _,fun _ _=>rfl⟩
theorem Kp.size (h:Kp w0 Hs Rs w):w0.heap.size≤w.heap.size:=h.bel.size
end
theorem Tryz.infoStr2:(Tryz.prog.info? 9).map (fun i=>(i.zero,i.size,i.bytes))=some (some (.string ⟨#[]⟩),1,16):=by kernel_rfl
theorem bless2 (x y:S):Op.bytesLess x y=decide (x<y):=Go.Proofs.bytesLess_eq x y
theorem enc_one2 {l:List S}:∀u∈l.map encStr,u.oneCell'=true:=by
 intro u hu;obtain⟨x,_,rfl⟩:=List.mem_map.1 hu;rfl
theorem enc_cons {s:S} {l:List S}:∀u∈[encStr s]++l.map encStr,u.oneCell'=true:=by
 intro u hu;rcases List.mem_append.1 hu with h|h
 ·simp at h;subst h;rfl
 ·exact enc_one2 u h
def StrV (w:World) (l:List S) (v:Value):Prop:=∃A c,v= .slice A l.length c∧Row w w.heap.size A (l.map encStr)∧l.length≤c
theorem StrV.of {w:World} {l:List S} {v:Value} (h:SlS w (l.map encStr) v):StrV w l v:=by
 obtain⟨A,c,e,h1,h2⟩:=h;rw[List.length_map]at e h2;exact⟨A,c,e,h1,h2⟩
theorem StrV.sl {w:World} {l:List S} {v:Value} (h:StrV w l v):SlS w (l.map encStr) v:=by
 obtain⟨A,c,e,h1,h2⟩:=h;exact⟨A,c,by rw[List.length_map];exact e,h1,by rw[List.length_map];exact h2⟩
theorem StrV.up {w w':World} {l:List S} {v:Value} (h:StrV w l v) (hb:Below w.heap.size w w'):StrV w' l v:= .of (h.sl.up hb)
def RetS (w0:World) (l:List S) (e:Ending) (w':World):Prop:=(∃v,e= .returned v∧StrV w' l v)∧Below w0.heap.size w0 w'
theorem add_any (w0:World) (A:Option Addr) (n c:Nat) (l:List S) (s:S) (hn:l.length=n) (hm:n≤100000) (hc:n≤c) (hr:Row w0 w0.heap.size A (l.map encStr)):
  Calls Tryz.prog 101 #[.slice A n c,encStr s] w0 (RetS w0 (addS l s)):=by
 obtain⟨iS,hiS,hzS0,hzS1,hzS2⟩:=info_parts Tryz.infoStr2;have hn':=zi hn;have hr':=zi hr;clear hn hr;go_enter Tryz.func101,Tryz.ntmps101;go_wp2_with fail
 go_loop [5] (fun i=>∃k:Nat,k≤n∧i= .int .i64 k∧∀y∈l.take k,y<s) (fun i=>n-(intOf i).toNat)
 case atStart=>exact⟨0,Nat.zero_le _,rfl,by simp⟩
 obtain⟨k,hk,rfl,hall⟩:=hrel;have hall:=zi hall;rename_i u1;clear u1;by_cases hlt:k<n
 ·have hlt2:k<l.length:=by rw[hn'.out];exact hlt
  obtain⟨b,off,rfl,_,hcell⟩:=hr'.out.at_ (k:=k) (by simpa using hlt2);rw[List.getElem_map]at hcell;obtain⟨y,hy0⟩:∃y,y=l[k]:=⟨_,rfl⟩;rw[←hy0]at hcell;have hy:=zi hy0;clear hy0;have htk:Hid (l.take (k+1)=l.take k++ [y]):=zi (by rw[hy.out];exact List.take_succ_eq_append_getElem hlt2);by_cases hyx:y<s
  ·have hbl:Op.bytesLess y s=true:=by rw[bless2];simpa using hyx
   have hyx2:=zi hyx;clear hyx;go_wp2_with fail;go_round
   case rel=>exact⟨k+1,by omega,by go_num,by
    rw[htk.out];intro z hz;rcases List.mem_append.1 hz with h|h
    ·exact hall.out z h
    ·simp at h;subst h
     exact hyx2.out⟩
   case measure=>simp[intOf];omega
  ·have hbl:Op.bytesLess y s=false:=by rw[bless2];simpa using hyx
   have hyx2:=zi hyx;clear hyx;by_cases hxy:y=s
   ·subst hxy;have hd:=zi (addS_eq k l y hall.out hlt2 hy.out.symm);go_wp2_with fail;go_ret;exact⟨⟨.slice (some ⟨b,off,none⟩) n c,rfl,some ⟨b,off,none⟩,c,by rw[hd.out,hn'.out],by rw[hd.out];exact hr'.out,by rw[hd.out,hn'.out];exact hc⟩,Below.refl _ _⟩
   ·have hbq:(y==s)=false:=by simpa using hxy
    have hd:=zi (addS_ins k l s hall.out (by omega) (fun h=>⟨by rw[←hy.out];exact hyx2.out,by rw[←hy.out];exact hxy⟩));clear hxy;go_wp2_with fail
    have hkc:k≤c:=by omega
    have hrT:=zi (show Row w0 w0.heap.size (some (⟨b,off,none⟩:Addr)) ((l.take k).map encStr)by rw[List.map_take];exact hr'.out.take k)
    have hrD:=zi (show Row w0 w0.heap.size (if c=k then(some (⟨b,off,none⟩:Addr))else Option.map (fun a=>a.add k) (some (⟨b,off,none⟩:Addr))) ((l.drop k).map encStr)by
     have:=hr'.out.cut k (c:=c) (by rw[List.length_map,hn'.out];exact hc);rw[←List.map_drop]at this
     exact this)
    have hlT:=zi (show((l.take k).map encStr).length=k by rw[List.length_map,List.length_take,hn'.out];omega);have hlD:=zi (show((l.drop k).map encStr).length=n-k by rw[List.length_map,List.length_drop,hn'.out]);refine wp_region_tab ((eqw (.slice (some (⟨b,off,none⟩:Addr)) n c))::(eqw (.int .i64 k))::(eqw (.int .i64 k))::(eqw (.slice (some (⟨b,off,none⟩:Addr)) k k))::(eqw (encStr s))::(fun w v=>∃A1,v= .slice A1 1 1∧Row w w.heap.size A1 [encStr s])::(eqw (.slice (some (⟨b,off,none⟩:Addr)) n c))::(eqw (.int .i64 k))::(eqw (.slice (if c=k then(some (⟨b,off,none⟩:Addr))else Option.map (fun a=>a.add k) (some (⟨b,off,none⟩:Addr))) (n-k) (c-k)))::(fun w v=>SlS w ([encStr s]++(l.drop k).map encStr) v)::(fun w v=>SlS w ((l.take k).map encStr++([encStr s]++(l.drop k).map encStr)) v)::(fun w v=>SlS w ((l.take k).map encStr++([encStr s]++(l.drop k).map encStr)) v)::[])
     ((rn1 0)::(rn1 5)::(rn1 5)::⟨[(33,some 0),(34,some 1),(35,some 2)],0,[]⟩::(rn1 1)::(rd1 37 4)::(rn1 0)::(rn1 5)::⟨[(39,some 6),(40,some 7)],0,[]⟩::⟨[(38,some 5),(41,some 8)],0,[]⟩::⟨[(36,some 3),(42,some 9)],0,[]⟩::(rd1 43 10)::[])
     (no::no::no::no::so 11::no::no::no::no::no::no::no::no::no::no::no::no::no::no::no::no::no::no::no::no::no::no::no::no::no::no::no::no::so 0::so 1::so 2::so 3::so 4::so 5::so 6::so 7::so 8::so 9::so 10::[])
     (fun _ w'=>Below w0.heap.size w0 w') (fun _ w w'=>Below w.heap.size w w') ?mixK6adda ?okK6adda ?tabK6adda ?frK6adda ?inK6adda ?keptK6adda ?startK6adda ?eachK6adda ?finK6adda
    case mixK6adda|okK6adda|tabK6adda|frK6adda=>kernel_rfl
    case inK6adda=>rfl
    case keptK6adda=>exact⟨fun _ _ _ _ _ _ _ h=>h,fun _ _ _ _ _ _ _ h=>h,fun _ _ _ _ _ _ _ h=>h,fun _ _ _ _ _ _ _ h=>h,fun _ _ _ _ _ _ _ h=>h,fun _ _ _=>fun w w' v hG ⟨A1,e,h⟩=>⟨A1,e,(h.below hG).more hG.size⟩,fun _ _ _ _ _ _ _ h=>h,fun _ _ _ _ _ _ _ h=>h,fun _ _ _ _ _ _ _ h=>h,fun _ _ _=>fun w w' v hG h=>h.up hG,fun _ _ _=>fun w w' v hG h=>h.up hG,fun _ _ _=>fun w w' v hG h=>h.up hG,trivial⟩
    case startK6adda=>exact(Below.refl _ _).drew
    case eachK6adda=>
     repeat' first|exact trivial|refine And.intro ?_ ?_
     ·intro w L f hC hLi hLd hLn ⟨d,_⟩;refine Step2.live rfl ?_;exact relUpon_value (v:=f 0) rfl (hC) (Below.refl _ _) d
     iterate 2 (intro w L f hC hLi hLd hLn ⟨d,_⟩;refine Step2.live rfl ?_;exact relUpon_value (v:=f 5) rfl (hC) (Below.refl _ _) d)
     ·intro w L f hC hLi hLd hLn ⟨a,b,c,_⟩;change _=_ at a b c;refine Step2.live rfl ?_;obtain⟨ev,ec,ef⟩:=evs f;refine relUpon_value ?_ hC (Below.refl _ _) rfl;go_simp
     ·intro w L f hC hLi hLd hLn ⟨d,_⟩;refine Step2.live rfl ?_;exact relUpon_value (v:=f 1) rfl (hC) (Below.refl _ _) d
     ·intro w L f hC hLi hLd hLn ⟨a,_⟩;change _=_ at a;refine Step2.live rfl ?_;have hbn:=below_new w (.cells #[encStr s] 9);obtain⟨ev,ec,ef⟩:=evs f;refine relUpon_value (w':=w.alloc (.cells #[encStr s] 9)) (v:= .slice (some ⟨w.heap.size,0,none⟩) 1 1) (by go_simp) (hC.trans (hbn.mono hC.size)) hbn ⟨_,rfl,Row.fresh w 9 [encStr s]⟩
     ·intro w L f hC hLi hLd hLn ⟨d,_⟩;refine Step2.live rfl ?_;exact relUpon_value (v:=f 0) rfl (hC) (Below.refl _ _) d
     ·intro w L f hC hLi hLd hLn ⟨d,_⟩;refine Step2.live rfl ?_;exact relUpon_value (v:=f 5) rfl (hC) (Below.refl _ _) d
     ·intro w L f hC hLi hLd hLn ⟨a,b,_⟩;change _=_ at a b;refine Step2.live rfl ?_;obtain⟨ev,ec,ef⟩:=evs f;refine relUpon_value ?_ hC (Below.refl _ _) rfl;go_simp
     ·intro w L f hC hLi hLd hLn ⟨d38,d41,_⟩;change _=_ at d41;refine Step2.live rfl ?_;obtain⟨A1,e1,h1⟩:=d38;obtain⟨ev,ec,ef⟩:=evs f;refine relUpon_append_tight w (.tmp 38) (.tmp 41) 35 rfl 9 iS (.string ⟨#[]⟩) 16 Tryz.underlying35 hiS hzS0 hzS1 hzS2 rfl A1 1 [encStr s] (by rw[ev,e1]) rfl h1 (if c=k then(some (⟨b,off,none⟩:Addr))else Option.map (fun a=>a.add k) (some (⟨b,off,none⟩:Addr))) (n-k) (c-k) ((l.drop k).map encStr) (by rw[ev,d41]) hlD.out (hrD.out.below hC) enc_one2 (by unfold maxLen;omega) (by omega) ?_;intro v' w' hS hB;exact⟨hC.trans (hB.mono hC.size),hB,hS⟩
     ·intro w L f hC hLi hLd hLn ⟨d36,d42,_⟩;change _=_ at d36;refine Step2.live rfl ?_;obtain⟨A1,c1,e1,h1,h2⟩:=d42
      have hl42:([encStr s]++(l.drop k).map encStr).length=1+(n-k):=by rw[List.length_append,hlD.out];rfl
      obtain⟨ev,ec,ef⟩:=evs f;refine relUpon_append_tight w (.tmp 36) (.tmp 42) 35 rfl 9 iS (.string ⟨#[]⟩) 16 Tryz.underlying35 hiS hzS0 hzS1 hzS2 rfl (some (⟨b,off,none⟩:Addr)) k ((l.take k).map encStr) (by rw[ev,d36]) hlT.out ((hrT.out.below hC).more hC.size) A1 (1+(n-k)) c1 ([encStr s]++(l.drop k).map encStr) (by rw[ev,e1,hl42]) hl42 h1 enc_cons (by unfold maxLen;omega) (by omega) ?_;intro v' w' hS hB;exact⟨hC.trans (hB.mono hC.size),hB,hS⟩
     ·intro w L f hC hLi hLd hLn ⟨d,_⟩;refine Step2.live rfl ?_;exact relUpon_value (v:=f 43) rfl (hC) (Below.refl _ _) d
    intro x w' hC hV
    have e0:=hV 11 _ rfl rfl;clear hV;obtain⟨vv,hvv⟩:∃v,v=x 11:=⟨_,rfl⟩;rw[←hvv]at e0;simp only[framed];rw[←hvv];clear hvv;go_wp2_with fail;go_ret;exact⟨⟨vv,rfl,by rw[hd.out];exact StrV.of (by rw[List.map_append,List.map_cons];exact e0)⟩,hC⟩
 ·have hge:n≤k:=by omega
  have hd:=zi (addS_ins k l s hall.out (by rw[hn'.out];exact hk) (fun h=>absurd h (by rw[hn'.out];omega)));go_wp2_with fail
  have hkc:k≤c:=by omega
  have hrT:=zi (show Row w0 w0.heap.size A ((l.take k).map encStr)by rw[List.map_take];exact hr'.out.take k)
  have hrD:=zi (show Row w0 w0.heap.size (if c=k then A else Option.map (fun a=>a.add k) A) ((l.drop k).map encStr)by
   have:=hr'.out.cut k (c:=c) (by rw[List.length_map,hn'.out];exact hc);rw[←List.map_drop]at this
   exact this)
  have hlT:=zi (show((l.take k).map encStr).length=k by rw[List.length_map,List.length_take,hn'.out];omega);have hlD:=zi (show((l.drop k).map encStr).length=n-k by rw[List.length_map,List.length_drop,hn'.out]);refine wp_region_tab ((eqw (.slice A n c))::(eqw (.int .i64 k))::(eqw (.int .i64 k))::(eqw (.slice A k k))::(eqw (encStr s))::(fun w v=>∃A1,v= .slice A1 1 1∧Row w w.heap.size A1 [encStr s])::(eqw (.slice A n c))::(eqw (.int .i64 k))::(eqw (.slice (if c=k then A else Option.map (fun a=>a.add k) A) (n-k) (c-k)))::(fun w v=>SlS w ([encStr s]++(l.drop k).map encStr) v)::(fun w v=>SlS w ((l.take k).map encStr++([encStr s]++(l.drop k).map encStr)) v)::(fun w v=>SlS w ((l.take k).map encStr++([encStr s]++(l.drop k).map encStr)) v)::[])
   ((rn1 0)::(rn1 5)::(rn1 5)::⟨[(33,some 0),(34,some 1),(35,some 2)],0,[]⟩::(rn1 1)::(rd1 37 4)::(rn1 0)::(rn1 5)::⟨[(39,some 6),(40,some 7)],0,[]⟩::⟨[(38,some 5),(41,some 8)],0,[]⟩::⟨[(36,some 3),(42,some 9)],0,[]⟩::(rd1 43 10)::[])
   (no::no::no::no::so 11::no::no::no::no::no::no::no::no::no::no::no::no::no::no::no::no::no::no::no::no::no::no::no::no::no::no::no::no::so 0::so 1::so 2::so 3::so 4::so 5::so 6::so 7::so 8::so 9::so 10::[])
   (fun _ w'=>Below w0.heap.size w0 w') (fun _ w w'=>Below w.heap.size w w') ?mixK6addb ?okK6addb ?tabK6addb ?frK6addb ?inK6addb ?keptK6addb ?startK6addb ?eachK6addb ?finK6addb
  case mixK6addb|okK6addb|tabK6addb|frK6addb=>kernel_rfl
  case inK6addb=>rfl
  case keptK6addb=>exact⟨fun _ _ _ _ _ _ _ h=>h,fun _ _ _ _ _ _ _ h=>h,fun _ _ _ _ _ _ _ h=>h,fun _ _ _ _ _ _ _ h=>h,fun _ _ _ _ _ _ _ h=>h,fun _ _ _=>fun w w' v hG ⟨A1,e,h⟩=>⟨A1,e,(h.below hG).more hG.size⟩,fun _ _ _ _ _ _ _ h=>h,fun _ _ _ _ _ _ _ h=>h,fun _ _ _ _ _ _ _ h=>h,fun _ _ _=>fun w w' v hG h=>h.up hG,fun _ _ _=>fun w w' v hG h=>h.up hG,fun _ _ _=>fun w w' v hG h=>h.up hG,trivial⟩
  case startK6addb=>exact(Below.refl _ _).drew
  case eachK6addb=>
   repeat' first|exact trivial|refine And.intro ?_ ?_
   ·intro w L f hC hLi hLd hLn ⟨d,_⟩;refine Step2.live rfl ?_;exact relUpon_value (v:=f 0) rfl (hC) (Below.refl _ _) d
   iterate 2 (intro w L f hC hLi hLd hLn ⟨d,_⟩;refine Step2.live rfl ?_;exact relUpon_value (v:=f 5) rfl (hC) (Below.refl _ _) d)
   ·intro w L f hC hLi hLd hLn ⟨a,b,c,_⟩;change _=_ at a b c;refine Step2.live rfl ?_;obtain⟨ev,ec,ef⟩:=evs f;refine relUpon_value ?_ hC (Below.refl _ _) rfl;go_simp
   ·intro w L f hC hLi hLd hLn ⟨d,_⟩;refine Step2.live rfl ?_;exact relUpon_value (v:=f 1) rfl (hC) (Below.refl _ _) d
   ·intro w L f hC hLi hLd hLn ⟨a,_⟩;change _=_ at a;refine Step2.live rfl ?_;have hbn:=below_new w (.cells #[encStr s] 9);obtain⟨ev,ec,ef⟩:=evs f;refine relUpon_value (w':=w.alloc (.cells #[encStr s] 9)) (v:= .slice (some ⟨w.heap.size,0,none⟩) 1 1) (by go_simp) (hC.trans (hbn.mono hC.size)) hbn ⟨_,rfl,Row.fresh w 9 [encStr s]⟩
   ·intro w L f hC hLi hLd hLn ⟨d,_⟩;refine Step2.live rfl ?_;exact relUpon_value (v:=f 0) rfl (hC) (Below.refl _ _) d
   ·intro w L f hC hLi hLd hLn ⟨d,_⟩;refine Step2.live rfl ?_;exact relUpon_value (v:=f 5) rfl (hC) (Below.refl _ _) d
   ·intro w L f hC hLi hLd hLn ⟨a,b,_⟩;change _=_ at a b;refine Step2.live rfl ?_;obtain⟨ev,ec,ef⟩:=evs f;refine relUpon_value ?_ hC (Below.refl _ _) rfl;go_simp
   ·intro w L f hC hLi hLd hLn ⟨d38,d41,_⟩;change _=_ at d41;refine Step2.live rfl ?_;obtain⟨A1,e1,h1⟩:=d38;obtain⟨ev,ec,ef⟩:=evs f;refine relUpon_append_tight w (.tmp 38) (.tmp 41) 35 rfl 9 iS (.string ⟨#[]⟩) 16 Tryz.underlying35 hiS hzS0 hzS1 hzS2 rfl A1 1 [encStr s] (by rw[ev,e1]) rfl h1 (if c=k then A else Option.map (fun a=>a.add k) A) (n-k) (c-k) ((l.drop k).map encStr) (by rw[ev,d41]) hlD.out (hrD.out.below hC) enc_one2 (by unfold maxLen;omega) (by omega) ?_;intro v' w' hS hB;exact⟨hC.trans (hB.mono hC.size),hB,hS⟩
   ·intro w L f hC hLi hLd hLn ⟨d36,d42,_⟩;change _=_ at d36;refine Step2.live rfl ?_;obtain⟨A1,c1,e1,h1,h2⟩:=d42
    have hl42:([encStr s]++(l.drop k).map encStr).length=1+(n-k):=by rw[List.length_append,hlD.out];rfl
    obtain⟨ev,ec,ef⟩:=evs f;refine relUpon_append_tight w (.tmp 36) (.tmp 42) 35 rfl 9 iS (.string ⟨#[]⟩) 16 Tryz.underlying35 hiS hzS0 hzS1 hzS2 rfl A k ((l.take k).map encStr) (by rw[ev,d36]) hlT.out ((hrT.out.below hC).more hC.size) A1 (1+(n-k)) c1 ([encStr s]++(l.drop k).map encStr) (by rw[ev,e1,hl42]) hl42 h1 enc_cons (by unfold maxLen;omega) (by omega) ?_;intro v' w' hS hB;exact⟨hC.trans (hB.mono hC.size),hB,hS⟩
   ·intro w L f hC hLi hLd hLn ⟨d,_⟩;refine Step2.live rfl ?_;exact relUpon_value (v:=f 43) rfl (hC) (Below.refl _ _) d
  intro x w' hC hV
  have e0:=hV 11 _ rfl rfl;clear hV;obtain⟨vv,hvv⟩:∃v,v=x 11:=⟨_,rfl⟩;rw[←hvv]at e0;simp only[framed];rw[←hvv];clear hvv;go_wp2_with fail;go_ret;exact⟨⟨vv,rfl,by rw[hd.out];exact StrV.of (by rw[List.map_append,List.map_cons];exact e0)⟩,hC⟩
theorem apart_kinds {w:World} {B g:Nat} {t:TypeId} {A:Option Addr} {l:List S} {cs:Array Value} (hr:Row w B A (l.map encStr)) (hg:Holds w g t cs) (hc:∀(i:Nat) s,cs[i]? ≠some (.string s)) (hne:l.map encStr≠[]):blk A∉[some g]:=by
 obtain⟨b,off,rfl,_,hcl⟩:=hr hne;intro h;simp[blk]at h;subst h;rcases l with _| ⟨x,r⟩
 ·exact hne rfl
 ·have h0:=hcl 0 (encStr x) rfl;rw[hg.cell]at h0;exact hc _ _ h0
theorem row_kept {w w':World} {g:Nat} {t:TypeId} {A:Option Addr} {l:List S} {cs:Array Value} (hr:Row w w.heap.size A (l.map encStr)) (hg:Holds w g t cs) (hc:∀(i:Nat) s,cs[i]? ≠some (.string s)) (hw:Writes [some g] w w'):Row w' w'.heap.size A (l.map encStr):=
 (hw.row hr (Nat.le_refl _) (fun hne=>apart_kinds hr hg hc hne)).more hw.size
theorem kinds2 {b:Bool} {v:Value} (h:∀s,v≠.string s) (i:Nat) (s:ByteArray):(#[.bool b,v]:Array Value)[i]? ≠some (.string s):=fun e=>by
 match i,e with
 |0,e=>simp at e
 |1,e=>simp at e;exact h _ e
 |n+2,e=>simp at e
theorem kinds3 {b:Bool} {v u:Value} (h:∀s,v≠.string s) (h2:∀s,u≠.string s) (i:Nat) (s:ByteArray):(#[.bool b,v,u]:Array Value)[i]? ≠some (.string s):=fun e=>by
 match i,e with
 |0,e=>simp at e
 |1,e=>simp at e;exact h _ e
 |2,e=>simp at e;exact h2 _ e
 |n+3,e=>simp at e
theorem fold_len (l:List S):(l.foldl addS []).length≤l.length:=by
 rw[fold_addS];exact canon_len l
theorem refPtsO_any (w0:World) (nul:Bool) (A:Option Addr) (n c:Nat) (cs:List S) (hn0:n=cs.length) (hr0:Row w0 w0.heap.size A (cs.map encStr)) (hc0:n≤c) (hn:n≤100):
  Calls Tryz.prog 128 #[.agg #[.bool nul,.slice A n c]] w0 fun e w'=>∃Az cz,e= .returned (.agg #[.bool nul,.slice Az (canon cs).length cz])∧Row w' w'.heap.size Az ((canon cs).map encStr)∧(canon cs).length≤cz∧Below w0.heap.size w0 w':=by
 have K0:=(((Kp.start (Below.refl w0.heap.size w0)).addR hr0).new 130 #[.bool nul,.slice A n c]).new 130 #[.bool false,.slice none 0 0];rw[show(w0.alloc (.cells #[.bool nul,.slice A n c] 130)).heap.size=w0.heap.size+1 by simp]at K0;have hn1:=zi hn0;clear hr0 hn0;go_enter Tryz.func128,Tryz.ntmps128;go_wp2_with fail;generalize (w0.alloc (.cells #[.bool nul,.slice A n c] 130)).alloc (.cells #[.bool false,.slice none 0 0] 130)=w1 at K0⊢;generalize hB0:w0.heap.size=B0 at K0⊢;have hB0':=zi hB0;clear hB0;go_loopw [3,4] (fun lv i wr=>∃(k:Nat) (cur:List S),k≤n∧i= .int .i64 k∧cur=(cs.take k).foldl addS []∧Kp w0 [(B0+1,130,#[.bool false,.slice none 0 0]),(B0,130,#[.bool nul,.slice A n c])] [(A,cs.map encStr)] wr∧StrV wr cur lv) (fun _ i _=>n-(intOf i).toNat)
 case atStart=>exact⟨0,[],by omega,rfl,rfl,K0,none,0,rfl,Row.nil_ _ _ _,by simp⟩
 clear K0;obtain⟨k,cur,hk,rfl,hcur,K,A1,c1,rfl,hr1,hc1⟩:=hrel;have fb0:=(K.fact 0 0 rfl rfl).2;have fb1:=(K.fact 0 1 rfl rfl).2;have fa0:=(K.fact 1 0 rfl rfl).2;have fa1:=(K.fact 1 1 rfl rfl).2;have hfl:=fold_len (cs.take k);rw[List.length_take,←hcur]at hfl;have hcur2:=zi hcur;have hr2:=zi hr1;clear hcur hr1
 have hcl:cur.length≤100:=by omega
 by_cases hlt:k<n
 ·have hlt2:k<cs.length:=by rw[←hn1.out];exact hlt
  obtain⟨b,off,rfl,hbb,hcell⟩:=(K.row 0 _ _ rfl).at_ (k:=k) (by simpa using hlt2);rw[List.getElem_map]at hcell;have htk:=zi (List.take_succ_eq_append_getElem hlt2);generalize cs[k]=s at hcell htk;go_wp2_with fail
  ((with_reducible refine(add_any wr A1 cur.length c1 cur s rfl (by omega) hc1 hr2.out).mono ?_))
  rintro e w2 ⟨⟨v2,rfl,hS⟩,hb2⟩;have K2:=K.up hb2;clear K hb2 fb0 fb1 fa0 fa1;go_wp2_with fail;go_roundw
  case rel=>exact⟨k+1,addS cur s,by omega,by go_num,by rw[htk.out,List.foldl_append,←hcur2.out];rfl,K2,hS⟩
  case measure=>simp[intOf];omega
 ·obtain rfl:k=n:=by omega
  have hcan:Hid (cur=canon cs):=zi (by rw[hcur2.out,hn1.out,List.take_length,fold_addS]);have fz0:=(K.hold 0 _ _ _ rfl).frozen 0;have fz1:=(K.hold 0 _ _ _ rfl).frozen 1;have hst:=writes_two wr (B0+1) (.bool nul) (.slice A1 cur.length c1)
  have hfin:Hid (∃Az cz,(.agg #[.bool nul,.slice A1 cur.length c1]:Value)=(.agg #[.bool nul,.slice Az (canon cs).length cz])∧Row ((wr.setCell ⟨B0+1,0,none⟩ (.bool nul)).setCell ⟨B0+1,1,none⟩ (.slice A1 cur.length c1)) ((wr.setCell ⟨B0+1,0,none⟩ (.bool nul)).setCell ⟨B0+1,1,none⟩ (.slice A1 cur.length c1)).heap.size Az ((canon cs).map encStr)∧(canon cs).length≤cz∧Below w0.heap.size w0 ((wr.setCell ⟨B0+1,0,none⟩ (.bool nul)).setCell ⟨B0+1,1,none⟩ (.slice A1 cur.length c1))):=zi (by
   have hB:=hB0'.out;refine⟨A1,c1,by rw[←hcan.out],?_,by rw[←hcan.out];exact hc1,K.bel.trans (hst.below K.size (fun j hj=>by simp at hj;omega))⟩;rw[←hcan.out]
   exact row_kept hr2.out (K.hold 0 _ _ _ rfl) (kinds2 fun s h=>by cases h) hst)
  have hh3:=zi (holds_two (K.hold 0 _ _ _ rfl) (.bool nul) (.slice A1 cur.length c1));clear hst K;go_wp2_with fail;refine ret_cellO rfl rfl rfl hh3.out Tryz.underlying130 Tryz.szPts ?_;obtain⟨Az,cz,e1,h1,h2,h3⟩:=hfin.out;exact⟨Az,cz,congrArg Ending.returned e1,h1,h2,h3⟩
theorem pempty_any (w0:World) (v:Value):Calls Tryz.prog 129 #[.agg #[.bool true,v]] w0 fun e w'=>e= .returned (.bool false)∧Below w0.heap.size w0 w':=by
 have hb:=zi (below_new w0 (.cells #[.bool true,v] 130));have hh:=Holds.new w0 130 #[.bool true,v];have z0:=(fact_of hh 0 rfl).2;go_enter Tryz.func129,Tryz.ntmps129;go_wp2_with fail;go_ret;exact⟨rfl,hb.out⟩
end Go.Proofs.YtpndglghpojjkaaGreat
namespace Go.Proofs.YtpndglghpojjkaaGreat
open Go.RowKit Go.Deep
def SetPostP (w0:World) (lp:List PRw) (sx:ByteArray) (cells:List S) (Ait:Option Addr) (ni ci:Nat) (e:Ending) (w':World):Prop:=
 ∃A c Az cz,e= .returned (memV Ait ni ci A (setL kP lp ⟨sx,true,Az,cells.length,cz⟩).length c)∧w'.ownsRow w0.heap.size 132 3 (.slice A (setL kP lp ⟨sx,true,Az,cells.length,cz⟩).length c) (setL kP lp ⟨sx,true,Az,cells.length,cz⟩).length ((setL kP lp ⟨sx,true,Az,cells.length,cz⟩).flatMap encP)∧Row w' w'.heap.size Az (cells.map encStr)∧Below w0.heap.size w0 w'
theorem setP_any (w0:World) (Ait Apt:Option Addr) (nni ci cp:Nat) (lp:List PRw) (hr:RowS w0 Evr Apt (lp.flatMap encP)) (hn:lp.length≤100) (hci:lp.length≤cp) (sx:ByteArray) (Ac:Option Addr) (cc:Nat) (cs:List S) (hcs:Row w0 w0.heap.size Ac (cs.map encStr)) (hcc:cs.length≤cc) (hcl:cs.length≤100):
  Calls Tryz.prog 76 #[memV Ait nni ci Apt lp.length cp,.string sx,.agg #[.bool true,.slice Ac cs.length cc]] w0 (SetPostP w0 lp sx (canon cs) Ait nni ci):=by
 obtain⟨iNm,hiP,hzP0,hzP1,hzP2⟩:=info_parts Tryz.clPoint;obtain⟨np,hni⟩:∃y,y=lp.length:=⟨_,rfl⟩;rw[←hni]at hn hci;rw[←hni];have hn':=zi hni;obtain⟨nc,hnc⟩:∃y,y=cs.length:=⟨_,rfl⟩;rw[←hnc]at hcc hcl;rw[←hnc];have hnc':=zi hnc;obtain⟨W1,hW1⟩:∃y,y=((w0.alloc (.cells #[.bool true,.slice Ait nni ci,.slice Apt np cp] 56)).alloc (.cells #[.bool true,.slice Ac nc cc] 130)).alloc (.cells #[.bool false,.slice none 0 0,.slice none 0 0] 56):=⟨_,rfl⟩;have k1:=below_new w0 (.cells #[.bool true,.slice Ait nni ci,.slice Apt np cp] 56);have k2:=below_new (w0.alloc (.cells #[.bool true,.slice Ait nni ci,.slice Apt np cp] 56)) (.cells #[.bool true,.slice Ac nc cc] 130);have k3:=below_new ((w0.alloc (.cells #[.bool true,.slice Ait nni ci,.slice Apt np cp] 56)).alloc (.cells #[.bool true,.slice Ac nc cc] 130)) (.cells #[.bool false,.slice none 0 0,.slice none 0 0] 56);have hb1:=(k1.trans (k2.mono k1.size)).trans (k3.mono (Nat.le_trans k1.size k2.size))
 have hHm:=((Holds.new w0 56 #[.bool true,.slice Ait nni ci,.slice Apt np cp]).alloc (.cells #[.bool true,.slice Ac nc cc] 130)).alloc (.cells #[.bool false,.slice none 0 0,.slice none 0 0] 56);have hHv:=(Holds.new (w0.alloc (.cells #[.bool true,.slice Ait nni ci,.slice Apt np cp] 56)) 130 #[.bool true,.slice Ac nc cc]).alloc (.cells #[.bool false,.slice none 0 0,.slice none 0 0] 56);have hHr:=Holds.new ((w0.alloc (.cells #[.bool true,.slice Ait nni ci,.slice Apt np cp] 56)).alloc (.cells #[.bool true,.slice Ac nc cc] 130)) 56 #[.bool false,.slice none 0 0,.slice none 0 0];rw[show(w0.alloc (.cells #[.bool true,.slice Ait nni ci,.slice Apt np cp] 56)).heap.size=w0.heap.size+1 by simp]at hHv;rw[show((w0.alloc (.cells #[.bool true,.slice Ait nni ci,.slice Apt np cp] 56)).alloc (.cells #[.bool true,.slice Ac nc cc] 130)).heap.size=w0.heap.size+2 by simp]at hHr;rw[←hW1]at hb1 hHm hHv hHr;obtain⟨gm,hgm⟩:∃y,y=w0.heap.size:=⟨_,rfl⟩;obtain⟨gv,hgv⟩:∃y,y=w0.heap.size+1:=⟨_,rfl⟩;obtain⟨gr,hgr⟩:∃y,y=w0.heap.size+2:=⟨_,rfl⟩;rw[←hgm]at hHm;rw[←hgv]at hHv;rw[←hgr]at hHr;have hgm':=zi hgm.symm
 have hgv':Hid (gm+1=gv):=zi (by omega);have hgr':Hid (gv+1=gr):=zi (by omega);have hr0:=zi hr;have hcs1:=zi ((Row.below hcs hb1).more hb1.size);have hb1:=zi hb1;have hfo:=zi hW1.symm;clear hni hnc hr k1 k2 k3 hgm hgv hgr hW1 hcs;unfold memV;go_enter Tryz.func76,Tryz.ntmps76;go_upto_region 1 with(fail);rw[hfo.out,hgm'.out,hgv'.out,hgr'.out];have z0:=(fact_of hHv 0 rfl).2;have z1:=(fact_of hHv 1 rfl).2;have hHm:=zi hHm;have hHv:=zi hHv;have hHr:=zi hHr;clear hfo;go_wp2_with fail;refine(refPtsO_any W1 true Ac nc cc cs hnc'.out hcs1.out hcc hcl).mono ?_;rintro e w2 ⟨Az,cz,rfl,hrz2,-,hb2⟩;obtain⟨nz,hnz⟩:∃y,y=(canon cs).length:=⟨_,rfl⟩;rw[←hnz];have hnz':=zi hnz.symm;clear z0 z1 hnz;have hHm2:=zi (hHm.out.below hb2 hHm.out.lt);have hHv2:=hHv.out.below hb2 hHv.out.lt;have hHr2:=zi (hHr.out.below hb2 hHr.out.lt);have z0:=(fact_of hHv2 0 rfl).2;have z1:=(fact_of hHv2 1 rfl).2;have f0:=hHv2.frozen 0;have f1:=hHv2.frozen 1;have hst:=writes_two w2 gv (.bool true) (.slice Az nz cz);have hHva:=holds_two hHv2 (.bool true) (.slice Az nz cz)
 have hrza:=row_kept hrz2 hHv2 (kinds2 fun s h=>by cases h) hst;obtain⟨wa,hwa⟩:∃y,y=(w2.setCell ⟨gv,0,none⟩ (.bool true)).setCell ⟨gv,1,none⟩ (.slice Az nz cz):=⟨_,rfl⟩;rw[←hwa]at hst hHva hrza;have hHma:Hid (Holds wa gm 56 #[.bool true,.slice Ait nni ci,.slice Apt np cp]):=zi (hst.holds hHm2.out (by simp;have:=hgv'.out;omega));have hHra:Hid (Holds wa gr 56 #[.bool false,.slice none 0 0,.slice none 0 0]):=zi (hst.holds hHr2.out (by simp;have:=hgr'.out;omega));have hHva:=zi hHva;have hrza:=zi hrza;have hbwa:Hid (Below w0.heap.size w0 wa):=zi ((hb1.out.trans (hb2.mono hb1.out.size)).trans (hst.below (Nat.le_trans hb1.out.size hb2.size) (fun j hj=>by simp at hj;have:=hgm'.out;have:=hgv'.out;omega)));have hwa':=zi hwa.symm;clear hwa hrz2;go_upto_region 2 with(fail);rw[hwa'.out];clear z0 z1 f0 f1 hHv2 hst;have m0:=(fact_of hHma.out 0 rfl).2;have v0:=(fact_of hHva.out 0 rfl).2;have v1:=(fact_of hHva.out 1 rfl).2;go_wp2_with fail;refine(pempty_any wa (.slice Az nz cz)).mono ?_;rintro e w3 ⟨rfl,hb3⟩
 have hHm3:Hid (Holds w3 gm 56 #[.bool true,.slice Ait nni ci,.slice Apt np cp]):=zi (hHma.out.below hb3 hHma.out.lt);have hHr3:Hid (Holds w3 gr 56 #[.bool false,.slice none 0 0,.slice none 0 0]):=zi (hHra.out.below hb3 hHra.out.lt);have hHv3:Hid (Holds w3 gv 130 #[.bool true,.slice Az nz cz]):=zi (hHva.out.below hb3 hHva.out.lt);have hrz3:=zi ((hrza.out.below hb3).more hb3.size);have hbw3:Hid (Below w0.heap.size w0 w3):=zi (hbwa.out.trans (hb3.mono hbwa.out.size));clear m0 v0 v1 hb3;have m2:=(fact_of hHm3.out 2 rfl).2;obtain⟨T,hT0⟩:∃y,y=aheadL kP lp ⟨sx,true,Az,nz,cz⟩:=⟨_,rfl⟩
 have hTn:T≤np:=by rw[hT0,hn'.out];exact aheadL_le _ _ _
 have hT:=zi hT0;clear hT0;have hr3:Hid (RowS w3 Evr Apt (lp.flatMap encP)):=zi (hr0.out.up hbw3.out);go_wp2_with fail
 go_loop [7] (fun i=>∃k:Nat,k≤T∧i= .int .i64 k) (fun i=>T-(intOf i).toNat)
 case atStart=>exact⟨0,by omega,rfl⟩
 obtain⟨k,hk,rfl⟩:=hrel;by_cases hlt:k<T
 ·have hkl:k<lp.length:=by rw[←hn'.out];omega
  have hkn:k<np:=by omega
  have hkz:(k:Int)<(np:Int):=by omega
  obtain⟨b,off,rfl,q,hqc⟩:=grow_at (enc:=encP) (kk:=3) (fun _=>rfl) (by decide) hr3.out hkl;have q0:w3.cell? ⟨b,off+k*3,none⟩=some (.string lp[k].nm):=hqc 0 _ rfl;have hl0:nmB lp[k].nm<nmB sx:=aheadL_lt kP lp ⟨sx,true,Az,nz,cz⟩ k hkl (by rw[←hT.out];exact hlt);clear hqc;generalize lp[k].nm=sk at q0 hl0
  have hl1:Op.bytesLess sk.toList sx.toList=true:=by rw[Go.Proofs.bytesLess_eq,ByteArray.toList_eq,ByteArray.toList_eq];exact decide_eq_true hl0
  go_wp2_with fail;refine⟨⟨k+1,by omega,by go_num⟩,?_⟩;simp[intOf];omega
 have hkT:k=T:=by omega
 have hTz:(T:Int)≤(cp:Int):=by omega
 have hstop:Hid (∀h:T<lp.length,¬nmB lp[T].nm<nmB sx):=zi (by
  have h1:=hT.out;subst h1
  exact fun h=>aheadL_stop kP lp ⟨sx,true,Az,nz,cz⟩ h)
 have hlA:Hid (((lp.take T).flatMap encP).length=T*3):=zi (by rw[flatE_len (k:=3) (fun _=>rfl),List.length_take,Nat.min_eq_left (by rw[←hn'.out];exact hTn)])
 have hoA:Hid (∀u∈(lp.take T).flatMap encP,u.oneCell'=true):=zi (by
  intro u hu;obtain⟨z,-,hz⟩:=List.mem_flatMap.1 hu
  exact encP_one z u hz)
 have hrA:Hid (RowS w3 Evr Apt ((lp.take T).flatMap encP)):=zi (rowS_take hr3.out T);have hlq:Hid (∀h:T<lp.length,Op.bytesLess lp[T].nm.toList sx.toList=false):=zi (fun h=>by rw[Go.Proofs.bytesLess_eq,ByteArray.toList_eq,ByteArray.toList_eq];exact decide_eq_false (hstop.out h));rw[hkT];clear hk hlt hkT;go_upto_region 5 with(fail);go_cut [33] (fun v wc=>v= .bool false∧w3=wc)
 case' first=>
  by_cases hTn2:T<np
  ·have hTz3:(T:Int)<(np:Int):=by omega
   have hTl:T<lp.length:=by rw[←hn'.out];exact hTn2
   obtain⟨b,off,rfl,q,hqc⟩:=grow_at (enc:=encP) (kk:=3) (fun _=>rfl) (by decide) hr3.out hTl;have q0:w3.cell? ⟨b,off+T*3,none⟩=some (.string lp[T].nm):=hqc 0 _ rfl;have hl1:=hlq.out hTl;clear hqc;generalize lp[T].nm=sk at q0 hl1;go_wp2_with fail
   go_meet
   case rel=>exact⟨rfl,rfl⟩
  ·have hTz2:¬(T:Int)<(np:Int):=by omega
   go_wp2_with fail
   go_meet
   case rel=>exact⟨rfl,rfl⟩
 case' rest=>
  obtain⟨rfl,rfl⟩:=hcut;go_upto_region 8 with
   (at_builtin
    go_loud (refine wpList_append_rowS rfl (.const (.slice none 0 0)) (.tmp 39) 54 rfl w3.heap.size 132 iNm _ 3 48 rfl hiP hzP0 hzP1 hzP2 rfl (by omega) (.slice none 0 0) 0 [] rfl (World.ownsRow_nil _ _ _ _) Apt T cp ((lp.take T).flatMap encP) rfl hlA.out hrA.out hoA.out (by unfold maxLen;omega) (by omega) (Nat.le_refl _) ?_)
    go_loud (
     intro v8 w8 ho8 hg8 _;have hO8:=zi ho8;have hb8:Hid (Below w3.heap.size w3 w8):=zi ⟨hg8.os,hg8.tape,hg8.output,hg8.size,fun k hk=>hg8.block k hk (by simp[Value.ownBlock])⟩
     clear ho8 hg8))
  have hO8':Hid (w8.ownsRow w3.heap.size 132 3 v8 T ((lp.take T).flatMap encP)):=zi (by have:=hO8.out;rw[Nat.zero_add,List.nil_append]at this;exact this);have hHm8:=zi (hHm3.out.below hb8.out hHm3.out.lt);have hHv8:=hHv3.out.below hb8.out hHv3.out.lt;have hHr8:=zi (hHr3.out.below hb8.out hHr3.out.lt);have v0:=(fact_of hHv8 0 rfl).2;have v1:=(fact_of hHv8 1 rfl).2;have hbn:=below_new w8 (.cells #[.string sx,.bool true,.slice Az nz cz] 132);have hO9:=zi (own_below hO8'.out hbn);have hrw:=zi (rowS_holds (cs:= [.string sx,.bool true,.slice Az nz cz]) (Holds.new w8 132 #[.string sx,.bool true,.slice Az nz cz]));have hone:Hid (∀u∈([.string sx,.bool true,.slice Az nz cz]:List Value),u.oneCell'=true):=zi (by intro u hu;simp at hu;rcases hu with rfl|rfl|rfl<;>rfl);have hbs:=zi (Nat.le_trans hb8.out.size hbn.size);have hkq:=zi (hb8.out.trans (hbn.mono hb8.out.size));have hHv8:=zi hHv8;clear hO8 hbn;go_upto_region 9 with
   (at_builtin
    go_loud (refine wpList_append_rowS rfl (.tmp 41) (.tmp 45) 54 rfl w3.heap.size 132 iNm _ 3 48 rfl hiP hzP0 hzP1 hzP2 rfl (by omega) v8 T ((lp.take T).flatMap encP) rfl hO9.out (some ⟨w8.heap.size,0,none⟩) 1 1 [.string sx,.bool true,.slice Az nz cz] rfl rfl hrw.out hone.out (by unfold maxLen;omega) (by omega) hbs.out ?_)
    go_loud (
     intro v9 w9 ho9 hg9 _;have hO10:=zi ho9;have hk9:=zi (KeptO.grown hO9.out hg9 hbs.out)
     clear ho9 hg9))
  have hb9:=zi (hkq.out.trans hk9.out.1);have hO10':Hid (w9.ownsRow w3.heap.size 132 3 v9 (T+1) ((lp.take T).flatMap encP++ [.string sx,.bool true,.slice Az nz cz])):=zi hO10.out;have hHm9:=zi (hHm3.out.below hb9.out hHm3.out.lt);have hHr9:=zi (hHr3.out.below hb9.out hHr3.out.lt);have hr9:Hid (RowS w9 Evr Apt (lp.flatMap encP)):=zi (hr3.out.up (hb9.out.mono (Nat.le_refl _)));clear hO10 hO9 hO8' hrw hone hbs hkq hk9 hHv8 hHm8 hHr8 v0 v1 m2;have m1:=(fact_of hHm9.out 2 rfl).2;obtain⟨bq,hbq0⟩:∃y,y=decide ((lp.drop T).head?.map kP=some (kP ⟨sx,true,Az,nz,cz⟩)):=⟨_,rfl⟩;have hbq:=zi hbq0;clear hbq0;go_cut [61] (fun v wc=>v= .bool bq∧w9=wc)
  case' first=>
   by_cases hTn2:T<np
   ·have hTz3:(T:Int)<(np:Int):=by omega
    have hTl:T<lp.length:=by rw[←hn'.out];exact hTn2
    have hb2:Hid (bq=(lp[T].nm.toList==sx.toList)):=zi (by
     rw[hbq.out,List.head?_drop,List.getElem?_eq_getElem hTl,ByteArray.toList_eq,ByteArray.toList_eq,Bool.eq_iff_iff]
     simp[kP,nmB])
    obtain⟨b,off,rfl,q,hqc⟩:=grow_at (enc:=encP) (kk:=3) (fun _=>rfl) (by decide) hr9.out hTl;have q0:w9.cell? ⟨b,off+T*3,none⟩=some (.string lp[T].nm):=hqc 0 _ rfl;clear hqc;generalize lp[T].nm=sk at q0 hb2;go_wp2_with fail
    go_meet
    case rel=>exact⟨congrArg Value.bool hb2.out.symm,rfl⟩
   ·have hTz2:¬(T:Int)<(np:Int):=by omega
    have hb2:Hid (bq=false):=zi (by
     rw[hbq.out,List.drop_eq_nil_of_le (by rw[←hn'.out];omega)]
     simp)
    go_wp2_with fail
    go_meet
    case rel=>exact⟨congrArg Value.bool hb2.out.symm,rfl⟩
  case' rest=>
   obtain⟨rfl,rfl⟩:=hcut;obtain⟨U,hU0⟩:∃y,y=T+(if bq then 1 else 0):=⟨_,rfl⟩;have hcl:=zi (cut_len kP lp ⟨sx,true,Az,nz,cz⟩ hT.out hbq.out hU0)
   have hUn:U≤np:=by rw[hn'.out];exact hcl.out.1
   have hU:=zi hU0;clear hU0
   go_upto_if 61 with(fail)
   go_cut [7] (fun v wc=>v= .int .i64 U∧w9=wc)
   case' first=>
    cases hb:bq with
    |true=>
     have hUz:Hid ((T:Int)+1=U):=zi (by have h:=hU.out;rw[hb]at h;simp at h;omega);go_wp2_with fail
     go_meet
     case rel=>exact⟨congrArg (Value.int .i64) hUz.out,rfl⟩
    |false=>
     have hUz:Hid ((T:Int)=U):=zi (by have h:=hU.out;rw[hb]at h;simp at h;omega);go_wp2_with fail
     go_meet
     case rel=>exact⟨congrArg (Value.int .i64) hUz.out,rfl⟩
   case' rest=>
    obtain⟨rfl,rfl⟩:=hcut
    have hcutz:(U:Int)≤(np:Int):=by omega
    have z1:=(fact_of hHm9.out 2 rfl).2;have f1:=hHm9.out.frozen 2;have hl3:Hid (((lp.drop U).flatMap encP).length=(np-U)*3):=zi (by rw[flatE_len (k:=3) (fun _=>rfl),List.length_drop,←hn'.out]);have hr9':Hid (RowS w9 Evr (if cp=U then Apt else Apt.map fun x=>x.add (U*3)) ((lp.drop U).flatMap encP)):=zi (rowS_drop (enc:=encP) (kk:=3) (fun _=>rfl) hr9.out U (by rw[←hn'.out];exact hci))
    have ho3:Hid (∀u∈(lp.drop U).flatMap encP,u.oneCell'=true):=zi (by
     intro u hu;obtain⟨z,-,hz⟩:=List.mem_flatMap.1 hu
     exact encP_one z u hz)
    go_upto_region 12 with
     (at_builtin
      go_loud (refine wpList_append_rowS rfl (.tmp 64) (.tmp 68) 54 rfl w3.heap.size 132 iNm _ 3 48 rfl hiP hzP0 hzP1 hzP2 rfl (by omega) v9 (T+1) _ rfl hO10'.out _ _ _ ((lp.drop U).flatMap encP) rfl hl3.out hr9'.out ho3.out (by unfold maxLen;omega) (by omega) hb9.out.size ?_)
      go_loud (
       intro v11 w11 ho11 hg11 _;have hO11:=zi ho11;have hk11:=KeptO.grown hO10'.out hg11 hb9.out.size;have hb11:=zi (hb9.out.trans hk11.1);have hHm11:=hHm3.out.below hb11.out hHm3.out.lt;have y1:=(fact_of hHm11 2 rfl).2;have y2:=hHm11.frozen 2;obtain⟨Ax,cx,rfl,-,-⟩:=own_rowS4 ho11;have hHm11:=zi hHm11
       clear ho11 hg11 hk11))
    obtain⟨M,hM0⟩:∃y,y=T+1+(np-U):=⟨_,rfl⟩;rw[←hM0];have hM:=zi hM0;clear y1 y2 hM0;have hst12:=Writes.store w11 (M:= [some gm]) (p:=⟨gm,2,none⟩) (by simp) (.slice Ax M cx)
    have hHm12:Holds (w11.setCell ⟨gm,2,none⟩ (.slice Ax M cx)) gm 56 #[.bool true,.slice Ait nni ci,.slice Ax M cx]:=by have:=hHm11.out.store 2 (.slice Ax M cx);simpa using this
    have hHr12:=hst12.holds (hHr3.out.below hb11.out hHr3.out.lt) (by simp;have:=hgv'.out;have:=hgr'.out;omega);have hO12:=own_kept hO11.out hst12 (fun j hj=>by simp at hj;have:=hHm3.out.lt;omega);obtain⟨w12,hw12⟩:∃y,y=w11.setCell ⟨gm,2,none⟩ (.slice Ax M cx):=⟨_,rfl⟩;rw[←hw12]at hst12 hHm12 hHr12 hO12;rw[←hw12];replace hw12:=zi hw12;have y0:=(fact_of hHm12 0 rfl).2;have y1:=(fact_of hHm12 1 rfl).2;have y2:=(fact_of hHm12 2 rfl).2;have f0:=hHr12.frozen 0;have f1:=hHr12.frozen 1;have f2:=hHr12.frozen 2;have q0:=(fact_of hHr12 0 rfl).2;have q1:=(fact_of hHr12 1 rfl).2;have q2:=(fact_of hHr12 2 rfl).2;have x0:=hHr12.lt;have x1:=hHm12.lt;have hsr:=writes_three w12 gr (.bool true) (.slice Ait nni ci) (.slice Ax M cx);have hHr13:=zi (holds_three hHr12 (.bool true) (.slice Ait nni ci) (.slice Ax M cx))
    have hfin:Hid (SetPostP w0 lp sx (canon cs) Ait nni ci (.returned (.agg #[.bool true,.slice Ait nni ci,.slice Ax M cx])) (((w12.setCell ⟨gr,0,none⟩ (.bool true)).setCell ⟨gr,1,none⟩ (.slice Ait nni ci)).setCell ⟨gr,2,none⟩ (.slice Ax M cx))):=zi (by
     have e1:setL kP lp ⟨sx,true,Az,nz,cz⟩=lp.take T++⟨sx,true,Az,nz,cz⟩::lp.drop U:=hcl.out.2
     have e2:(setL kP lp ⟨sx,true,Az,nz,cz⟩).length=M:=by have h1:=hM.out;have h2:=hn'.out;rw[e1,List.length_append,List.length_cons,List.length_take,List.length_drop];omega
     have e3:(setL kP lp ⟨sx,true,Az,nz,cz⟩).flatMap encP=((lp.take T).flatMap encP++ [.string sx,.bool true,.slice Az nz cz])++(lp.drop U).flatMap encP:=by rw[e1,List.flatMap_append,List.flatMap_cons,List.append_assoc];rfl
     have b3:=hbw3.out.trans (hb11.out.mono hbw3.out.size);have b12:=b3.trans (hst12.below b3.size fun j hj=>by simp at hj;have:=hgm'.out;omega);have hO13:=own_base (own_kept hO12 hsr fun j hj=>by simp at hj;have:=hHr3.out.lt;omega) hbw3.out.size;rw[←hM.out]at hO13;have hbz:=b12.trans (hsr.below b12.size fun j hj=>by simp at hj;have:=hgm'.out;have:=hgv'.out;have:=hgr'.out;omega);have hr11:=(hrz3.out.below hb11.out).more hb11.out.size;have hr12:=row_kept hr11 hHm11.out (kinds3 (fun s e=>by cases e) fun s e=>by cases e) (by rw[hw12.out]at hst12;exact hst12);rw[←hw12.out]at hr12;have hr13:=row_kept hr12 hHr12 (kinds3 (fun s e=>by cases e) fun s e=>by cases e) hsr;unfold SetPostP;rw[hnz'.out];refine⟨Ax,cx,Az,cz,?_,?_,hr13,hbz⟩
     ·rw[e2];rfl
     ·rw[e2,e3];exact hO13)
    clear hHm12 hHr12 hO12 hst12 hsr;go_wp2_with fail
    all_goals exact ret_cellO rfl rfl (by simp) hHr13.out Tryz.underlying56 Tryz.szMemS hfin.out
end Go.Proofs.YtpndglghpojjkaaGreat
namespace Go.Proofs.YtpndglghpojjkaaGreat
open Go.RowKit
def CS (n m:Nat) (w0:World) (F:World→Prop) (L:Nat→Bool) (w:World):Prop:=(L n=false→Below w0.heap.size w0 w)∧(L n=true→L m=true∧F w)
section
variable {n m i:Nat} {w0 w w':World} {F:World→Prop} {L:Nat→Bool}
theorem CS.bel (h:CS n m w0 F L w) (hn:L n=false):Below w0.heap.size w0 w:=h.1 hn
theorem CS.go0 (hn:L n=false) (hi:n≠i) (hb:Below w0.heap.size w0 w'):CS n m w0 F (fun k=>k==i||L k) w':=
 ⟨fun _=>hb,fun e=>by simp[hi,hn]at e⟩
theorem CS.go (h:CS n m w0 F L w) (hn:L n=false) (hi:n≠i) (hb:Below w.heap.size w w'):CS n m w0 F (fun k=>k==i||L k) w':=CS.go0 hn hi ((h.1 hn).trans (hb.mono (h.1 hn).size))
theorem CS.last (hm:L m=true) (hF:F w'):CS n m w0 F (fun k=>k==n||L k) w':=⟨fun e=>by simp at e,fun _=>⟨by simp[hm],hF⟩⟩
end
end Go.Proofs.YtpndglghpojjkaaGreat
namespace Go.Proofs.YtpndglghpojjkaaGreat
open Go.RowKit Go.Deep
section
variable {α:Type} (key:α→List UInt8)
def setAll (l:List α):List α:=l.foldl (setL key) []
theorem setAll_snoc (l:List α) (x:α):setAll key (l++ [x])=setL key (setAll key l) x:=by simp[setAll,List.foldl_append]
theorem fold_set:∀(l acc:List α),(acc.map key).Pairwise (·<·)→(∀a∈acc,∀b∈l,key a≠key b)→(l.map key).Nodup→((l.foldl (setL key) acc).map key).Pairwise (·<·)∧∀x,x∈l.foldl (setL key) acc↔x∈acc∨x∈l
 | [],acc,h,_,_=>⟨h,fun x=>by simp⟩
 |y::l,acc,h,hd,hn=>by
  rw[List.map_cons,List.nodup_cons]at hn
  obtain⟨h1,h2⟩:=fold_set l (setL key acc y) (setL_up key h) (fun a ha b hb=>by
   rcases mem_setL key ha with rfl|h3
   ·exact fun e=>hn.1 (e▸List.mem_map_of_mem hb)
   ·exact hd a h3 b (List.mem_cons_of_mem _ hb)) hn.2
  refine⟨h1,fun x=>(h2 x).trans ?_⟩;rw[List.mem_cons];constructor
  ·rintro(h3|h3)
   ·rcases mem_setL key h3 with rfl|h4
    ·exact .inr (.inl rfl)
    ·exact .inl h4
   ·exact .inr (.inr h3)
  ·rintro(h3|rfl|h3)
   ·exact .inl (setL_old key h3 (hd x h3 y (List.mem_cons_self ..)))
   ·exact .inl (setL_new key acc x)
   ·exact .inr h3
theorem setAll_up {l:List α} (hn:(l.map key).Nodup):((setAll key l).map key).Pairwise (·<·):=(fold_set key l [] List.Pairwise.nil (fun _ h=>nomatch h) hn).1
theorem mem_setAll {l:List α} (hn:(l.map key).Nodup) (x:α):x∈setAll key l↔x∈l:=((fold_set key l [] List.Pairwise.nil (fun _ h=>nomatch h) hn).2 x).trans ⟨fun h=>h.resolve_left (fun h=>nomatch h),.inr⟩
theorem setL_len:∀(l:List α) (x:α),(setL key l x).length≤l.length+1
 | [],x=>by simp[setL]
 |y::r,x=>by
  have:=setL_len r x;unfold setL;split
  ·simp only[List.length_cons];omega
  ·split
   ·simp only[List.length_cons];omega
   ·simp only[List.length_cons];omega
theorem fold_setlen:∀(l acc:List α),(l.foldl (setL key) acc).length≤acc.length+l.length
 | [],acc=>by simp
 |y::l,acc=>by have h1:=fold_setlen l (setL key acc y);have h2:=setL_len key acc y;simp only[List.foldl_cons,List.length_cons];omega
theorem setAll_len (l:List α):(setAll key l).length≤l.length:=by
 have:=fold_setlen key l [];simpa[setAll]using this
end
def kQ (q:ByteArray×Pz):List UInt8:=nmB q.1
def PtrR (w:World) (r:PRw) (q:ByteArray×Pz):Prop:=r.nm=q.1∧r.nul=q.2.nul∧r.n=q.2.cells.length∧Row w w.heap.size r.A (q.2.cells.map encStr)
def PtrsIn (w:World):List PRw→List (ByteArray×Pz)→Prop
 | [],[]=>True
 |r::l,q::m=>PtrR w r q∧PtrsIn w l m
 |_,_=>False
theorem PtrR.up {w w':World} {r:PRw} {q:ByteArray×Pz} (h:PtrR w r q) (hb:Below w.heap.size w w'):PtrR w' r q:=⟨h.1,h.2.1,h.2.2.1,(h.2.2.2.below hb).more hb.size⟩
theorem PtrsIn.all {w w':World} (hk:∀r q,PtrR w r q→PtrR w' r q):∀{l:List PRw} {m:List (ByteArray×Pz)},PtrsIn w l m→PtrsIn w' l m
 | [],[],_=>trivial
 |_::_,_::_,h=>⟨hk _ _ h.1,PtrsIn.all hk h.2⟩
theorem PtrsIn.len {w:World}:∀{l:List PRw} {m:List (ByteArray×Pz)},PtrsIn w l m→l.length=m.length
 | [],[],_=>rfl
 |_::_,_::_,h=>by simp only[List.length_cons,PtrsIn.len h.2]
theorem PtrsIn.set {w:World} {r:PRw} {q:ByteArray×Pz} (hr:PtrR w r q):∀{l:List PRw} {m:List (ByteArray×Pz)},PtrsIn w l m→PtrsIn w (setL kP l r) (setL kQ m q)
 | [],[],_=>⟨hr,trivial⟩
 |a::l,b::m,h=>by
  have e1:kP a=kQ b:=congrArg nmB h.1.1;have e2:kP r=kQ q:=congrArg nmB hr.1;unfold setL;rw[e1,e2];split
  ·exact⟨h.1,PtrsIn.set hr h.2⟩
  ·split
   ·exact⟨hr,h.2⟩
   ·exact⟨hr,h⟩
structure ES (W1:World) (B gm:Nat) (qi:List NRw) (qp:List (ByteArray×Pz)) (A1:Option Addr) (c1:Nat) (A2:Option Addr) (c2:Nat) (lp:List PRw) (w:World):Prop where
 box:Holds w gm 56 #[.bool true,.slice A1 qi.length c1,.slice A2 lp.length c2]
 ints:w.ownsRow B 128 4 (.slice A1 qi.length c1) qi.length (qi.flatMap encN)
 ptrs:w.ownsRow B 132 3 (.slice A2 lp.length c2) lp.length (lp.flatMap encP)
 all:PtrsIn w lp qp
 wr:Writes [some gm] W1 w
section
variable {W1 w w':World} {B gm c1 c2:Nat} {qi:List NRw} {qp:List (ByteArray×Pz)} {A1 A2:Option Addr} {lp:List PRw}
theorem ES.up (h:ES W1 B gm qi qp A1 c1 A2 c2 lp w) (hb:Below w.heap.size w w'):ES W1 B gm qi qp A1 c1 A2 c2 lp w':=
 ⟨h.box.below hb h.box.lt,own_below h.ints hb,own_below h.ptrs hb,h.all.all fun _ _ hr=>hr.up hb,h.wr.trans (.of_below hb _)⟩
theorem own_caps {base:Nat} {e:TypeId} {k n m c:Nat} {A:Option Addr} {xs:List Value} (h:w.ownsRow base e k (.slice A m c) n xs):m=n∧n≤c:=by
 rcases h.2 with⟨e1,e2⟩| ⟨g,cap,cur,e1,_,_,hn,_⟩
 ·injection e1 with _ e3 e4;subst e2 e3 e4;exact⟨rfl,Nat.le_refl _⟩
 ·injection e1 with _ e3 e4;subst e4;exact⟨e3,hn⟩
theorem ES.c1le (h:ES W1 B gm qi qp A1 c1 A2 c2 lp w):qi.length≤c1:=(own_caps h.ints).2
theorem ES.c2le (h:ES W1 B gm qi qp A1 c1 A2 c2 lp w):lp.length≤c2:=(own_caps h.ptrs).2
theorem ES.put (hgm:gm<B) (h:ES W1 B gm qi qp A1 c1 A2 c2 lp w) {A1' A2':Option Addr} {c1' c2':Nat} {qi':List NRw} {qp':List (ByteArray×Pz)} {lp':List PRw}
  (ho:w.ownsRow B 128 4 (.slice A1' qi'.length c1') qi'.length (qi'.flatMap encN)) (hp:w.ownsRow B 132 3 (.slice A2' lp'.length c2') lp'.length (lp'.flatMap encP)) (ha:PtrsIn w lp' qp'):
  ES W1 B gm qi' qp' A1' c1' A2' c2' lp' (((w.setCell ⟨gm,0,none⟩ (.bool true)).setCell ⟨gm,1,none⟩ (.slice A1' qi'.length c1')).setCell ⟨gm,2,none⟩ (.slice A2' lp'.length c2')):=by
 have hw:=writes_three w gm (.bool true) (.slice A1' qi'.length c1') (.slice A2' lp'.length c2')
 have hk:∀j,some j∈[some gm]→j<B:=fun j hj=>by simp at hj;omega
 exact⟨holds_three h.box _ _ _,own_kept ho hw hk,own_kept hp hw hk,ha.all fun r q hr=>⟨hr.1,hr.2.1,hr.2.2.1,row_kept hr.2.2.2 h.box (kinds3 (fun s e=>by cases e) fun s e=>by cases e) hw⟩,h.wr.trans hw⟩
theorem ES.setN (hgm:gm<B) (h:ES W1 B gm qi qp A1 c1 A2 c2 lp w) {A:Option Addr} {c:Nat} {x:NRw} (ho:w.ownsRow B 128 4 (.slice A (setL kN qi x).length c) (setL kN qi x).length ((setL kN qi x).flatMap encN)):
  ES W1 B gm (setL kN qi x) qp A c A2 c2 lp (((w.setCell ⟨gm,0,none⟩ (.bool true)).setCell ⟨gm,1,none⟩ (.slice A (setL kN qi x).length c)).setCell ⟨gm,2,none⟩ (.slice A2 lp.length c2)):=h.put hgm ho h.ptrs h.all
theorem ES.setP (hgm:gm<B) (h:ES W1 B gm qi qp A1 c1 A2 c2 lp w) {A:Option Addr} {c:Nat} {r:PRw} {q:ByteArray×Pz} (hr:PtrR w r q) (ho:w.ownsRow B 132 3 (.slice A (setL kP lp r).length c) (setL kP lp r).length ((setL kP lp r).flatMap encP)):
  ES W1 B gm qi (setL kQ qp q) A1 c1 A c (setL kP lp r) (((w.setCell ⟨gm,0,none⟩ (.bool true)).setCell ⟨gm,1,none⟩ (.slice A1 qi.length c1)).setCell ⟨gm,2,none⟩ (.slice A (setL kP lp r).length c)):=h.put hgm h.ints ho (h.all.set hr)
end
def refN (ps ls:List Vr) (cs:List S):List NRw:= [zeroN retB]++celN cs++locN ls++parN ps
def refP (ps ls:List Vr) (cs:List S):List (ByteArray×Pz):=locP ls++parP cs ps
def REntPost (w0:World) (ps ls:List Vr) (cs:List S) (e:Ending) (w':World):Prop:=
 ∃A1 c1 A2 c2 lp,e= .returned (memV A1 (setAll kN (refN ps ls cs)).length c1 A2 lp.length c2)∧Row w' w'.heap.size A1 ((setAll kN (refN ps ls cs)).flatMap encN)∧Row w' w'.heap.size A2 (lp.flatMap encP)∧PtrsIn w' lp (setAll kQ (refP ps ls cs))∧Below w0.heap.size w0 w'
theorem parN_take {ps:List Vr} {k:Nat} (h:k<ps.length):parN (ps.take (k+1))=parN (ps.take k)++(if ps[k].ptr then []else [allN (strV ps[k].nm)]):=by
 unfold parN;rw[List.take_succ_eq_append_getElem h,List.filterMap_append];cases hp:ps[k].ptr<;>simp[hp]
theorem locN_take {ps:List Vr} {k:Nat} (h:k<ps.length):locN (ps.take (k+1))=locN (ps.take k)++(if ps[k].ptr then []else [zeroN (strV ps[k].nm)]):=by
 unfold locN;rw[List.take_succ_eq_append_getElem h,List.filterMap_append];cases hp:ps[k].ptr<;>simp[hp]
theorem parP_take {ps:List Vr} {k:Nat} (cs:List S) (h:k<ps.length):parP cs (ps.take (k+1))=parP cs (ps.take k)++(if ps[k].ptr then [(strV ps[k].nm,⟨true,canon cs⟩)]else []):=by
 unfold parP;rw[List.take_succ_eq_append_getElem h,List.filterMap_append];cases hp:ps[k].ptr<;>simp[hp]
theorem locP_take {ps:List Vr} {k:Nat} (h:k<ps.length):locP (ps.take (k+1))=locP (ps.take k)++(if ps[k].ptr then [(strV ps[k].nm,⟨true,[]⟩)]else []):=by
 unfold locP;rw[List.take_succ_eq_append_getElem h,List.filterMap_append];cases hp:ps[k].ptr<;>simp[hp]
theorem celN_take {cs:List S} {k:Nat} (h:k<cs.length):celN (cs.take (k+1))=celN (cs.take k)++ [allN (atB cs[k])]:=by
 unfold celN;rw[List.take_succ_eq_append_getElem h,List.map_append];rfl
theorem Tryz.szMem:(Tryz.prog.info? 56).map (·.size)=some 3:=by kernel_rfl
theorem grown_of_writes {w w':World} {b:Option Nat} (h:Writes [b] w w'):w.grownBy w' b:=⟨h.os,h.tape,h.output,h.size,fun k hk hn=>h.block k hk (by simpa using hn)⟩
theorem own_differ {w:World} {B B':Nat} {e e':TypeId} {k k':Nat} {v v':Value} {n n':Nat} {xs xs':List Value} (h:w.ownsRow B e k v n xs) (h':w.ownsRow B' e' k' v' n' xs') (hne:e≠e') (g:Nat) (hg:v.ownBlock=some g) (hg':v'.ownBlock=some g):False:=by
 rcases h.2 with⟨rfl,_⟩| ⟨a,cap,cur,rfl,_,hh,_⟩
 ·simp[Value.ownBlock]at hg
 ·rcases h'.2 with⟨rfl,_⟩| ⟨a',cap',cur',rfl,_,hh',_⟩
  ·simp[Value.ownBlock]at hg'
  ·simp[Value.ownBlock]at hg hg';subst hg hg';rw[hh]at hh';injection hh' with h1;injection h1 with _ h2;exact hne h2
theorem filter_le {α β:Type} (f:α→Option β) (l:List α):(l.filterMap f).length≤l.length:=List.length_filterMap_le f l
def EntPost (w0:World) (ps ls:List Vr) (cs:List S) (e:Ending) (w':World):Prop:=
 ∃(A1:Option Addr) (c1:Nat) (li:List NRw) (A2:Option Addr) (c2:Nat) (lp:List PRw) (B:Nat),e= .returned (.agg #[.bool true,.slice A1 li.length c1,.slice A2 lp.length c2])∧
  Row w' w'.heap.size A1 (li.flatMap encN)∧Row w' w'.heap.size A2 (lp.flatMap encP)∧li.Perm (entN ps ls cs)∧(li.map fun x=>nmB x.nm).Pairwise (·<·)∧
  (lp.map fun r=>r.nm).Perm ((entP ps ls cs).map fun q=>q.1)∧(∀r∈lp,∃p,PtrAt w' B r (r.nm,p)∧(r.nm,p)∈entP ps ls cs)∧(lp.map fun x=>nmB x.nm).Pairwise (·<·)∧Below w0.heap.size w0 w'
theorem entry_any (w0:World) (nm:List UInt8) (ps ls:List Vr) (A1 A2 A3:Option Addr) (c1 c2 n3 c3:Nat) (h1:VrAt w0 Evr ps (.slice A1 ps.length c1)) (h2:VrAt w0 Evr ls (.slice A2 ls.length c2)) (cs:List S) (Agc Aa:Option Addr) (cc na ca:Nat)
  (hc:Row w0 w0.heap.size Agc (cs.map encStr)) (hnP:ps.length≤7) (hnL:ls.length≤6) (hnC:cs.length≤3) (hcl:∀c∈cs,c.length≤100) (hN:((entN ps ls cs).map fun x=>nmB x.nm).Nodup) (hP:((entP ps ls cs).map fun q=>nmB q.1).Nodup):
  Calls Tryz.prog 25 #[.agg (fnC nm A1 A2 A3 ps.length c1 ls.length c2 n3 c3),.agg #[.slice Agc cs.length cc,.slice Aa na ca]] w0 (EntPost w0 ps ls cs):=by
 obtain⟨iNm,hiN,hzN0,hzN1,hzN2⟩:=info_parts Tryz.clNamed;obtain⟨iPt,hiP,hzP0,hzP1,hzP2⟩:=info_parts Tryz.clPoint;obtain⟨A1',c1',e1,-,-,hr1,-⟩:=h1;injection e1 with e1 e1' e1'';subst e1 e1'';obtain⟨A2',c2',e2,-,-,hr2,-⟩:=h2;injection e2 with e2 e2' e2'';subst e2 e2'';obtain⟨n1,hn1⟩:∃y,y=ps.length:=⟨_,rfl⟩;obtain⟨n2,hn2⟩:∃y,y=ls.length:=⟨_,rfl⟩;obtain⟨nc,hnc⟩:∃y,y=cs.length:=⟨_,rfl⟩;rw[←hn1]at hnP;rw[←hn2]at hnL;rw[←hnc]at hnC;rw[←hn1,←hn2,←hnc];have hN:=zi hN;have hcl:=zi hcl;have hP:=zi hP;obtain⟨W1,hW1⟩:∃y,y=((w0.alloc (.cells (fnC nm A1 A2 A3 n1 c1 n2 c2 n3 c3) 26)).alloc (.cells #[.slice Agc nc cc,.slice Aa na ca] 48)).alloc (.cells #[.bool false,.slice none 0 0,.slice none 0 0] 56):=⟨_,rfl⟩;have k1:=below_new w0 (.cells (fnC nm A1 A2 A3 n1 c1 n2 c2 n3 c3) 26);have k2:=below_new (w0.alloc (.cells (fnC nm A1 A2 A3 n1 c1 n2 c2 n3 c3) 26)) (.cells #[.slice Agc nc cc,.slice Aa na ca] 48);have k3:=below_new ((w0.alloc (.cells (fnC nm A1 A2 A3 n1 c1 n2 c2 n3 c3) 26)).alloc (.cells #[.slice Agc nc cc,.slice Aa na ca] 48)) (.cells #[.bool false,.slice none 0 0,.slice none 0 0] 56)
 have hb1:=(k1.trans (k2.mono k1.size)).trans (k3.mono (Nat.le_trans k1.size k2.size))
 have s1:(w0.alloc (.cells (fnC nm A1 A2 A3 n1 c1 n2 c2 n3 c3) 26)).heap.size=w0.heap.size+1:=by simp
 have s2:((w0.alloc (.cells (fnC nm A1 A2 A3 n1 c1 n2 c2 n3 c3) 26)).alloc (.cells #[.slice Agc nc cc,.slice Aa na ca] 48)).heap.size=w0.heap.size+2:=by simp
 have hHf:=((Holds.new w0 26 (fnC nm A1 A2 A3 n1 c1 n2 c2 n3 c3)).alloc (.cells #[.slice Agc nc cc,.slice Aa na ca] 48)).alloc (.cells #[.bool false,.slice none 0 0,.slice none 0 0] 56);have hHg:=(Holds.new (w0.alloc (.cells (fnC nm A1 A2 A3 n1 c1 n2 c2 n3 c3) 26)) 48 #[.slice Agc nc cc,.slice Aa na ca]).alloc (.cells #[.bool false,.slice none 0 0,.slice none 0 0] 56);have hHm:=Holds.new ((w0.alloc (.cells (fnC nm A1 A2 A3 n1 c1 n2 c2 n3 c3) 26)).alloc (.cells #[.slice Agc nc cc,.slice Aa na ca] 48)) 56 #[.bool false,.slice none 0 0,.slice none 0 0];rw[s1]at hHg;rw[s2]at hHm;rw[←hW1]at hb1 hHf hHg hHm;clear k1 k2 k3 s1 s2;obtain⟨gf,hgf⟩:∃y,y=w0.heap.size:=⟨_,rfl⟩;obtain⟨gg,hgg⟩:∃y,y=w0.heap.size+1:=⟨_,rfl⟩;obtain⟨gm,hgm⟩:∃y,y=w0.heap.size+2:=⟨_,rfl⟩;rw[←hgf]at hHf;rw[←hgg]at hHg;rw[←hgm]at hHm;obtain⟨B,hB⟩:∃y,y=W1.heap.size:=⟨_,rfl⟩;have hr1:=zi (hr1.up hb1);have hr2:=zi (hr2.up hb1);have hc1:=zi ((hc.below hb1).more hb1.size);have hb1:=zi hb1
 have hgmB:Hid (gm<B∧gg<B∧gf<B∧w0.heap.size≤B∧w0.heap.size≤gm):=zi ⟨by rw[hB];exact hHm.lt,by rw[hB];exact hHg.lt,by rw[hB];exact hHf.lt,by rw[hB];exact hb1.out.size,by omega⟩
 have hFf:Hid (∀w',Below B W1 w'→Holds w' gf 26 (fnC nm A1 A2 A3 n1 c1 n2 c2 n3 c3)∧Holds w' gg 48 #[.slice Agc nc cc,.slice Aa na ca]∧Holds w' gm 56 #[.bool false,.slice none 0 0,.slice none 0 0]∧B≤w'.heap.size):=zi fun w' hb=>by rw[hB]at hb;exact⟨hHf.below hb hHf.lt,hHg.below hb hHg.lt,hHm.below hb hHm.lt,by rw[hB];exact hb.size⟩
 have hB':=zi hB;have hn1':=zi hn1;have hn2':=zi hn2;have hcn:Hid (cs.length=nc):=zi hnc.symm;have hgf':=zi hgf.symm;have hgg':Hid (gf+1=gg):=zi (by omega);have hgm':Hid (gg+1=gm):=zi (by omega);have hfo:=zi hW1.symm;clear hc hHf hHg hHm hB hn1 hn2 hnc hgf hgg hgm hW1;unfold fnC at hFf hfo⊢;go_enter Tryz.func25,Tryz.ntmps25;go_upto_region 3 with(fail);rw[hfo.out,hgf'.out,hgg'.out,hgm'.out];clear hfo hgf' hgg' hgm';have z0:=(fact_of (hFf.out W1 (Below.refl _ _)).1 1 rfl).2;go_wp2_with fail;go_loopw [5,6,16] (fun iv pv i wr=>∃(k:Nat) (lp:List PRw),k≤n1∧i= .int .i64 k∧Hid (wr.ownsRow B 128 4 iv (parN (ps.take k)).length ((parN (ps.take k)).flatMap encN))∧Hid (wr.ownsRow B 132 3 pv lp.length (lp.flatMap encP))∧Hid (PtrsAt wr B lp (parP cs (ps.take k)))∧Hid (Below B W1 wr)) (fun _ _ i _=>n1-(intOf i).toNat)
 case atStart=>exact⟨0,[],by omega,rfl,zi (World.ownsRow_nil _ _ _ _),zi (World.ownsRow_nil _ _ _ _),zi ⟨rfl,fun r hr=>nomatch hr⟩,zi (Below.refl _ _)⟩
 obtain⟨k,lp,hk,rfl,hoi,hop,hpt,hbl⟩:=hrel;by_cases hlt:k<n1
 ·have hkl:k<ps.length:=by rw[←hn1'.out];exact hlt
  obtain⟨b,off,rfl,q0,q1⟩:=vrow_at (hr1.out.up (by rw[←hB'.out];exact hbl.out)) hkl;have htN0:=parN_take hkl;have htP0:=parP_take cs hkl;generalize ps[k]=u at q0 q1 htN0 htP0;obtain⟨nx,px⟩:=u;simp only at q0 q1 htN0 htP0;obtain⟨sx,hsx⟩:∃y,y=strV nx:=⟨_,rfl⟩;rw[←hsx]at q0 htN0 htP0;clear hsx;have hBr:Hid (B≤wr.heap.size):=zi (hFf.out wr hbl.out).2.2.2
  have hlenP:Hid (lp.length≤100):=zi (by
   have e1:=hpt.out.len;have e2:=filter_le (fun v:Vr=>if v.ptr then some (strV v.nm,(⟨true,canon cs⟩:Pz))else none) (ps.take k);have e3:=filter_le (fun v:Vr=>if v.ptr then some (strV v.nm,(⟨true,[]⟩:Pz))else none) (ls.take k);have e4:=List.length_take_le k ps;have e5:=List.length_take_le k ls;have e6:=hn1'.out;have e7:=hn2'.out;simp only[parP]at e1
   omega)
  have hlenN:Hid ((parN (ps.take k)).length≤100):=zi (by
   have e2:=filter_le (fun v:Vr=>if v.ptr then none else some (allN (strV v.nm))) (ps.take k);have e3:=filter_le (fun v:Vr=>if v.ptr then none else some (zeroN (strV v.nm))) (ls.take k);have e4:=List.length_take_le k ps;have e5:=List.length_take_le k ls;have e6:=hn1'.out;have e7:=hn2'.out;simp only[parN]
   omega)
  cases px with
  |true=>
   have htN:Hid (parN (ps.take (k+1))=parN (ps.take k)):=zi (by rw[htN0];simp);have htP:Hid (parP cs (ps.take (k+1))=parP cs (ps.take k)++ [(sx,⟨true,canon cs⟩)]):=zi (by rw[htP0];simp);clear htN0 htP0;obtain⟨wq,hwq⟩:∃y,y=wr.alloc (.cells #[.string sx,.bool true] 79):=⟨_,rfl⟩;obtain⟨gv,hgv⟩:∃y,y=wr.heap.size:=⟨_,rfl⟩
   have hb0:Below wr.heap.size wr wq:=by rw[hwq];exact below_new wr _
   have hqv:Hid (Holds wq gv 79 #[.string sx,.bool true]):=zi (by rw[hwq,hgv];exact Holds.new wr _ _);have hqg:Hid (Holds wq gg 48 #[.slice Agc nc cc,.slice Aa na ca]):=zi ((hFf.out wr hbl.out).2.1.below hb0 (hFf.out wr hbl.out).2.1.lt);have hxv:Hid (wq.ownsRow B 132 3 u6 lp.length (lp.flatMap encP)):=zi (own_below hop.out hb0);have hBw:Hid (B≤wq.heap.size):=zi (Nat.le_trans hBr.out hb0.size);have hcr:Hid (Row wq wq.heap.size Agc (cs.map encStr)):=zi ((hc1.out.below ((by rw[←hB'.out];exact hbl.out:Below W1.heap.size W1 wr).trans (hb0.mono (by rw[←hB'.out];exact hBr.out)))).more (by rw[←hB'.out];exact hBw.out));have hlen:=hlenP;have hkq:=zi (KeptO.below (e0:=132) hb0 hBr.out);have hwq':=zi hwq.symm;have hgv':=zi hgv.symm;clear hwq hgv hb0;go_wp2_with fail;rw[hwq'.out,hgv'.out];clear hwq' hgv' q0 q1
   refine wp_region_tabL ((eqv u6)::(eqv (.pointer (some ⟨gv,0,none⟩)))::(eqv (.string sx))::(eqv (.pointer (some ⟨gg,0,none⟩)))::(eqv (.slice Agc nc cc))::(fun L w v=>L 8=false→PzO w B ⟨true,canon cs⟩ v)::(fun L w v=>∃A c,v= .agg #[.string sx,.bool true,.slice A (canon cs).length c]∧(L 8=false→w.ownsRow B 9 1 (.slice A (canon cs).length c) (canon cs).length ((canon cs).map encStr)))::(fun L w v=>∃A c g,v= .slice (some ⟨g,0,none⟩) 1 1∧(L 8=false→Holds w g 132 #[.string sx,.bool true,.slice A (canon cs).length c]∧w.ownsRow B 9 1 (.slice A (canon cs).length c) (canon cs).length ((canon cs).map encStr)))::(fun L w v=>L 5=true∧L 7=true∧L 8=true∧AppP wq B u6 lp sx true (canon cs) w v)::(fun L w v=>L 5=true∧L 7=true∧L 8=true∧AppP wq B u6 lp sx true (canon cs) w v)::[])
    (⟨[(6,none)],0,[8]⟩::⟨[(8,none)],0,[8]⟩::⟨[(23,some 1)],0,[8]⟩::⟨[(3,none)],0,[8]⟩::⟨[(25,some 3)],0,[8]⟩::⟨[(26,some 4)],0,[8]⟩::⟨[(24,some 2),(27,some 5)],0,[8]⟩::⟨[(28,some 6)],0,[8]⟩::⟨[(22,some 0),(29,some 7)],0,[]⟩::(rd1 30 8)::[])
    (no::no::no::no::no::no::so 9::no::no::no::no::no::no::no::no::no::no::no::no::no::no::no::so 0::so 1::so 2::so 3::so 4::so 5::so 6::so 7::so 8::[])
    (fun L w'=>L 8=false→Below wq.heap.size wq w') (fun i w w'=>(i≠8→Below w.heap.size w w')∧(i≠5→i≠7→i≠8→w'=w)) ?mixK7pp ?okK7pp ?tabK7pp ?frK7pp ?inK7pp ?keptK7pp ?startK7pp ?eachK7pp ?finK7pp
   case mixK7pp|okK7pp|tabK7pp|frK7pp=>kernel_rfl
   case inK7pp=>rfl
   case keptK7pp=>exact⟨fun _ _ _ _ _ _ _ _ _ _ _ h=>h,fun _ _ _ _ _ _ _ _ _ _ _ h=>h,fun _ _ _ _ _ _ _ _ _ _ _ h=>h,fun _ _ _ _ _ _ _ _ _ _ _ h=>h,fun _ _ _ _ _ _ _ _ _ _ _ h=>h,fun i hne hr L w w' v hLi hC hC' hG h h1=>by
      have h8:i≠8:=fun e=>by subst e;simp at h1
      have n8:(8==i)=false:=by simpa using fun e=>h8 e.symm
      have a1:L 8=false:=by simpa[n8]using h1
      exact(h a1).up (hG.1 h8),fun i hne hr L w w' v hLi hC hC' hG ⟨A,c,e,h⟩=>⟨A,c,e,fun h1=>by
      have h8:i≠8:=fun e=>by subst e;simp at h1
      have n8:(8==i)=false:=by simpa using fun e=>h8 e.symm
      have a1:L 8=false:=by simpa[n8]using h1
      exact own_below (h a1) (hG.1 h8)⟩,fun i hne hr L w w' v hLi hC hC' hG ⟨A,c,g,e,h⟩=>⟨A,c,g,e,fun h1=>by
      have h8:i≠8:=fun e=>by subst e;simp at h1
      have n8:(8==i)=false:=by simpa using fun e=>h8 e.symm
      have a1:L 8=false:=by simpa[n8]using h1
      exact⟨(h a1).1.below (hG.1 h8) (h a1).1.lt,own_below (h a1).2 (hG.1 h8)⟩⟩,fun i hne hr L w w' v hLi hC hC' hG h=>by
      have n5:i≠5:=fun e=>by subst e;rw[h.1]at hLi;cases hLi
      have n7:i≠7:=fun e=>by subst e;rw[h.2.1]at hLi;cases hLi
      have n8:i≠8:=fun e=>by subst e;rw[h.2.2.1]at hLi;cases hLi
      rw[hG.2 n5 n7 n8]
      exact⟨by simp[h.1],by simp[h.2.1],by simp[h.2.2.1],h.2.2.2⟩,fun i hne hr L w w' v hLi hC hC' hG h=>by
      have n5:i≠5:=fun e=>by subst e;rw[h.1]at hLi;cases hLi
      have n7:i≠7:=fun e=>by subst e;rw[h.2.1]at hLi;cases hLi
      have n8:i≠8:=fun e=>by subst e;rw[h.2.2.1]at hLi;cases hLi
      rw[hG.2 n5 n7 n8]
      exact⟨by simp[h.1],by simp[h.2.1],by simp[h.2.2.1],h.2.2.2⟩,trivial⟩
   case startK7pp=>exact fun _=>(Below.refl _ _).drew
   case eachK7pp=>
    repeat' first|exact trivial|refine And.intro ?_ ?_
    ·intro w L f hC hLi hLd hLn ⟨d,_⟩;refine Step2.live rfl ?_;exact relUpon_value (v:=f 6) rfl (hC) (⟨fun _=>Below.refl _ _,fun _ _ _=>rfl⟩) d
    iterate 2 (intro w L f hC hLi hLd hLn ⟨a,_⟩;change _=_ at a;refine Step2.live rfl ?_;have h8:L 8=false:=hLn 8 (by simp);have hb0:Below wq.heap.size wq w:=hC h8;have hh:=hqv.out.below hb0 hqv.out.lt;have hlt:=hh.lt;have f0:=(fact_of hh 0 rfl).2;have f1:=(fact_of hh 1 rfl).2;obtain⟨ev,ec,ef⟩:=evs f;refine relUpon_value ?_ (fun _=>hb0) (⟨fun _=>Below.refl _ _,fun _ _ _=>rfl⟩) rfl;go_simp)
    iterate 2 (intro w L f hC hLi hLd hLn ⟨a,_⟩;change _=_ at a;refine Step2.live rfl ?_;have h8:L 8=false:=hLn 8 (by simp);have hb0:Below wq.heap.size wq w:=hC h8;have hh:=hqg.out.below hb0 hqg.out.lt;have hlt:=hh.lt;have f0:=(fact_of hh 0 rfl).2;have f1:=(fact_of hh 1 rfl).2;obtain⟨ev,ec,ef⟩:=evs f;refine relUpon_value ?_ (fun _=>hb0) (⟨fun _=>Below.refl _ _,fun _ _ _=>rfl⟩) rfl;go_simp)
    ·intro w L f hC hLi hLd hLn ⟨a,_⟩;change _=_ at a;refine Step2.live rfl ?_;have h8:L 8=false:=hLn 8 (by simp);have hb0:Below wq.heap.size wq w:=hC h8;have hsz:=hb0.size;have hBq:=hBw.out;obtain⟨ev,ec,ef⟩:=evs f;refine relUpon_call (f:=67) (args:= #[.slice Agc nc cc]) (w:=w) (by go_simp) (anyO_any w Agc nc cc cs hcn.out ((hcr.out.below hb0).more hb0.size) (by omega)) ?_;rintro e w1 ⟨⟨v,he,hv⟩,hB⟩;exact⟨_,he,fun _=>hb0.trans (hB.mono hb0.size),⟨fun _=>hB,fun h=>absurd rfl h⟩,fun _=>hv.base (Nat.le_trans hBq hsz)⟩
    ·intro w L f hC hLi hLd hLn ⟨a,d27,_⟩;change _=_ at a;refine Step2.live rfl ?_;have h8:L 8=false:=hLn 8 (by simp);have hb0:Below wq.heap.size wq w:=hC h8;obtain⟨A,c,e0,ho⟩:=d27 h8;obtain⟨ev,ec,ef⟩:=evs f;refine relUpon_value (v:= .agg #[.string sx,.bool true,.slice A (canon cs).length c]) ?_ (fun _=>hb0) (⟨fun _=>Below.refl _ _,fun _ _ _=>rfl⟩) ⟨A,c,rfl,fun _=>ho⟩;go_simp
    ·intro w L f hC hLi hLd hLn ⟨d28,_⟩;refine Step2.live rfl ?_;have h8:L 8=false:=hLn 8 (by simp);have hb0:Below wq.heap.size wq w:=hC h8;obtain⟨A,c,e0,ho⟩:=d28;have hbn:=below_new w (.cells #[.string sx,.bool true,.slice A (canon cs).length c] 132);obtain⟨ev,ec,ef⟩:=evs f;refine relUpon_value (w':=w.alloc (.cells #[.string sx,.bool true,.slice A (canon cs).length c] 132)) (v:= .slice (some ⟨w.heap.size,0,none⟩) 1 1) (by go_simp) (fun _=>hb0.trans (hbn.mono hb0.size)) ⟨fun _=>hbn,fun _ h=>absurd rfl h⟩ ⟨A,c,w.heap.size,rfl,fun _=>⟨Holds.new w _ _,own_below (ho h8) hbn⟩⟩
    ·intro w L f hC hLi hLd hLn ⟨d22,d29,_⟩;change _=_ at d22;refine Step2.live rfl ?_;have hb0:Below wq.heap.size wq w:=hC hLi;obtain⟨A,c,g,e0,hr⟩:=d29;obtain⟨hg,hcs⟩:=hr hLi;have hBq:=hBw.out;have hsz:=hb0.size;have hln:=hlen.out;obtain⟨ev,ec,ef⟩:=evs f;refine relUpon_append_rowS w (.tmp 22) (.tmp 29) 54 rfl B 132 iPt _ 3 48 Tryz.underlying54 hiP hzP0 hzP1 hzP2 rfl (by omega) u6 lp.length (lp.flatMap encP) (by rw[ev,d22]) (own_below hxv.out hb0) (some ⟨g,0,none⟩) 1 1 [.string sx,.bool true,.slice A (canon cs).length c] (by rw[ev,e0]) rfl (rowS_holds hg) (by intro u hu;simp at hu;rcases hu with rfl|rfl|rfl<;>rfl) (by unfold maxLen;omega) (by omega) (Nat.le_trans hBq hsz) ?_;intro v' w' ho hgr;exact⟨fun h=>by simp at h,⟨fun h=>absurd rfl h,fun _ _ h=>absurd rfl h⟩,by simp[hLd 5 (by decide)],by simp[hLd 7 (by decide)],by simp,A,c,w,hb0,hcs,hgr,by rw[List.flatMap_append];exact ho⟩
    ·intro w L f hC hLi hLd hLn ⟨d,_⟩;refine Step2.live rfl ?_;exact relUpon_value (v:=f 30) rfl (hC) (⟨fun _=>Below.refl _ _,fun _ _ _=>rfl⟩) d
   intro x w' hC hV
   obtain⟨-,-,-,hA⟩:=hV 9 _ rfl rfl;clear hV hC;obtain⟨vv,hvv⟩:∃v,v=x 9:=⟨_,rfl⟩;rw[←hvv]at hA;simp only[framed];rw[←hvv];clear hvv;obtain⟨r,ho2,hk2,hr3⟩:=hA.step hxv.out hBw.out;have hkk:=hkq.out.trans hk2;have f1:=zi (hkk.2 _ _ _ _ _ _ (by decide) hoi.out);have f2:=zi ho2;have f3:=zi ((hpt.out.kept hkk (by decide)).snoc hr3);have f4:=zi (hbl.out.trans hkk.1);clear hA ho2 hk2 hr3 hkk hoi hop hpt hbl hxv hqv hqg hcr hkq;go_wp2_with fail;refine⟨⟨k+1,lp++ [r],by omega,by go_num,zi (by rw[htN.out];exact f1.out),f2,zi (by rw[htP.out];exact f3.out),f4⟩,?_⟩;simp[intOf];omega
  |false=>
   have htN:Hid (parN (ps.take (k+1))=parN (ps.take k)++ [allN sx]):=zi (by rw[htN0];simp);have htP:Hid (parP cs (ps.take (k+1))=parP cs (ps.take k)):=zi (by rw[htP0];simp);clear htN0 htP0;obtain⟨li,hli⟩:∃y,y=parN (ps.take k):=⟨_,rfl⟩;rw[←hli]at hoi htN hlenN;clear hli;obtain⟨wq,hwq⟩:∃y,y=wr.alloc (.cells #[.string sx,.bool false] 79):=⟨_,rfl⟩;obtain⟨gv,hgv⟩:∃y,y=wr.heap.size:=⟨_,rfl⟩
   have hb0:Below wr.heap.size wr wq:=by rw[hwq];exact below_new wr _
   have hqv:Hid (Holds wq gv 79 #[.string sx,.bool false]):=zi (by rw[hwq,hgv];exact Holds.new wr _ _);have hxv:Hid (wq.ownsRow B 128 4 u5 li.length (li.flatMap encN)):=zi (own_below hoi.out hb0);have hBw:Hid (B≤wq.heap.size):=zi (Nat.le_trans hBr.out hb0.size);have hlen:=hlenN;have hkq:=zi (KeptO.below (e0:=128) hb0 hBr.out);have hwq':=zi hwq.symm;have hgv':=zi hgv.symm;clear hwq hgv hb0;go_wp2_with fail;rw[hwq'.out,hgv'.out];clear hwq' hgv' q0 q1
   refine wp_region_tabL ((eqv u5)::(eqv (.pointer (some ⟨gv,0,none⟩)))::(eqv (.string sx))::(eqv (.agg #[.bool true,.int .i64 (-9223372036854775808),.int .i64 9223372036854775807]))::(eqv (.agg #[.string sx,.bool true,.int .i64 (-9223372036854775808),.int .i64 9223372036854775807]))::(fun L w v=>∃g,v= .slice (some ⟨g,0,none⟩) 1 1∧(L 6=false→Holds w g 128 #[.string sx,.bool true,.int .i64 (-9223372036854775808),.int .i64 9223372036854775807]))::(fun L w v=>L 3=true∧L 5=true∧L 6=true∧AppN wq B u5 li ⟨sx,true,(-9223372036854775808),9223372036854775807⟩ w v)::(fun L w v=>L 3=true∧L 5=true∧L 6=true∧AppN wq B u5 li ⟨sx,true,(-9223372036854775808),9223372036854775807⟩ w v)::[])
    (⟨[(5,none)],0,[6]⟩::⟨[(8,none)],0,[6]⟩::⟨[(32,some 1)],0,[6]⟩::⟨[],0,[6]⟩::⟨[(33,some 2),(34,some 3)],0,[6]⟩::⟨[(35,some 4)],0,[6]⟩::⟨[(31,some 0),(36,some 5)],0,[]⟩::(rd1 37 6)::[])
    (no::no::no::no::no::so 7::no::no::no::no::no::no::no::no::no::no::no::no::no::no::no::no::no::no::no::no::no::no::no::no::no::so 0::so 1::so 2::so 3::so 4::so 5::so 6::[])
    (fun L w'=>L 6=false→Below wq.heap.size wq w') (fun i w w'=>(i≠6→Below w.heap.size w w')∧(i≠3→i≠5→i≠6→w'=w)) ?mixK8ip ?okK8ip ?tabK8ip ?frK8ip ?inK8ip ?keptK8ip ?startK8ip ?eachK8ip ?finK8ip
   case mixK8ip|okK8ip|tabK8ip|frK8ip=>kernel_rfl
   case inK8ip=>rfl
   case keptK8ip=>exact⟨fun _ _ _ _ _ _ _ _ _ _ _ h=>h,fun _ _ _ _ _ _ _ _ _ _ _ h=>h,fun _ _ _ _ _ _ _ _ _ _ _ h=>h,fun _ _ _ _ _ _ _ _ _ _ _ h=>h,fun _ _ _ _ _ _ _ _ _ _ _ h=>h,fun i hne hr L w w' v hLi hC hC' hG ⟨g,e,h⟩=>⟨g,e,fun h1=>by
      have h8:i≠6:=fun e=>by subst e;simp at h1
      have n8:(6==i)=false:=by simpa using fun e=>h8 e.symm
      have a1:L 6=false:=by simpa[n8]using h1
      exact(h a1).below (hG.1 h8) (h a1).lt⟩,fun i hne hr L w w' v hLi hC hC' hG h=>by
      have n5:i≠3:=fun e=>by subst e;rw[h.1]at hLi;cases hLi
      have n7:i≠5:=fun e=>by subst e;rw[h.2.1]at hLi;cases hLi
      have n8:i≠6:=fun e=>by subst e;rw[h.2.2.1]at hLi;cases hLi
      rw[hG.2 n5 n7 n8]
      exact⟨by simp[h.1],by simp[h.2.1],by simp[h.2.2.1],h.2.2.2⟩,fun i hne hr L w w' v hLi hC hC' hG h=>by
      have n5:i≠3:=fun e=>by subst e;rw[h.1]at hLi;cases hLi
      have n7:i≠5:=fun e=>by subst e;rw[h.2.1]at hLi;cases hLi
      have n8:i≠6:=fun e=>by subst e;rw[h.2.2.1]at hLi;cases hLi
      rw[hG.2 n5 n7 n8]
      exact⟨by simp[h.1],by simp[h.2.1],by simp[h.2.2.1],h.2.2.2⟩,trivial⟩
   case startK8ip=>exact fun _=>(Below.refl _ _).drew
   case eachK8ip=>
    repeat' first|exact trivial|refine And.intro ?_ ?_
    ·intro w L f hC hLi hLd hLn ⟨d,_⟩;refine Step2.live rfl ?_;exact relUpon_value (v:=f 5) rfl (hC) (⟨fun _=>Below.refl _ _,fun _ _ _=>rfl⟩) d
    iterate 2 (intro w L f hC hLi hLd hLn ⟨a,_⟩;change _=_ at a;refine Step2.live rfl ?_;have h8:L 6=false:=hLn 6 (by simp);have hb0:Below wq.heap.size wq w:=hC h8;have hh:=hqv.out.below hb0 hqv.out.lt;have hlt:=hh.lt;have f0:=(fact_of hh 0 rfl).2;have f1:=(fact_of hh 1 rfl).2;obtain⟨ev,ec,ef⟩:=evs f;refine relUpon_value ?_ (fun _=>hb0) (⟨fun _=>Below.refl _ _,fun _ _ _=>rfl⟩) rfl;go_simp)
    ·intro w L f hC hLi hLd hLn hF;refine Step2.live rfl ?_;have h8:L 6=false:=hLn 6 (by simp);have hb0:Below wq.heap.size wq w:=hC h8;obtain⟨ev,ec,ef⟩:=evs f;refine relUpon_call (f:=68) (args:= #[]) (w:=w) (by go_simp) (ivalTop_any w) ?_;rintro e w1 ⟨he,hB⟩;exact⟨_,he,fun _=>hb0.trans (hB.mono hb0.size),⟨fun _=>hB,fun h=>absurd rfl h⟩,rfl⟩
    ·intro w L f hC hLi hLd hLn ⟨a,b,_⟩;change _=_ at a b;refine Step2.live rfl ?_;have h8:L 6=false:=hLn 6 (by simp);have hb0:Below wq.heap.size wq w:=hC h8;obtain⟨ev,ec,ef⟩:=evs f;refine relUpon_value ?_ (fun _=>hb0) (⟨fun _=>Below.refl _ _,fun _ _ _=>rfl⟩) rfl;go_simp
    ·intro w L f hC hLi hLd hLn ⟨a,_⟩;change _=_ at a;refine Step2.live rfl ?_;have h8:L 6=false:=hLn 6 (by simp);have hb0:Below wq.heap.size wq w:=hC h8;have hbn:=below_new w (.cells #[.string sx,.bool true,.int .i64 (-9223372036854775808),.int .i64 9223372036854775807] 128);obtain⟨ev,ec,ef⟩:=evs f;refine relUpon_value (w':=w.alloc (.cells #[.string sx,.bool true,.int .i64 (-9223372036854775808),.int .i64 9223372036854775807] 128)) (v:= .slice (some ⟨w.heap.size,0,none⟩) 1 1) (by go_simp) (fun _=>hb0.trans (hbn.mono hb0.size)) ⟨fun _=>hbn,fun _ h=>absurd rfl h⟩ ⟨w.heap.size,rfl,fun _=>Holds.new w _ _⟩
    ·intro w L f hC hLi hLd hLn ⟨d31,d36,_⟩;change _=_ at d31;refine Step2.live rfl ?_;have hb0:Below wq.heap.size wq w:=hC hLi;obtain⟨g,e0,hr⟩:=d36;have hg:=hr hLi;have hBq:=hBw.out;have hsz:=hb0.size;have hln:=hlen.out;obtain⟨ev,ec,ef⟩:=evs f;refine relUpon_append_rowS w (.tmp 31) (.tmp 36) 53 rfl B 128 iNm _ 4 40 Tryz.underlying53 hiN hzN0 hzN1 hzN2 rfl (by omega) u5 li.length (li.flatMap encN) (by rw[ev,d31]) (own_below hxv.out hb0) (some ⟨g,0,none⟩) 1 1 [.string sx,.bool true,.int .i64 (-9223372036854775808),.int .i64 9223372036854775807] (by rw[ev,e0]) rfl (rowS_holds hg) (by intro u hu;simp at hu;rcases hu with rfl|rfl|rfl|rfl<;>rfl) (by unfold maxLen;omega) (by omega) (Nat.le_trans hBq hsz) ?_;intro v' w' ho hgr;exact⟨fun h=>by simp at h,⟨fun h=>absurd rfl h,fun _ _ h=>absurd rfl h⟩,by simp[hLd 3 (by decide)],by simp[hLd 5 (by decide)],by simp,w,hb0,hgr,by rw[List.flatMap_append];exact ho⟩
    ·intro w L f hC hLi hLd hLn ⟨d,_⟩;refine Step2.live rfl ?_;exact relUpon_value (v:=f 37) rfl (hC) (⟨fun _=>Below.refl _ _,fun _ _ _=>rfl⟩) d
   intro x w' hC hV
   obtain⟨-,-,-,hA⟩:=hV 7 _ rfl rfl;clear hV hC;obtain⟨vv,hvv⟩:∃v,v=x 7:=⟨_,rfl⟩;rw[←hvv]at hA;simp only[framed];rw[←hvv];clear hvv;obtain⟨ho2,hk2⟩:=hA.step hxv.out hBw.out;have hkk:=hkq.out.trans hk2;have f1:=zi ho2;have f2:=zi (hkk.2 _ _ _ _ _ _ (by decide) hop.out);have f3:=zi (hpt.out.kept hkk (by decide));have f4:=zi (hbl.out.trans hkk.1);clear hA ho2 hk2 hkk hoi hop hpt hbl hxv hqv hkq;go_wp2_with fail;refine⟨⟨k+1,lp,by omega,by go_num,zi (by rw[htN.out];exact f1.out),f2,zi (by rw[htP.out];exact f3.out),f4⟩,?_⟩;simp[intOf];omega
 have hkn:k=n1:=by omega
 have g1:Hid (wr.ownsRow B 128 4 u5 (parN ps).length ((parN ps).flatMap encN)):=zi (by have h:=hoi.out;rw[hkn,hn1'.out,List.take_length]at h;exact h);have g2:=hop;have g3:Hid (PtrsAt wr B lp (parP cs ps)):=zi (by have h:=hpt.out;rw[hkn,hn1'.out,List.take_length]at h;exact h);have g4:=hbl
 have hltz:¬(k:Int)<(n1:Int):=by omega
 clear hoi hop hpt hbl hlt hkn;go_upto_region 10 with(fail);rename World=>wa;have z0:=(fact_of (hFf.out wa g4.out).1 2 rfl).2;go_wp2_with fail;go_loopw [5,6,42] (fun iv pv i wr=>∃(k:Nat) (lp:List PRw),k≤n2∧i= .int .i64 k∧Hid (wr.ownsRow B 128 4 iv (parN ps++locN (ls.take k)).length ((parN ps++locN (ls.take k)).flatMap encN))∧Hid (wr.ownsRow B 132 3 pv lp.length (lp.flatMap encP))∧Hid (PtrsAt wr B lp (parP cs ps++locP (ls.take k)))∧Hid (Below B W1 wr)) (fun _ _ i _=>n2-(intOf i).toNat)
 case atStart=>exact⟨0,lp,by omega,rfl,zi (by simpa[locN]using g1.out),g2,zi (by simpa[locP]using g3.out),g4⟩
 obtain⟨k,lp,hk,rfl,hoi,hop,hpt,hbl⟩:=hrel;by_cases hlt:k<n2
 ·have hkl:k<ls.length:=by rw[←hn2'.out];exact hlt
  obtain⟨b,off,rfl,q0,q1⟩:=vrow_at (hr2.out.up (by rw[←hB'.out];exact hbl.out)) hkl;have htN0:=locN_take hkl;have htP0:=locP_take hkl;generalize ls[k]=u at q0 q1 htN0 htP0;obtain⟨nx,px⟩:=u;simp only at q0 q1 htN0 htP0;obtain⟨sx,hsx⟩:∃y,y=strV nx:=⟨_,rfl⟩;rw[←hsx]at q0 htN0 htP0;clear hsx;have hBr:Hid (B≤wr.heap.size):=zi (hFf.out wr hbl.out).2.2.2
  have hlenP:Hid (lp.length≤100):=zi (by
   have e1:=hpt.out.len;have e2:=filter_le (fun v:Vr=>if v.ptr then some (strV v.nm,(⟨true,canon cs⟩:Pz))else none) ps;have e3:=filter_le (fun v:Vr=>if v.ptr then some (strV v.nm,(⟨true,[]⟩:Pz))else none) (ls.take k);have e4:=List.length_take_le k ps;have e5:=List.length_take_le k ls;have e6:=hn1'.out;have e7:=hn2'.out;simp only[parP,locP,List.length_append]at e1
   omega)
  have hlenN:Hid ((parN ps++locN (ls.take k)).length≤100):=zi (by
   have e2:=filter_le (fun v:Vr=>if v.ptr then none else some (allN (strV v.nm))) ps;have e3:=filter_le (fun v:Vr=>if v.ptr then none else some (zeroN (strV v.nm))) (ls.take k);have e4:=List.length_take_le k ps;have e5:=List.length_take_le k ls;have e6:=hn1'.out;have e7:=hn2'.out;simp only[parN,locN,List.length_append]
   omega)
  cases px with
  |true=>
   have htN:Hid (parN ps++locN (ls.take (k+1))=parN ps++locN (ls.take k)):=zi (by rw[htN0];simp);have htP:Hid (parP cs ps++locP (ls.take (k+1))=parP cs ps++locP (ls.take k)++ [(sx,⟨true,[]⟩)]):=zi (by rw[htP0];simp);clear htN0 htP0;obtain⟨wq,hwq⟩:∃y,y=wr.alloc (.cells #[.string sx,.bool true] 79):=⟨_,rfl⟩;obtain⟨gv,hgv⟩:∃y,y=wr.heap.size:=⟨_,rfl⟩
   have hb0:Below wr.heap.size wr wq:=by rw[hwq];exact below_new wr _
   have hqv:Hid (Holds wq gv 79 #[.string sx,.bool true]):=zi (by rw[hwq,hgv];exact Holds.new wr _ _);have hqg:Hid (Holds wq gg 48 #[.slice Agc nc cc,.slice Aa na ca]):=zi ((hFf.out wr hbl.out).2.1.below hb0 (hFf.out wr hbl.out).2.1.lt);have hxv:Hid (wq.ownsRow B 132 3 u6 lp.length (lp.flatMap encP)):=zi (own_below hop.out hb0);have hBw:Hid (B≤wq.heap.size):=zi (Nat.le_trans hBr.out hb0.size);have hcr:Hid (Row wq wq.heap.size Agc (cs.map encStr)):=zi ((hc1.out.below ((by rw[←hB'.out];exact hbl.out:Below W1.heap.size W1 wr).trans (hb0.mono (by rw[←hB'.out];exact hBr.out)))).more (by rw[←hB'.out];exact hBw.out));have hlen:=hlenP;have hkq:=zi (KeptO.below (e0:=132) hb0 hBr.out);have hwq':=zi hwq.symm;have hgv':=zi hgv.symm;clear hwq hgv hb0;go_wp2_with fail;rw[hwq'.out,hgv'.out];clear hwq' hgv' q0 q1
   refine wp_region_tabL ((eqv u6)::(eqv (.pointer (some ⟨gv,0,none⟩)))::(eqv (.string sx))::(fun L w v=>L 6=false→PzO w B ⟨true,[]⟩ v)::(fun L w v=>∃A c,v= .agg #[.string sx,.bool true,.slice A ([]:List S).length c]∧(L 6=false→w.ownsRow B 9 1 (.slice A ([]:List S).length c) ([]:List S).length (([]:List S).map encStr)))::(fun L w v=>∃A c g,v= .slice (some ⟨g,0,none⟩) 1 1∧(L 6=false→Holds w g 132 #[.string sx,.bool true,.slice A ([]:List S).length c]∧w.ownsRow B 9 1 (.slice A ([]:List S).length c) ([]:List S).length (([]:List S).map encStr)))::(fun L w v=>L 3=true∧L 5=true∧L 6=true∧AppP wq B u6 lp sx true ([]:List S) w v)::(fun L w v=>L 3=true∧L 5=true∧L 6=true∧AppP wq B u6 lp sx true ([]:List S) w v)::[])
    (⟨[(6,none)],0,[6]⟩::⟨[(10,none)],0,[6]⟩::⟨[(49,some 1)],0,[6]⟩::⟨[],0,[6]⟩::⟨[(50,some 2),(51,some 3)],0,[6]⟩::⟨[(52,some 4)],0,[6]⟩::⟨[(48,some 0),(53,some 5)],0,[]⟩::(rd1 54 6)::[])
    (no::no::no::no::no::no::so 7::no::no::no::no::no::no::no::no::no::no::no::no::no::no::no::no::no::no::no::no::no::no::no::no::no::no::no::no::no::no::no::no::no::no::no::no::no::no::no::no::no::so 0::so 1::so 2::so 3::so 4::so 5::so 6::[])
    (fun L w'=>L 6=false→Below wq.heap.size wq w') (fun i w w'=>(i≠6→Below w.heap.size w w')∧(i≠3→i≠5→i≠6→w'=w)) ?mixK14pl ?okK14pl ?tabK14pl ?frK14pl ?inK14pl ?keptK14pl ?startK14pl ?eachK14pl ?finK14pl
   case mixK14pl|okK14pl|tabK14pl|frK14pl=>kernel_rfl
   case inK14pl=>rfl
   case keptK14pl=>exact⟨fun _ _ _ _ _ _ _ _ _ _ _ h=>h,fun _ _ _ _ _ _ _ _ _ _ _ h=>h,fun _ _ _ _ _ _ _ _ _ _ _ h=>h,fun i hne hr L w w' v hLi hC hC' hG h h1=>by
      have h8:i≠6:=fun e=>by subst e;simp at h1
      have n8:(6==i)=false:=by simpa using fun e=>h8 e.symm
      have a1:L 6=false:=by simpa[n8]using h1
      exact(h a1).up (hG.1 h8),fun i hne hr L w w' v hLi hC hC' hG ⟨A,c,e,h⟩=>⟨A,c,e,fun h1=>by
      have h8:i≠6:=fun e=>by subst e;simp at h1
      have n8:(6==i)=false:=by simpa using fun e=>h8 e.symm
      have a1:L 6=false:=by simpa[n8]using h1
      exact own_below (h a1) (hG.1 h8)⟩,fun i hne hr L w w' v hLi hC hC' hG ⟨A,c,g,e,h⟩=>⟨A,c,g,e,fun h1=>by
      have h8:i≠6:=fun e=>by subst e;simp at h1
      have n8:(6==i)=false:=by simpa using fun e=>h8 e.symm
      have a1:L 6=false:=by simpa[n8]using h1
      exact⟨(h a1).1.below (hG.1 h8) (h a1).1.lt,own_below (h a1).2 (hG.1 h8)⟩⟩,fun i hne hr L w w' v hLi hC hC' hG h=>by
      have n5:i≠3:=fun e=>by subst e;rw[h.1]at hLi;cases hLi
      have n7:i≠5:=fun e=>by subst e;rw[h.2.1]at hLi;cases hLi
      have n8:i≠6:=fun e=>by subst e;rw[h.2.2.1]at hLi;cases hLi
      rw[hG.2 n5 n7 n8]
      exact⟨by simp[h.1],by simp[h.2.1],by simp[h.2.2.1],h.2.2.2⟩,fun i hne hr L w w' v hLi hC hC' hG h=>by
      have n5:i≠3:=fun e=>by subst e;rw[h.1]at hLi;cases hLi
      have n7:i≠5:=fun e=>by subst e;rw[h.2.1]at hLi;cases hLi
      have n8:i≠6:=fun e=>by subst e;rw[h.2.2.1]at hLi;cases hLi
      rw[hG.2 n5 n7 n8]
      exact⟨by simp[h.1],by simp[h.2.1],by simp[h.2.2.1],h.2.2.2⟩,trivial⟩
   case startK14pl=>exact fun _=>(Below.refl _ _).drew
   case eachK14pl=>
    repeat' first|exact trivial|refine And.intro ?_ ?_
    ·intro w L f hC hLi hLd hLn ⟨d,_⟩;refine Step2.live rfl ?_;exact relUpon_value (v:=f 6) rfl (hC) (⟨fun _=>Below.refl _ _,fun _ _ _=>rfl⟩) d
    iterate 2 (intro w L f hC hLi hLd hLn ⟨a,_⟩;change _=_ at a;refine Step2.live rfl ?_;have h8:L 6=false:=hLn 6 (by simp);have hb0:Below wq.heap.size wq w:=hC h8;have hh:=hqv.out.below hb0 hqv.out.lt;have hlt:=hh.lt;have f0:=(fact_of hh 0 rfl).2;have f1:=(fact_of hh 1 rfl).2;obtain⟨ev,ec,ef⟩:=evs f;refine relUpon_value ?_ (fun _=>hb0) (⟨fun _=>Below.refl _ _,fun _ _ _=>rfl⟩) rfl;go_simp)
    ·intro w L f hC hLi hLd hLn hF;refine Step2.live rfl ?_;have h8:L 6=false:=hLn 6 (by simp);have hb0:Below wq.heap.size wq w:=hC h8;have hsz:=hb0.size;have hBq:=hBw.out;obtain⟨ev,ec,ef⟩:=evs f;refine relUpon_call (f:=69) (args:= #[]) (w:=w) (by go_simp) (nullO_any w) ?_;rintro e w1 ⟨⟨v,he,hv⟩,hB⟩;exact⟨_,he,fun _=>hb0.trans (hB.mono hb0.size),⟨fun _=>hB,fun h=>absurd rfl h⟩,fun _=>hv.base (Nat.le_trans hBq hsz)⟩
    ·intro w L f hC hLi hLd hLn ⟨a,d51,_⟩;change _=_ at a;refine Step2.live rfl ?_;have h8:L 6=false:=hLn 6 (by simp);have hb0:Below wq.heap.size wq w:=hC h8;obtain⟨A,c,e0,ho⟩:=d51 h8;obtain⟨ev,ec,ef⟩:=evs f;refine relUpon_value (v:= .agg #[.string sx,.bool true,.slice A ([]:List S).length c]) ?_ (fun _=>hb0) (⟨fun _=>Below.refl _ _,fun _ _ _=>rfl⟩) ⟨A,c,rfl,fun _=>ho⟩;go_simp
    ·intro w L f hC hLi hLd hLn ⟨d52,_⟩;refine Step2.live rfl ?_;have h8:L 6=false:=hLn 6 (by simp);have hb0:Below wq.heap.size wq w:=hC h8;obtain⟨A,c,e0,ho⟩:=d52;have hbn:=below_new w (.cells #[.string sx,.bool true,.slice A ([]:List S).length c] 132);obtain⟨ev,ec,ef⟩:=evs f;refine relUpon_value (w':=w.alloc (.cells #[.string sx,.bool true,.slice A ([]:List S).length c] 132)) (v:= .slice (some ⟨w.heap.size,0,none⟩) 1 1) (by go_simp) (fun _=>hb0.trans (hbn.mono hb0.size)) ⟨fun _=>hbn,fun _ h=>absurd rfl h⟩ ⟨A,c,w.heap.size,rfl,fun _=>⟨Holds.new w _ _,own_below (ho h8) hbn⟩⟩
    ·intro w L f hC hLi hLd hLn ⟨d48,d53,_⟩;change _=_ at d48;refine Step2.live rfl ?_;have hb0:Below wq.heap.size wq w:=hC hLi;obtain⟨A,c,g,e0,hr⟩:=d53;obtain⟨hg,hcs⟩:=hr hLi;have hBq:=hBw.out;have hsz:=hb0.size;have hln:=hlen.out;obtain⟨ev,ec,ef⟩:=evs f;refine relUpon_append_rowS w (.tmp 48) (.tmp 53) 54 rfl B 132 iPt _ 3 48 Tryz.underlying54 hiP hzP0 hzP1 hzP2 rfl (by omega) u6 lp.length (lp.flatMap encP) (by rw[ev,d48]) (own_below hxv.out hb0) (some ⟨g,0,none⟩) 1 1 [.string sx,.bool true,.slice A ([]:List S).length c] (by rw[ev,e0]) rfl (rowS_holds hg) (by intro u hu;simp at hu;rcases hu with rfl|rfl|rfl<;>rfl) (by unfold maxLen;omega) (by omega) (Nat.le_trans hBq hsz) ?_;intro v' w' ho hgr;exact⟨fun h=>by simp at h,⟨fun h=>absurd rfl h,fun _ _ h=>absurd rfl h⟩,by simp[hLd 3 (by decide)],by simp[hLd 5 (by decide)],by simp,A,c,w,hb0,hcs,hgr,by rw[List.flatMap_append];exact ho⟩
    ·intro w L f hC hLi hLd hLn ⟨d,_⟩;refine Step2.live rfl ?_;exact relUpon_value (v:=f 54) rfl (hC) (⟨fun _=>Below.refl _ _,fun _ _ _=>rfl⟩) d
   intro x w' hC hV
   obtain⟨-,-,-,hA⟩:=hV 7 _ rfl rfl;clear hV hC;obtain⟨vv,hvv⟩:∃v,v=x 7:=⟨_,rfl⟩;rw[←hvv]at hA;simp only[framed];rw[←hvv];clear hvv;obtain⟨r,ho2,hk2,hr3⟩:=hA.step hxv.out hBw.out;have hkk:=hkq.out.trans hk2;have f1:=zi (hkk.2 _ _ _ _ _ _ (by decide) hoi.out);have f2:=zi ho2;have f3:=zi ((hpt.out.kept hkk (by decide)).snoc hr3);have f4:=zi (hbl.out.trans hkk.1);clear hA ho2 hk2 hr3 hkk hoi hop hpt hbl hxv hqv hqg hcr hkq;go_wp2_with fail;refine⟨⟨k+1,lp++ [r],by omega,by go_num,zi (by rw[htN.out];exact f1.out),f2,zi (by rw[htP.out];exact f3.out),f4⟩,?_⟩;simp[intOf];omega
  |false=>
   have htN:Hid (parN ps++locN (ls.take (k+1))=parN ps++locN (ls.take k)++ [zeroN sx]):=zi (by rw[htN0];simp);have htP:Hid (parP cs ps++locP (ls.take (k+1))=parP cs ps++locP (ls.take k)):=zi (by rw[htP0];simp);clear htN0 htP0;obtain⟨li,hli⟩:∃y,y=parN ps++locN (ls.take k):=⟨_,rfl⟩;rw[←hli]at hoi htN hlenN;clear hli;obtain⟨wq,hwq⟩:∃y,y=wr.alloc (.cells #[.string sx,.bool false] 79):=⟨_,rfl⟩;obtain⟨gv,hgv⟩:∃y,y=wr.heap.size:=⟨_,rfl⟩
   have hb0:Below wr.heap.size wr wq:=by rw[hwq];exact below_new wr _
   have hqv:Hid (Holds wq gv 79 #[.string sx,.bool false]):=zi (by rw[hwq,hgv];exact Holds.new wr _ _);have hxv:Hid (wq.ownsRow B 128 4 u5 li.length (li.flatMap encN)):=zi (own_below hoi.out hb0);have hBw:Hid (B≤wq.heap.size):=zi (Nat.le_trans hBr.out hb0.size);have hlen:=hlenN;have hkq:=zi (KeptO.below (e0:=128) hb0 hBr.out);have hwq':=zi hwq.symm;have hgv':=zi hgv.symm;clear hwq hgv hb0;go_wp2_with fail;rw[hwq'.out,hgv'.out];clear hwq' hgv' q0 q1;refine wp_region_tabL ((eqv u5)::(eqv (.pointer (some ⟨gv,0,none⟩)))::(eqv (.string sx))::(eqv (.agg #[.bool true,.int .i64 0,.int .i64 0]))::(eqv (.agg #[.string sx,.bool true,.int .i64 0,.int .i64 0]))::(fun L w v=>∃g,v= .slice (some ⟨g,0,none⟩) 1 1∧(L 6=false→Holds w g 128 #[.string sx,.bool true,.int .i64 0,.int .i64 0]))::(fun L w v=>L 3=true∧L 5=true∧L 6=true∧AppN wq B u5 li ⟨sx,true,0,0⟩ w v)::(fun L w v=>L 3=true∧L 5=true∧L 6=true∧AppN wq B u5 li ⟨sx,true,0,0⟩ w v)::[])
    (⟨[(5,none)],0,[6]⟩::⟨[(10,none)],0,[6]⟩::⟨[(56,some 1)],0,[6]⟩::⟨[],0,[6]⟩::⟨[(57,some 2),(58,some 3)],0,[6]⟩::⟨[(59,some 4)],0,[6]⟩::⟨[(55,some 0),(60,some 5)],0,[]⟩::(rd1 61 6)::[])
    (no::no::no::no::no::so 7::no::no::no::no::no::no::no::no::no::no::no::no::no::no::no::no::no::no::no::no::no::no::no::no::no::no::no::no::no::no::no::no::no::no::no::no::no::no::no::no::no::no::no::no::no::no::no::no::no::so 0::so 1::so 2::so 3::so 4::so 5::so 6::[])
    (fun L w'=>L 6=false→Below wq.heap.size wq w') (fun i w w'=>(i≠6→Below w.heap.size w w')∧(i≠3→i≠5→i≠6→w'=w)) ?mixK15il ?okK15il ?tabK15il ?frK15il ?inK15il ?keptK15il ?startK15il ?eachK15il ?finK15il
   case mixK15il|okK15il|tabK15il|frK15il=>kernel_rfl
   case inK15il=>rfl
   case keptK15il=>exact⟨fun _ _ _ _ _ _ _ _ _ _ _ h=>h,fun _ _ _ _ _ _ _ _ _ _ _ h=>h,fun _ _ _ _ _ _ _ _ _ _ _ h=>h,fun _ _ _ _ _ _ _ _ _ _ _ h=>h,fun _ _ _ _ _ _ _ _ _ _ _ h=>h,fun i hne hr L w w' v hLi hC hC' hG ⟨g,e,h⟩=>⟨g,e,fun h1=>by
      have h8:i≠6:=fun e=>by subst e;simp at h1
      have n8:(6==i)=false:=by simpa using fun e=>h8 e.symm
      have a1:L 6=false:=by simpa[n8]using h1
      exact(h a1).below (hG.1 h8) (h a1).lt⟩,fun i hne hr L w w' v hLi hC hC' hG h=>by
      have n5:i≠3:=fun e=>by subst e;rw[h.1]at hLi;cases hLi
      have n7:i≠5:=fun e=>by subst e;rw[h.2.1]at hLi;cases hLi
      have n8:i≠6:=fun e=>by subst e;rw[h.2.2.1]at hLi;cases hLi
      rw[hG.2 n5 n7 n8]
      exact⟨by simp[h.1],by simp[h.2.1],by simp[h.2.2.1],h.2.2.2⟩,fun i hne hr L w w' v hLi hC hC' hG h=>by
      have n5:i≠3:=fun e=>by subst e;rw[h.1]at hLi;cases hLi
      have n7:i≠5:=fun e=>by subst e;rw[h.2.1]at hLi;cases hLi
      have n8:i≠6:=fun e=>by subst e;rw[h.2.2.1]at hLi;cases hLi
      rw[hG.2 n5 n7 n8]
      exact⟨by simp[h.1],by simp[h.2.1],by simp[h.2.2.1],h.2.2.2⟩,trivial⟩
   case startK15il=>exact fun _=>(Below.refl _ _).drew
   case eachK15il=>
    repeat' first|exact trivial|refine And.intro ?_ ?_
    ·intro w L f hC hLi hLd hLn ⟨d,_⟩;refine Step2.live rfl ?_;exact relUpon_value (v:=f 5) rfl (hC) (⟨fun _=>Below.refl _ _,fun _ _ _=>rfl⟩) d
    iterate 2 (intro w L f hC hLi hLd hLn ⟨a,_⟩;change _=_ at a;refine Step2.live rfl ?_;have h8:L 6=false:=hLn 6 (by simp);have hb0:Below wq.heap.size wq w:=hC h8;have hh:=hqv.out.below hb0 hqv.out.lt;have hlt:=hh.lt;have f0:=(fact_of hh 0 rfl).2;have f1:=(fact_of hh 1 rfl).2;obtain⟨ev,ec,ef⟩:=evs f;refine relUpon_value ?_ (fun _=>hb0) (⟨fun _=>Below.refl _ _,fun _ _ _=>rfl⟩) rfl;go_simp)
    ·intro w L f hC hLi hLd hLn hF;refine Step2.live rfl ?_;have h8:L 6=false:=hLn 6 (by simp);have hb0:Below wq.heap.size wq w:=hC h8;obtain⟨ev,ec,ef⟩:=evs f;refine relUpon_call (f:=70) (args:= #[.int .i64 0]) (w:=w) (by go_simp) (ivalConst_any w 0) ?_;rintro e w1 ⟨he,hB⟩;exact⟨_,he,fun _=>hb0.trans (hB.mono hb0.size),⟨fun _=>hB,fun h=>absurd rfl h⟩,rfl⟩
    ·intro w L f hC hLi hLd hLn ⟨a,b,_⟩;change _=_ at a b;refine Step2.live rfl ?_;have h8:L 6=false:=hLn 6 (by simp);have hb0:Below wq.heap.size wq w:=hC h8;obtain⟨ev,ec,ef⟩:=evs f;refine relUpon_value ?_ (fun _=>hb0) (⟨fun _=>Below.refl _ _,fun _ _ _=>rfl⟩) rfl;go_simp
    ·intro w L f hC hLi hLd hLn ⟨a,_⟩;change _=_ at a;refine Step2.live rfl ?_;have h8:L 6=false:=hLn 6 (by simp);have hb0:Below wq.heap.size wq w:=hC h8;have hbn:=below_new w (.cells #[.string sx,.bool true,.int .i64 0,.int .i64 0] 128);obtain⟨ev,ec,ef⟩:=evs f;refine relUpon_value (w':=w.alloc (.cells #[.string sx,.bool true,.int .i64 0,.int .i64 0] 128)) (v:= .slice (some ⟨w.heap.size,0,none⟩) 1 1) (by go_simp) (fun _=>hb0.trans (hbn.mono hb0.size)) ⟨fun _=>hbn,fun _ h=>absurd rfl h⟩ ⟨w.heap.size,rfl,fun _=>Holds.new w _ _⟩
    ·intro w L f hC hLi hLd hLn ⟨d55,d60,_⟩;change _=_ at d55;refine Step2.live rfl ?_;have hb0:Below wq.heap.size wq w:=hC hLi;obtain⟨g,e0,hr⟩:=d60;have hg:=hr hLi;have hBq:=hBw.out;have hsz:=hb0.size;have hln:=hlen.out;obtain⟨ev,ec,ef⟩:=evs f;refine relUpon_append_rowS w (.tmp 55) (.tmp 60) 53 rfl B 128 iNm _ 4 40 Tryz.underlying53 hiN hzN0 hzN1 hzN2 rfl (by omega) u5 li.length (li.flatMap encN) (by rw[ev,d55]) (own_below hxv.out hb0) (some ⟨g,0,none⟩) 1 1 [.string sx,.bool true,.int .i64 0,.int .i64 0] (by rw[ev,e0]) rfl (rowS_holds hg) (by intro u hu;simp at hu;rcases hu with rfl|rfl|rfl|rfl<;>rfl) (by unfold maxLen;omega) (by omega) (Nat.le_trans hBq hsz) ?_;intro v' w' ho hgr;exact⟨fun h=>by simp at h,⟨fun h=>absurd rfl h,fun _ _ h=>absurd rfl h⟩,by simp[hLd 3 (by decide)],by simp[hLd 5 (by decide)],by simp,w,hb0,hgr,by rw[List.flatMap_append];exact ho⟩
    ·intro w L f hC hLi hLd hLn ⟨d,_⟩;refine Step2.live rfl ?_;exact relUpon_value (v:=f 61) rfl (hC) (⟨fun _=>Below.refl _ _,fun _ _ _=>rfl⟩) d
   intro x w' hC hV
   obtain⟨-,-,-,hA⟩:=hV 7 _ rfl rfl;clear hV hC;obtain⟨vv,hvv⟩:∃v,v=x 7:=⟨_,rfl⟩;rw[←hvv]at hA;simp only[framed];rw[←hvv];clear hvv;obtain⟨ho2,hk2⟩:=hA.step hxv.out hBw.out;have hkk:=hkq.out.trans hk2;have f1:=zi ho2;have f2:=zi (hkk.2 _ _ _ _ _ _ (by decide) hop.out);have f3:=zi (hpt.out.kept hkk (by decide));have f4:=zi (hbl.out.trans hkk.1);clear hA ho2 hk2 hkk hoi hop hpt hbl hxv hqv hkq;go_wp2_with fail;refine⟨⟨k+1,lp,by omega,by go_num,zi (by rw[htN.out];exact f1.out),f2,zi (by rw[htP.out];exact f3.out),f4⟩,?_⟩;simp[intOf];omega
 have hkn:k=n2:=by omega
 have g1:Hid (wr.ownsRow B 128 4 u5 (parN ps++locN ls).length ((parN ps++locN ls).flatMap encN)):=zi (by have h:=hoi.out;rw[hkn,hn2'.out,List.take_length]at h;exact h);have g2:=hop;have g3:Hid (PtrsAt wr B lp (parP cs ps++locP ls)):=zi (by have h:=hpt.out;rw[hkn,hn2'.out,List.take_length]at h;exact h);have g4:=hbl
 have hltz:¬(k:Int)<(n2:Int):=by omega
 clear hoi hop hpt hbl hlt hkn;go_upto_region 17 with(fail);rename World=>wb;have z0:=(fact_of (hFf.out wb g4.out).2.1 0 rfl).2;go_wp2_with fail;go_loopw [5,66] (fun iv i wr=>∃k:Nat,k≤nc∧i= .int .i64 k∧Hid (wr.ownsRow B 128 4 iv (parN ps++locN ls++celN (cs.take k)).length ((parN ps++locN ls++celN (cs.take k)).flatMap encN))∧Hid (wr.ownsRow B 132 3 u6 lp.length (lp.flatMap encP))∧Hid (PtrsAt wr B lp (parP cs ps++locP ls))∧Hid (Below B W1 wr)) (fun _ i _=>nc-(intOf i).toNat)
 case atStart=>exact⟨0,by omega,rfl,zi (by simpa[celN]using g1.out),g2,g3,g4⟩
 obtain⟨k,hk,rfl,hoi,hop,hpt,hbl⟩:=hrel;by_cases hlt:k<nc
 ·have hkl:k<cs.length:=by rw[hcn.out];exact hlt
  obtain⟨b,off,rfl,-,hcell0⟩:=Row.at_ (hc1.out.below (by rw[←hB'.out];exact hbl.out)) (k:=k) (by simpa using hkl);rw[List.getElem_map]at hcell0;have htN0:=celN_take hkl;have hsm0:=hcl.out _ (List.getElem_mem hkl);generalize cs[k]=u at hcell0 htN0 hsm0;obtain⟨sx,hsx⟩:∃y,y=strV u:=⟨_,rfl⟩
  have hcell:wr.cell? ⟨b,off+k,none⟩=some (.string sx):=by rw[hsx];exact hcell0
  have hsz:sx.size≤100:=by rw[hsx,strV_size];exact hsm0
  have htN:Hid (parN ps++locN ls++celN (cs.take (k+1))=parN ps++locN ls++celN (cs.take k)++ [allN (⟨#[64]⟩++sx)]):=zi (by rw[htN0,hsx];simp[atB]);have hBr:Hid (B≤wr.heap.size):=zi (hFf.out wr hbl.out).2.2.2;clear htN0 hcell0 hsm0 hsx
  have hlenN:Hid ((parN ps++locN ls++celN (cs.take k)).length≤100):=zi (by
   have e2:=filter_le (fun v:Vr=>if v.ptr then none else some (allN (strV v.nm))) ps;have e3:=filter_le (fun v:Vr=>if v.ptr then none else some (zeroN (strV v.nm))) ls;have e4:=List.length_take_le k cs;have e6:=hn1'.out;have e7:=hn2'.out;simp only[parN,locN,celN,List.length_append,List.length_map]
   omega)
  obtain⟨li,hli⟩:∃y,y=parN ps++locN ls++celN (cs.take k):=⟨_,rfl⟩;rw[←hli]at hoi htN hlenN;clear hli;go_wp2_with fail;refine(show Calls Tryz.prog 68 #[] wr fun e w'=>e= .returned (.agg #[.bool true,.int .i64 (-9223372036854775808),.int .i64 9223372036854775807])∧Below wr.heap.size wr w' from ivalTop_any wr).mono ?_;rintro e w2 ⟨rfl,hb2⟩;have hO2:=own_below hoi.out hb2;have hbn:=below_new w2 (.cells #[.string (⟨#[64]⟩++sx),.bool true,.int .i64 (-9223372036854775808),.int .i64 9223372036854775807] 128);have hB2:=Nat.le_trans hBr.out hb2.size;have hO3:=zi (own_below hO2 hbn);have hrw:=zi (rowS_holds (cs:= [.string (⟨#[64]⟩++sx),.bool true,.int .i64 (-9223372036854775808),.int .i64 9223372036854775807]) (Holds.new w2 128 #[.string (⟨#[64]⟩++sx),.bool true,.int .i64 (-9223372036854775808),.int .i64 9223372036854775807]));have hone:Hid (∀u∈([.string (⟨#[64]⟩++sx),.bool true,.int .i64 (-9223372036854775808),.int .i64 9223372036854775807]:List Value),u.oneCell'=true):=zi (by intro u hu;simp at hu;rcases hu with rfl|rfl|rfl|rfl<;>rfl);have hbs:=zi (Nat.le_trans hB2 hbn.size);have hlN:=hlenN.out
  have hkq:=zi ((KeptO.below (e0:=128) hb2 hBr.out).trans (KeptO.below hbn hB2));clear hb2 hO2 hbn hB2;go_wp2_with
   (at_builtin
    go_loud (refine wpList_append_rowS rfl (.tmp 70) (.tmp 75) 53 rfl B 128 iNm _ 4 40 rfl hiN hzN0 hzN1 hzN2 rfl (by omega) u5 li.length (li.flatMap encN) rfl hO3.out (some ⟨w2.heap.size,0,none⟩) 1 1 [.string (⟨#[64]⟩++sx),.bool true,.int .i64 (-9223372036854775808),.int .i64 9223372036854775807] rfl rfl hrw.out hone.out (by unfold maxLen;omega) (by omega) hbs.out ?_)
    go_loud (
     intro v5 w5 ho5 hg5 _;have hkk:=zi (hkq.out.trans (KeptO.grown hO3.out hg5 hbs.out));have hO5:Hid (w5.ownsRow B 128 4 v5 (li++ [allN (⟨#[64]⟩++sx)]).length ((li++ [allN (⟨#[64]⟩++sx)]).flatMap encN)):=zi (by rw[List.length_append,List.flatMap_append];exact ho5)
     clear ho5 hg5))
  refine⟨⟨k+1,by omega,by go_num,zi (by rw[htN.out];exact hO5.out),zi (hkk.out.2 _ _ _ _ _ _ (by decide) hop.out),zi (hpt.out.kept hkk.out (by decide)),zi (hbl.out.trans hkk.out.1)⟩,?_⟩;simp[intOf];omega
 have hkn:k=nc:=by omega
 have g5:Hid (wr.ownsRow B 128 4 u5 (parN ps++locN ls++celN cs).length ((parN ps++locN ls++celN cs).flatMap encN)):=zi (by have h:=hoi.out;rw[hkn,←hcn.out,List.take_length]at h;exact h)
 have hltz:¬(k:Int)<(nc:Int):=by omega
 have hlenN:Hid ((parN ps++locN ls++celN cs).length≤16):=zi (by
  have e2:=filter_le (fun v:Vr=>if v.ptr then none else some (allN (strV v.nm))) ps;have e3:=filter_le (fun v:Vr=>if v.ptr then none else some (zeroN (strV v.nm))) ls;have e6:=hn1'.out;have e7:=hn2'.out;have e8:=hcn.out;simp only[parN,locN,celN,List.length_append,List.length_map]
  omega)
 have hlenP:Hid (lp.length<20):=zi (by
  have e1:=hpt.out.len;have e2:=filter_le (fun v:Vr=>if v.ptr then some (strV v.nm,(⟨true,canon cs⟩:Pz))else none) ps;have e3:=filter_le (fun v:Vr=>if v.ptr then some (strV v.nm,(⟨true,[]⟩:Pz))else none) ls;have e6:=hn1'.out;have e7:=hn2'.out;simp only[parP,locP,List.length_append]at e1
  omega)
 have hEq:Hid (parN ps++locN ls++celN cs++ [zeroN retB]=entN ps ls cs):=zi rfl;obtain⟨li,hli⟩:∃y,y=parN ps++locN ls++celN cs:=⟨_,rfl⟩;rw[←hli]at g5 hlenN hEq;have hBr:Hid (B≤wr.heap.size):=zi (hFf.out wr hbl.out).2.2.2;clear hoi hkn hlt hli;rename World=>wc;go_wp2_with fail;refine(show Calls Tryz.prog 70 #[.int .i64 0] wc fun e w'=>e= .returned (.agg #[.bool true,.int .i64 0,.int .i64 0])∧Below wc.heap.size wc w' from ivalConst_any wc 0).mono ?_;rintro e w2 ⟨rfl,hb2⟩;have hO2:=own_below g5.out hb2;have hbn:=below_new w2 (.cells #[.string (⟨#[114,101,116,117,114,110]⟩:ByteArray),.bool true,.int .i64 0,.int .i64 0] 128);have hB2:=Nat.le_trans hBr.out hb2.size;have hO3:=zi (own_below hO2 hbn);have hrw:=zi (rowS_holds (cs:= [.string (⟨#[114,101,116,117,114,110]⟩:ByteArray),.bool true,.int .i64 0,.int .i64 0]) (Holds.new w2 128 #[.string (⟨#[114,101,116,117,114,110]⟩:ByteArray),.bool true,.int .i64 0,.int .i64 0]))
 have hone:Hid (∀u∈([.string (⟨#[114,101,116,117,114,110]⟩:ByteArray),.bool true,.int .i64 0,.int .i64 0]:List Value),u.oneCell'=true):=zi (by intro u hu;simp at hu;rcases hu with rfl|rfl|rfl|rfl<;>rfl);have hbs:=zi (Nat.le_trans hB2 hbn.size);have hlN:=hlenN.out;have hkq:=zi ((KeptO.below (e0:=128) hb2 hBr.out).trans (KeptO.below hbn hB2));clear hb2 hO2 hbn hB2;go_wp2_with
  (at_builtin
   go_loud (refine wpList_append_rowS rfl (.tmp 78) (.tmp 81) 53 rfl B 128 iNm _ 4 40 rfl hiN hzN0 hzN1 hzN2 rfl (by omega) u5 li.length (li.flatMap encN) rfl hO3.out (some ⟨w2.heap.size,0,none⟩) 1 1 [.string (⟨#[114,101,116,117,114,110]⟩:ByteArray),.bool true,.int .i64 0,.int .i64 0] rfl rfl hrw.out hone.out (by unfold maxLen;omega) (by omega) hbs.out ?_)
   go_loud (
    intro v5 w5 ho5 hg5 _;have hkk:=zi (hkq.out.trans (KeptO.grown hO3.out hg5 hbs.out));have hO5:Hid (w5.ownsRow B 128 4 v5 (li++ [zeroN retB]).length ((li++ [zeroN retB]).flatMap encN)):=zi (by rw[List.length_append,List.flatMap_append];exact ho5)
    clear ho5 hg5))
 obtain⟨l5,hl5⟩:∃y,y=li++ [zeroN retB]:=⟨_,rfl⟩;have hlen5:Hid (l5.length<20):=zi (by rw[hl5,List.length_append,List.length_singleton];have:=hlenN.out;omega);have hE5:Hid (l5=entN ps ls cs):=zi (by rw[hl5];exact hEq.out);rw[←hl5]at hO5;clear hl5;have hP5:=zi (hkk.out.2 _ _ _ _ _ _ (by decide) hop.out);have hpt5:=zi (hpt.out.kept hkk.out (by decide));have hb5:=zi (hbl.out.trans hkk.out.1);have hB5:=zi (hFf.out w5 hb5.out).2.2.2;clear hkk hop hpt hbl hO3 hrw hone hbs hkq g5;refine(distinctN_any w5 B v5 l5 hO5.out (by rw[hE5.out];exact hN.out) hlen5.out).mono ?_;rintro e w6 ⟨AN,cN,lN,rfl,hpN,huN,hrN,hbN,hwN⟩;have hkN:=KeptO.grown hO5.out (grown_of_writes hwN) hB5.out;have hP6:=zi (hkN.2 _ _ _ _ _ _ (by decide) hP5.out);have hpt6:=zi (hpt5.out.kept hkN (by decide));have hb6:=zi (hb5.out.trans hkN.1);have hB6:=zi (hFf.out w6 hb6.out).2.2.2
 have hdif:Hid (∀g,blk AN=some g→B≤g∧u6.ownBlock≠some g):=zi fun g hg=>by rw[hbN]at hg;exact⟨(hO5.out.lt g hg).1,fun h=>own_differ hO5.out hP5.out (by decide) g hg h⟩
 have hdifP:Hid (∀g,u6.ownBlock=some g→B≤g):=zi fun g hg=>(hP5.out.lt g hg).1;have hfN:=zi (And.intro hpN (And.intro huN hrN));clear hkN hwN hbN hpN huN hrN hO5 hP5 hpt5 hb5;go_wp2_with fail
 have hnP:Hid ((lp.map fun x=>nmB x.nm).Nodup):=zi (by
  have h1:(lp.map fun x=>nmB x.nm)=(lp.map fun r=>r.nm).map nmB:=by rw[List.map_map];rfl
  have h2:((entP ps ls cs).map fun q=>nmB q.1)=((entP ps ls cs).map fun q=>q.1).map nmB:=by rw[List.map_map];rfl
  rw[h1,hpt6.out.1];have:=hP.out;rw[h2]at this
  exact this)
 refine(distinctP_any w6 B u6 lp hP6.out hnP.out hlenP.out).mono ?_;rintro e w7 ⟨APt,cP,lP,rfl,hpP,huP,hrP,hbP,hwP⟩;have hkP:=KeptO.grown hP6.out (grown_of_writes hwP) hB6.out;have hb7:=hb6.out.trans hkP.1;obtain⟨-,-,hHm,hB7⟩:=hFf.out w7 hb7;have z0:=(fact_of hHm 0 rfl).2;have z1:=(fact_of hHm 1 rfl).2;have z2:=(fact_of hHm 2 rfl).2;have f0:=hHm.frozen 0;have f1:=hHm.frozen 1;have f2:=hHm.frozen 2;have hst:=writes_three w7 gm (.bool true) (.slice AN l5.length cN) (.slice APt lp.length cP);have hh3:=zi (holds_three hHm (.bool true) (.slice AN l5.length cN) (.slice APt lp.length cP))
 have hfin:Hid (EntPost w0 ps ls cs (.returned (.agg #[.bool true,.slice AN l5.length cN,.slice APt lp.length cP])) (((w7.setCell ⟨gm,0,none⟩ (.bool true)).setCell ⟨gm,1,none⟩ (.slice AN l5.length cN)).setCell ⟨gm,2,none⟩ (.slice APt lp.length cP))):=zi (by
  obtain⟨hpN,huN,hrN⟩:=hfN.out;obtain⟨hgb,-,-,hgc,hgd⟩:=hgmB.out
  have hr7:=hwP.row hrN (Nat.le_refl _) (fun hne hm=>by
   obtain⟨b,off,e,-,-⟩:=hrN hne
   have hm':blk AN=u6.ownBlock:=by simpa using hm
   rw[e]at hm'
   exact(hdif.out b (by rw[e];rfl)).2 hm'.symm)
  have hr8:=hst.row hr7 hwP.size (fun hne hm=>by
   obtain⟨b,off,e,-,-⟩:=hrN hne
   have hm':blk AN=some gm:=by simpa using hm
   have:=(hdif.out gm hm').1
   omega)
  have hr9:=hst.row hrP (Nat.le_refl _) (fun hne hm=>by
   have hm':blk APt=some gm:=by simpa using hm
   rw[hbP]at hm';have:=hdifP.out gm hm'
   omega)
  refine⟨AN,cN,lN,APt,cP,lP,B,by rw[hpN.length_eq,hpP.length_eq],hr8.more (Nat.le_trans hwP.size hst.size),hr9.more hst.size,by rw[←hE5.out];exact hpN,huN,(hpP.map _).trans (by rw[hpt6.out.1];exact List.Perm.refl _),fun r hr=> ?_,huP,(hb1.out.trans (hb7.mono hgc)).trans (hst.below (Nat.le_trans hgc hB7) (fun j hj=>by simp at hj;omega))⟩;obtain⟨p,h1,h2⟩:=hpt6.out.2 r (hpP.mem_iff.1 hr);have h3:=h1.kept hkP (by decide)
  exact⟨p,⟨h3.1,h3.2.1,h3.2.2.1,own_kept h3.2.2.2 hst (fun j hj=>by simp at hj;omega)⟩,h2⟩)
 clear hst hkP hb7 hHm hrP hwP hbP huP hpP;go_wp2_with fail;exact ret_cellO rfl rfl rfl hh3.out Tryz.underlying56 Tryz.szMem hfin.out
end Go.Proofs.YtpndglghpojjkaaGreat
