/-
  7 texts of the proof, in one file: no condition.
-/
import Derived.WalkKit
import Derived.WalkSpells
import Derived.WalkLawsBesides
import Derived.Lib.Hide
import Derived.Deep.Draws
import Derived.Lib.SlBytesConst
import Derived.Maps.AppendAt
import Derived.Lib.SlicesCompact
import Derived.Sort.EncStr
import Derived.ArgAppend
import Derived.Test.YtpndglghpojjkaaGreatProg
import Derived.Sort.Walk0
import Derived.Test.YtpndglghpojjkaaGreatRows
import Derived.ProofKit
import Derived.OpenShut
import Derived.Deep.Matrix
import Derived.Deep.QuietTactic
import Derived.BigQuiet
import Derived.StillTailTactics
import Derived.IntWalk
import Derived.Deep.DeepCutAuto
import Derived.Laws.ResultCell
import Derived.Laws.Rows
import Derived.Laws.NewBlocks
import Derived.Maps.OwnSet
import Derived.Maps.RangeWalk
import Derived.StringKeys
import Derived.Shelf.Abstract
import Derived.OwnWalk
import Derived.Lib.SliceRun
import Derived.Lib.Walk
import Derived.Lib.AppendZerosOnto
import Derived.Shelf.Small.Strs
import Derived.Shelf.Sort.Plain
import Derived.Ground.Names2Prog
import Derived.Shelf.Slices.Clone
import Derived.Shelf.Slices.CompactS
import Derived.Shelf.Slices.Cells
import Derived.Shelf.Slices.In.SortNone
import Derived.Sort.OwnSorted
import Derived.Sort.Grow
import Derived.Lib.OwnBridge
import Derived.RegionTactic
import Derived.ChangeAlike
import Derived.BigRegion
import Derived.Shelf.SlIter.Nil
import Derived.Shelf.SortM.Plain
import Derived.Shelf.SortM.SortNone
import Derived.Ground.GgzProg
import Derived.Ground.SlgmProg
import Derived.Deep.CutBlock
import Derived.Test.YtpndglghpojjkaaGreatPma1
import Derived.Test.YtpndglghpojjkaaGreatPma10
import Derived.Test.YtpndglghpojjkaaGreatPma11
import Derived.Test.YtpndglghpojjkaaGreatPma12
import Derived.Test.YtpndglghpojjkaaGreatPma2
import Derived.Test.YtpndglghpojjkaaGreatPma3
import Derived.Test.YtpndglghpojjkaaGreatPma4
import Derived.Test.YtpndglghpojjkaaGreatPma5
import Derived.Test.YtpndglghpojjkaaGreatPma6
import Derived.Test.YtpndglghpojjkaaGreatPma7
import Derived.Test.YtpndglghpojjkaaGreatPma8
import Derived.Test.YtpndglghpojjkaaGreatPma9
set_option maxRecDepth 1000000
set_option maxHeartbeats 8000000
namespace Go.Proofs.YtpndglghpojjkaaGreat
open Go.RowKit
theorem Ad:∀(k:Nat) (l:List S) (x:S),(∀y∈l.take k,y<x)→(h:k<l.length)→l[k]=x→bH l x=l
 |0,y::r,x,_,_,e=>by
  simp at e;subst e;unfold bH;rw[if_neg (List.lt_irrefl y),if_pos rfl]
 |k+1,y::r,x,hb,h,e=>by have h1:y<x:=hb y (by simp);unfold bH;rw[if_pos h1,Ad k r x (fun z hz=>hb z (by simp[hz])) (by simpa using h) (by simpa using e)]
theorem sK:∀(k:Nat) (l:List S) (x:S),(∀y∈l.take k,y<x)→k≤l.length→(∀h:k<l.length,¬l[k]<x∧l[k]≠x)→bH l x=l.take k++x::l.drop k
 |0,[],x,_,_,_=>rfl
 |0,y::r,x,_,_,e=>by
  obtain⟨h1,h2⟩:=e (by simp);simp at h1 h2;unfold bH;rw[if_neg (by simpa using h1),if_neg h2];rfl
 |k+1,[],x,_,h,_=>by simp at h
 |k+1,y::r,x,hb,h,e=>by have h1:y<x:=hb y (by simp);unfold bH;rw[if_pos h1,sK k r x (fun z hz=>hb z (by simp[hz])) (by simpa using h) (fun hk=>e (Nat.succ_lt_succ hk))];rfl
section
variable {P:Program} (w:World)
theorem qX (t ty e:TypeId) (i:TypeInfo) (z:Value) (bytes:Nat) (ht:P.underlying t=some (.slice e)) (hi:P.info? e=some i) (hz:i.zero=some z) (hsize:i.size=1) (hby:i.bytes=bytes) (hzs:z.cells.size=1)
  (A:Option Addr) (n c:Nat) (olds:List Value) (hlo:olds.length=n) {B:Nat} (hro:Row w B A olds) (hn0:A=none→c=0)
  (A':Option Addr) (m c':Nat) (news:List Value) (hln:news.length=m) {B':Nat} (hrn:Row w B' A' news) (h1:∀u∈news,u.oneCell'=true) (hm:0<m)
  (hg:c<n+m) (h63:n+m≤maxLen) (hbytes:(n+m)*bytes≤140737488355328):
  ∃v' w',(Builtin.append_ #[t,t] ty #[.slice A n c,.slice A' m c']).run P w= .ok v' w'∧w'.ownsRow w.heap.size e 1 v' (n+m) (olds++news)∧Below w.heap.size w w':=by
 obtain⟨bn,on,rfl,_,hcn⟩:=hrn (by rintro rfl;simp at hln;omega)
 have hadd:∀(b o j:Nat),(⟨b,o,none⟩:Addr).add j=⟨b,o+j,none⟩:=fun b o j=>by unfold Addr.add;split<;>simp_all
 rcases A with _|a
 ·have hc0:=hn0 rfl;subst hc0
  have hn:n=0:=by
   rcases olds with _| ⟨u,r⟩
   ·simpa using hlo.symm
   ·obtain⟨_,_,h,_⟩:=hro (by simp);cases h
  subst hn;have ho:olds= []:=List.eq_nil_of_length_eq_zero hlo;subst ho;obtain⟨v',w',h1,h2,h3,_⟩:=run_append_own (P:=P) w w.heap.size t ty e i z 1 bytes ht hi hz hsize hby hzs (by omega) (.slice none 0 0) 0 [] (World.ownsRow_nil _ _ _ _) ⟨bn,on,none⟩ m c' news (by omega) (fun j u hu=>by rw[hadd];exact hcn j u hu) h1 h63 hbytes (Nat.le_refl _)
  exact⟨v',w',h1,h2,⟨h3.os,h3.tape,h3.output,h3.size,fun k hk=>h3.block k hk (by simp[Value.ownBlock])⟩⟩
 ·obtain⟨v',w',h1,h2,h3⟩:=run_append_arg_grows (P:=P) w t ty e i z 1 bytes ht hi hz hsize hby hzs (by omega) a n c olds (by omega) (fun j u hu=>by
   obtain⟨b,off,h,_,hc⟩:=hro (by rintro rfl;simp at hu);injection h with h;subst h;rw[hadd]
   exact hc j u hu) ⟨bn,on,none⟩ m c' news (by omega) (fun j u hu=>by rw[hadd];exact hcn j u hu) hg h63 hbytes
  exact⟨v',w',h1,h2,⟨h3.os,h3.tape,h3.output,h3.size,fun k hk=>h3.block k hk (by simp)⟩⟩
end
def SlS (w:World) (vs:List Value) (v:Value):Prop:=∃A c,v= .slice A vs.length c∧Row w w.heap.size A vs∧vs.length≤c
theorem SlS.up {w w':World} {vs:List Value} {v:Value} (h:SlS w vs v) (hb:Below w.heap.size w w'):SlS w' vs v:=by
 obtain⟨A,c,e,h1,h2⟩:=h;exact⟨A,c,e,(h1.below hb).more hb.size,h2⟩
theorem SlS.own {w:World} {B:Nat} {e:TypeId} {v:Value} {n:Nat} {vs:List Value} (h:w.ownsRow B e 1 v n vs):SlS w vs v:=by
 obtain⟨A,c,rfl,hr,hl,hc⟩:=zL h;subst hl;exact⟨A,c,rfl,hr,hc⟩
section
variable {P:Program} (w:World)
theorem oO (t ty e:TypeId) (i:TypeInfo) (z:Value) (bytes:Nat) (ht:P.underlying t=some (.slice e)) (hi:P.info? e=some i) (hz:i.zero=some z) (hsize:i.size=1) (hby:i.bytes=bytes) (hzs:z.cells.size=1)
  (A:Option Addr) (n:Nat) (olds:List Value) (hlo:olds.length=n) (hro:Row w w.heap.size A olds)
  (A':Option Addr) (m c':Nat) (news:List Value) (hln:news.length=m) {B':Nat} (hrn:Row w B' A' news) (h1:∀u∈news,u.oneCell'=true)
  (h63:n+m≤maxLen) (hbytes:(n+m)*bytes≤140737488355328):
  ∃v' w',(Builtin.append_ #[t,t] ty #[.slice A n n,.slice A' m c']).run P w= .ok v' w'∧SlS w' (olds++news) v'∧Below w.heap.size w w':=by
 rcases Nat.eq_zero_or_pos m with hm|hm
 ·subst hm;have:=List.eq_nil_of_length_eq_zero hln;subst this;refine⟨.slice A n n,w,?_,⟨A,n,by simp[hlo],by simpa using hro,by simp[hlo]⟩,Below.refl _ _⟩;cases A<;>cases A'<;>simp[Builtin.append_,run_underlying ht,sizeOf,typeInfo,hi,Builtin.lenOf,Builtin.firstCells,storeCells,loadCells,loadCellsFrom]
 ·obtain⟨v',w',h2,h3,h4⟩:=qX (P:=P) w t ty e i z bytes ht hi hz hsize hby hzs A n n olds hlo hro (fun h=>by
   subst h;rcases olds with _| ⟨u,r⟩
   ·simpa using hlo.symm
   ·obtain⟨_,_,h,_⟩:=hro (by simp);cases h) A' m c' news hln hrn h1 hm (by omega) h63 hbytes
  exact⟨v',w',h2,SlS.own h3,h4⟩
theorem dS {o:Oper} {ρ:Operand→Value} {A1 B1:World→Prop} {D:World→Value→Prop} (s x:Operand) (t:TypeId)
  (ho:o.op= .call {callee:= .builtin .append,args:= #[s,x],argTypes:= #[t,t]})
  (e:TypeId) (i:TypeInfo) (z:Value) (bytes:Nat) (ht:P.underlying t=some (.slice e)) (hi:P.info? e=some i) (hz:i.zero=some z) (hsize:i.size=1) (hby:i.bytes=bytes) (hzs:z.cells.size=1)
  (A:Option Addr) (n:Nat) (olds:List Value) (hs:ρ s= .slice A n n) (hlo:olds.length=n) (hro:Row w w.heap.size A olds)
  (A':Option Addr) (m c':Nat) (news:List Value) (hx:ρ x= .slice A' m c') (hln:news.length=m) {B':Nat} (hrn:Row w B' A' news) (h1:∀u∈news,u.oneCell'=true)
  (h63:n+m≤maxLen) (hbytes:(n+m)*bytes≤140737488355328)
  (h:∀v' w',SlS w' (olds++news) v'→Below w.heap.size w w'→A1 w'∧B1 w'∧D w' v'):
  fH P (fun v w'=>A1 w'∧B1 w'∧D w' v) ((execOp ρ o).run P w):=by
 obtain⟨v',w',hrun,h2,h3⟩:=oO (P:=P) w t o.type e i z bytes ht hi hz hsize hby hzs A n olds hlo hro A' m c' news hln hrn h1 h63 hbytes;unfold execOp;simp only[ho,resolve,invoke,builtin,Sem.run_bind,Sem.run_pure,Result.andThen_ok,List.map_toArray,List.map_cons,List.map_nil,hs,hx,hrun];exact h v' w' h2 h3
end
structure Kp (w0:World) (Hs:List (Nat×TypeId×Array Value)) (Rs:List (Option Addr×List Value)) (w:World):Prop where
 bel:Below w0.heap.size w0 w
 hold:∀(i:Nat) g t cs,Hs[i]? =some (g,t,cs)→Holds w g t cs
 row:∀(i:Nat) A vs,Rs[i]? =some (A,vs)→Row w w.heap.size A vs
section
variable {w0 w w':World} {Hs:List (Nat×TypeId×Array Value)} {Rs:List (Option Addr×List Value)}
theorem Kp.start (h:Below w0.heap.size w0 w):Kp w0 [] [] w:=⟨h,fun i _ _ _ e=>by simp at e,fun i _ _ e=>by simp at e⟩
theorem Kp.up (h:Kp w0 Hs Rs w) (hb:Below w.heap.size w w'):Kp w0 Hs Rs w':=
 ⟨h.bel.trans (hb.mono h.bel.size),fun i _ _ _ e=>(h.hold i _ _ _ e).below hb (h.hold i _ _ _ e).lt,fun i _ _ e=>((h.row i _ _ e).below hb).more hb.size⟩
theorem Kp.addH (h:Kp w0 Hs Rs w) {g:Nat} {t:TypeId} {cs:Array Value} (hg:Holds w g t cs):Kp w0 ((g,t,cs)::Hs) Rs w:=
 ⟨h.bel,fun i _ _ _ e=>by
  cases i with
  |zero=>simp at e;obtain⟨rfl,rfl,rfl⟩:=e;exact hg
  |succ i=>exact h.hold i _ _ _ (by simpa using e),h.row⟩
theorem Kp.new (h:Kp w0 Hs Rs w) (t:TypeId) (cs:Array Value):Kp w0 ((w.heap.size,t,cs)::Hs) Rs (w.alloc (.cells cs t)):=
 (h.up (aA w _)).addH (Holds.new w t cs)
theorem Kp.fact (h:Kp w0 Hs Rs w) (i j:Nat) {g:Nat} {t:TypeId} {cs:Array Value} {v:Value} (hi:Hs[i]? =some (g,t,cs)) (hv:cs[j]? =some v):g<w.heap.size∧w.cell? ⟨g,j,none⟩=some v:=
 ⟨(h.hold i _ _ _ hi).lt,by rw[(h.hold i _ _ _ hi).cell];exact hv⟩
theorem Kp.drew (h:Kp w0 Hs Rs w):Kp w0 Hs Rs w.drew:=h.up (Below.refl _ _).drew
theorem Kp.drewN (h:Kp w0 Hs Rs w) (n:Nat):Kp w0 Hs Rs (w.drewN n):=h.up ⟨rfl,rfl,rfl,Nat.le_refl _,fun _ _=>rfl⟩
theorem Kp.size (h:Kp w0 Hs Rs w):w0.heap.size≤w.heap.size:=h.bel.size
end
theorem Tryz.infoStr2:(Tryz.prog.info? 9).map (fun i=>(i.zero,i.size,i.bytes))=some (some (.string ⟨#[]⟩),1,16):=by kernel_rfl
theorem Es (x y:S):Op.bytesLess x y=decide (x<y):=Go.Proofs.bytesLess_eq x y
theorem rX {l:List S}:∀u∈l.map encStr,u.oneCell'=true:=by
 intro u hu;obtain⟨x,_,rfl⟩:=List.mem_map.1 hu;rfl
theorem xU {s:S} {l:List S}:∀u∈[encStr s]++l.map encStr,u.oneCell'=true:=by
 intro u hu;rcases List.mem_append.1 hu with h|h
 ·simp at h;subst h;rfl
 ·exact rX u h
def tN (w:World) (l:List S) (v:Value):Prop:=∃A c,v= .slice A l.length c∧Row w w.heap.size A (l.map encStr)∧l.length≤c
theorem tN.of {w:World} {l:List S} {v:Value} (h:SlS w (l.map encStr) v):tN w l v:=by
 obtain⟨A,c,e,h1,h2⟩:=h;rw[List.length_map]at e h2;exact⟨A,c,e,h1,h2⟩
theorem tN.sl {w:World} {l:List S} {v:Value} (h:tN w l v):SlS w (l.map encStr) v:=by
 obtain⟨A,c,e,h1,h2⟩:=h;exact⟨A,c,by rw[List.length_map];exact e,h1,by rw[List.length_map];exact h2⟩
theorem tN.up {w w':World} {l:List S} {v:Value} (h:tN w l v) (hb:Below w.heap.size w w'):tN w' l v:= .of (h.sl.up hb)
def Fj (w0:World) (l:List S) (e:Ending) (w':World):Prop:=(∃v,e= .returned v∧tN w' l v)∧Below w0.heap.size w0 w'
theorem add_any (w0:World) (A:Option Addr) (n c:Nat) (l:List S) (s:S) (hn:l.length=n) (hm:n≤100000) (hc:n≤c) (hr:Row w0 w0.heap.size A (l.map encStr)):
  Calls Tryz.prog 101 #[.slice A n c,encStr s] w0 (Fj w0 (bH l s)):=by
 obtain⟨iS,hiS,hzS0,hzS1,hzS2⟩:=info_parts Tryz.infoStr2;have hn':=Lib.hid hn;have hr':=Lib.hid hr;clear hn hr;go_enter Tryz.func101,Tryz.ntmps101;go_wp2_with fail
 go_loop [5] (fun i=>∃k:Nat,k≤n∧i= .int .i64 k∧∀y∈l.take k,y<s) (fun i=>n-(intOf i).toNat)
 case atStart=>exact⟨0,Nat.zero_le _,rfl,by simp⟩
 obtain⟨k,hk,rfl,hall⟩:=hrel;have hall:=Lib.hid hall;rename_i u1;clear u1;by_cases hlt:k<n
 ·have hlt2:k<l.length:=by rw[hn'.out];exact hlt
  obtain⟨b,off,rfl,_,hcell⟩:=hr'.out.at_ (k:=k) (by simpa using hlt2);rw[List.getElem_map]at hcell;obtain⟨y,hy0⟩:∃y,y=l[k]:=⟨_,rfl⟩;rw[←hy0]at hcell;have hy:=Lib.hid hy0;clear hy0;have htk:Hid (l.take (k+1)=l.take k++ [y]):=Lib.hid (by rw[hy.out];exact List.take_succ_eq_append_getElem hlt2);by_cases hyx:y<s
  ·have hbl:Op.bytesLess y s=true:=by rw[Es];simpa using hyx
   have hyx2:=Lib.hid hyx;clear hyx;go_wp2_with fail;go_round
   case rel=>exact⟨k+1,by omega,by go_num,by
    rw[htk.out];intro z hz;rcases List.mem_append.1 hz with h|h
    ·exact hall.out z h
    ·simp at h;subst h
     exact hyx2.out⟩
   case measure=>simp[intOf];omega
  ·have hbl:Op.bytesLess y s=false:=by rw[Es];simpa using hyx
   have hyx2:=Lib.hid hyx;clear hyx;by_cases hxy:y=s
   ·subst hxy;have hd:=Lib.hid (Ad k l y hall.out hlt2 hy.out.symm);go_wp2_with fail;go_ret;exact⟨⟨.slice (some ⟨b,off,none⟩) n c,rfl,some ⟨b,off,none⟩,c,by rw[hd.out,hn'.out],by rw[hd.out];exact hr'.out,by rw[hd.out,hn'.out];exact hc⟩,Below.refl _ _⟩
   ·have hbq:(y==s)=false:=by simpa using hxy
    have hd:=Lib.hid (sK k l s hall.out (by omega) (fun h=>⟨by rw[←hy.out];exact hyx2.out,by rw[←hy.out];exact hxy⟩));clear hxy;go_wp2_with fail
    have hkc:k≤c:=by omega
    have hrT:=Lib.hid (show Row w0 w0.heap.size (some (⟨b,off,none⟩:Addr)) ((l.take k).map encStr)by rw[List.map_take];exact hr'.out.take k)
    have hrD:=Lib.hid (show Row w0 w0.heap.size (if c=k then(some (⟨b,off,none⟩:Addr))else Option.map (fun a=>a.add k) (some (⟨b,off,none⟩:Addr))) ((l.drop k).map encStr)by
     have:=hr'.out.cut k (c:=c) (by rw[List.length_map,hn'.out];exact hc);rw[←List.map_drop]at this
     exact this)
    have hlT:=Lib.hid (show((l.take k).map encStr).length=k by rw[List.length_map,List.length_take,hn'.out];omega);have hlD:=Lib.hid (show((l.drop k).map encStr).length=n-k by rw[List.length_map,List.length_drop,hn'.out])
    refine mY ((eqw (.slice (some (⟨b,off,none⟩:Addr)) n c))::(eqw (.int .i64 k))::(eqw (.int .i64 k))::(eqw (.slice (some (⟨b,off,none⟩:Addr)) k k))::(eqw (encStr s))::(fun w v=>∃A1,v= .slice A1 1 1∧Row w w.heap.size A1 [encStr s])::(eqw (.slice (some (⟨b,off,none⟩:Addr)) n c))::(eqw (.int .i64 k))::(eqw (.slice (if c=k then(some (⟨b,off,none⟩:Addr))else Option.map (fun a=>a.add k) (some (⟨b,off,none⟩:Addr))) (n-k) (c-k)))::(fun w v=>SlS w ([encStr s]++(l.drop k).map encStr) v)::(fun w v=>SlS w ((l.take k).map encStr++([encStr s]++(l.drop k).map encStr)) v)::(fun w v=>SlS w ((l.take k).map encStr++([encStr s]++(l.drop k).map encStr)) v)::[])
     ((rn1 0)::(rn1 5)::(rn1 5)::⟨[(33,some 0),(34,some 1),(35,some 2)],0,[]⟩::(rn1 1)::(rd1 37 4)::(rn1 0)::(rn1 5)::⟨[(39,some 6),(40,some 7)],0,[]⟩::⟨[(38,some 5),(41,some 8)],0,[]⟩::⟨[(36,some 3),(42,some 9)],0,[]⟩::(rd1 43 10)::[])
     (no::no::no::no::so 11::no::no::no::no::no::no::no::no::no::no::no::no::no::no::no::no::no::no::no::no::no::no::no::no::no::no::no::no::so 0::so 1::so 2::so 3::so 4::so 5::so 6::so 7::so 8::so 9::so 10::[])
     (fun _ w'=>Below w0.heap.size w0 w') (fun _ w w'=>Below w.heap.size w w') ?mixK6adda ?okK6adda ?tabK6adda ?frK6adda ?inK6adda ?keptK6adda ?startK6adda ?eachK6adda ?finK6adda
    case mixK6adda|okK6adda|tabK6adda|frK6adda=>kernel_rfl
    case inK6adda=>rfl
    case keptK6adda=>exact⟨fun _ _ _ _ _ _ _ h=>h,fun _ _ _ _ _ _ _ h=>h,fun _ _ _ _ _ _ _ h=>h,fun _ _ _ _ _ _ _ h=>h,fun _ _ _ _ _ _ _ h=>h,fun _ _ _=>fun w w' v hG ⟨A1,e,h⟩=>⟨A1,e,(h.below hG).more hG.size⟩,fun _ _ _ _ _ _ _ h=>h,fun _ _ _ _ _ _ _ h=>h,fun _ _ _ _ _ _ _ h=>h,fun _ _ _=>fun w w' v hG h=>h.up hG,fun _ _ _=>fun w w' v hG h=>h.up hG,fun _ _ _=>fun w w' v hG h=>h.up hG,trivial⟩
    case startK6adda=>exact(Below.refl _ _).drew
    case eachK6adda=>
     repeat' first|exact trivial|refine And.intro ?_ ?_
     ·intro w L f hC hLi hLd hLn ⟨d,_⟩;refine au.live rfl ?_;exact aj (v:=f 0) rfl (hC) (Below.refl _ _) d
     iterate 2 (intro w L f hC hLi hLd hLn ⟨d,_⟩;refine au.live rfl ?_;exact aj (v:=f 5) rfl (hC) (Below.refl _ _) d)
     ·intro w L f hC hLi hLd hLn ⟨a,b,c,_⟩;change _=_ at a b c;refine au.live rfl ?_;obtain⟨ev,ec,ef⟩:=evs f;refine aj ?_ hC (Below.refl _ _) rfl;go_simp
     ·intro w L f hC hLi hLd hLn ⟨d,_⟩;refine au.live rfl ?_;exact aj (v:=f 1) rfl (hC) (Below.refl _ _) d
     ·intro w L f hC hLi hLd hLn ⟨a,_⟩;change _=_ at a;refine au.live rfl ?_;have hbn:=aA w (.cells #[encStr s] 9);obtain⟨ev,ec,ef⟩:=evs f;refine aj (w':=w.alloc (.cells #[encStr s] 9)) (v:= .slice (some ⟨w.heap.size,0,none⟩) 1 1) (by go_simp) (hC.trans (hbn.mono hC.size)) hbn ⟨_,rfl,Row.fresh w 9 [encStr s]⟩
     ·intro w L f hC hLi hLd hLn ⟨d,_⟩;refine au.live rfl ?_;exact aj (v:=f 0) rfl (hC) (Below.refl _ _) d
     ·intro w L f hC hLi hLd hLn ⟨d,_⟩;refine au.live rfl ?_;exact aj (v:=f 5) rfl (hC) (Below.refl _ _) d
     ·intro w L f hC hLi hLd hLn ⟨a,b,_⟩;change _=_ at a b;refine au.live rfl ?_;obtain⟨ev,ec,ef⟩:=evs f;refine aj ?_ hC (Below.refl _ _) rfl;go_simp
     ·intro w L f hC hLi hLd hLn ⟨d38,d41,_⟩;change _=_ at d41;refine au.live rfl ?_;obtain⟨A1,e1,h1⟩:=d38;obtain⟨ev,ec,ef⟩:=evs f;refine dS w (.tmp 38) (.tmp 41) 35 rfl 9 iS (.string ⟨#[]⟩) 16 Tryz.underlying35 hiS hzS0 hzS1 hzS2 rfl A1 1 [encStr s] (by rw[ev,e1]) rfl h1 (if c=k then(some (⟨b,off,none⟩:Addr))else Option.map (fun a=>a.add k) (some (⟨b,off,none⟩:Addr))) (n-k) (c-k) ((l.drop k).map encStr) (by rw[ev,d41]) hlD.out (hrD.out.below hC) rX (by unfold maxLen;omega) (by omega) ?_;intro v' w' hS hB;exact⟨hC.trans (hB.mono hC.size),hB,hS⟩
     ·intro w L f hC hLi hLd hLn ⟨d36,d42,_⟩;change _=_ at d36;refine au.live rfl ?_;obtain⟨A1,c1,e1,h1,h2⟩:=d42
      have hl42:([encStr s]++(l.drop k).map encStr).length=1+(n-k):=by rw[List.length_append,hlD.out];rfl
      obtain⟨ev,ec,ef⟩:=evs f;refine dS w (.tmp 36) (.tmp 42) 35 rfl 9 iS (.string ⟨#[]⟩) 16 Tryz.underlying35 hiS hzS0 hzS1 hzS2 rfl (some (⟨b,off,none⟩:Addr)) k ((l.take k).map encStr) (by rw[ev,d36]) hlT.out ((hrT.out.below hC).more hC.size) A1 (1+(n-k)) c1 ([encStr s]++(l.drop k).map encStr) (by rw[ev,e1,hl42]) hl42 h1 xU (by unfold maxLen;omega) (by omega) ?_;intro v' w' hS hB;exact⟨hC.trans (hB.mono hC.size),hB,hS⟩
     ·intro w L f hC hLi hLd hLn ⟨d,_⟩;refine au.live rfl ?_;exact aj (v:=f 43) rfl (hC) (Below.refl _ _) d
    intro x w' hC hV
    have e0:=hV 11 _ rfl rfl;clear hV;obtain⟨vv,hvv⟩:∃v,v=x 11:=⟨_,rfl⟩;rw[←hvv]at e0;simp only[framed];rw[←hvv];clear hvv;go_wp2_with fail;go_ret;exact⟨⟨vv,rfl,by rw[hd.out];exact tN.of (by rw[List.map_append,List.map_cons];exact e0)⟩,hC⟩
 ·have hge:n≤k:=by omega
  have hd:=Lib.hid (sK k l s hall.out (by rw[hn'.out];exact hk) (fun h=>absurd h (by rw[hn'.out];omega)));go_wp2_with fail
  have hkc:k≤c:=by omega
  have hrT:=Lib.hid (show Row w0 w0.heap.size A ((l.take k).map encStr)by rw[List.map_take];exact hr'.out.take k)
  have hrD:=Lib.hid (show Row w0 w0.heap.size (if c=k then A else Option.map (fun a=>a.add k) A) ((l.drop k).map encStr)by
   have:=hr'.out.cut k (c:=c) (by rw[List.length_map,hn'.out];exact hc);rw[←List.map_drop]at this
   exact this)
  have hlT:=Lib.hid (show((l.take k).map encStr).length=k by rw[List.length_map,List.length_take,hn'.out];omega);have hlD:=Lib.hid (show((l.drop k).map encStr).length=n-k by rw[List.length_map,List.length_drop,hn'.out])
  refine mY ((eqw (.slice A n c))::(eqw (.int .i64 k))::(eqw (.int .i64 k))::(eqw (.slice A k k))::(eqw (encStr s))::(fun w v=>∃A1,v= .slice A1 1 1∧Row w w.heap.size A1 [encStr s])::(eqw (.slice A n c))::(eqw (.int .i64 k))::(eqw (.slice (if c=k then A else Option.map (fun a=>a.add k) A) (n-k) (c-k)))::(fun w v=>SlS w ([encStr s]++(l.drop k).map encStr) v)::(fun w v=>SlS w ((l.take k).map encStr++([encStr s]++(l.drop k).map encStr)) v)::(fun w v=>SlS w ((l.take k).map encStr++([encStr s]++(l.drop k).map encStr)) v)::[])
   ((rn1 0)::(rn1 5)::(rn1 5)::⟨[(33,some 0),(34,some 1),(35,some 2)],0,[]⟩::(rn1 1)::(rd1 37 4)::(rn1 0)::(rn1 5)::⟨[(39,some 6),(40,some 7)],0,[]⟩::⟨[(38,some 5),(41,some 8)],0,[]⟩::⟨[(36,some 3),(42,some 9)],0,[]⟩::(rd1 43 10)::[])
   (no::no::no::no::so 11::no::no::no::no::no::no::no::no::no::no::no::no::no::no::no::no::no::no::no::no::no::no::no::no::no::no::no::no::so 0::so 1::so 2::so 3::so 4::so 5::so 6::so 7::so 8::so 9::so 10::[])
   (fun _ w'=>Below w0.heap.size w0 w') (fun _ w w'=>Below w.heap.size w w') ?mixK6addb ?okK6addb ?tabK6addb ?frK6addb ?inK6addb ?keptK6addb ?startK6addb ?eachK6addb ?finK6addb
  case mixK6addb|okK6addb|tabK6addb|frK6addb=>kernel_rfl
  case inK6addb=>rfl
  case keptK6addb=>exact⟨fun _ _ _ _ _ _ _ h=>h,fun _ _ _ _ _ _ _ h=>h,fun _ _ _ _ _ _ _ h=>h,fun _ _ _ _ _ _ _ h=>h,fun _ _ _ _ _ _ _ h=>h,fun _ _ _=>fun w w' v hG ⟨A1,e,h⟩=>⟨A1,e,(h.below hG).more hG.size⟩,fun _ _ _ _ _ _ _ h=>h,fun _ _ _ _ _ _ _ h=>h,fun _ _ _ _ _ _ _ h=>h,fun _ _ _=>fun w w' v hG h=>h.up hG,fun _ _ _=>fun w w' v hG h=>h.up hG,fun _ _ _=>fun w w' v hG h=>h.up hG,trivial⟩
  case startK6addb=>exact(Below.refl _ _).drew
  case eachK6addb=>
   repeat' first|exact trivial|refine And.intro ?_ ?_
   ·intro w L f hC hLi hLd hLn ⟨d,_⟩;refine au.live rfl ?_;exact aj (v:=f 0) rfl (hC) (Below.refl _ _) d
   iterate 2 (intro w L f hC hLi hLd hLn ⟨d,_⟩;refine au.live rfl ?_;exact aj (v:=f 5) rfl (hC) (Below.refl _ _) d)
   ·intro w L f hC hLi hLd hLn ⟨a,b,c,_⟩;change _=_ at a b c;refine au.live rfl ?_;obtain⟨ev,ec,ef⟩:=evs f;refine aj ?_ hC (Below.refl _ _) rfl;go_simp
   ·intro w L f hC hLi hLd hLn ⟨d,_⟩;refine au.live rfl ?_;exact aj (v:=f 1) rfl (hC) (Below.refl _ _) d
   ·intro w L f hC hLi hLd hLn ⟨a,_⟩;change _=_ at a;refine au.live rfl ?_;have hbn:=aA w (.cells #[encStr s] 9);obtain⟨ev,ec,ef⟩:=evs f;refine aj (w':=w.alloc (.cells #[encStr s] 9)) (v:= .slice (some ⟨w.heap.size,0,none⟩) 1 1) (by go_simp) (hC.trans (hbn.mono hC.size)) hbn ⟨_,rfl,Row.fresh w 9 [encStr s]⟩
   ·intro w L f hC hLi hLd hLn ⟨d,_⟩;refine au.live rfl ?_;exact aj (v:=f 0) rfl (hC) (Below.refl _ _) d
   ·intro w L f hC hLi hLd hLn ⟨d,_⟩;refine au.live rfl ?_;exact aj (v:=f 5) rfl (hC) (Below.refl _ _) d
   ·intro w L f hC hLi hLd hLn ⟨a,b,_⟩;change _=_ at a b;refine au.live rfl ?_;obtain⟨ev,ec,ef⟩:=evs f;refine aj ?_ hC (Below.refl _ _) rfl;go_simp
   ·intro w L f hC hLi hLd hLn ⟨d38,d41,_⟩;change _=_ at d41;refine au.live rfl ?_;obtain⟨A1,e1,h1⟩:=d38;obtain⟨ev,ec,ef⟩:=evs f;refine dS w (.tmp 38) (.tmp 41) 35 rfl 9 iS (.string ⟨#[]⟩) 16 Tryz.underlying35 hiS hzS0 hzS1 hzS2 rfl A1 1 [encStr s] (by rw[ev,e1]) rfl h1 (if c=k then A else Option.map (fun a=>a.add k) A) (n-k) (c-k) ((l.drop k).map encStr) (by rw[ev,d41]) hlD.out (hrD.out.below hC) rX (by unfold maxLen;omega) (by omega) ?_;intro v' w' hS hB;exact⟨hC.trans (hB.mono hC.size),hB,hS⟩
   ·intro w L f hC hLi hLd hLn ⟨d36,d42,_⟩;change _=_ at d36;refine au.live rfl ?_;obtain⟨A1,c1,e1,h1,h2⟩:=d42
    have hl42:([encStr s]++(l.drop k).map encStr).length=1+(n-k):=by rw[List.length_append,hlD.out];rfl
    obtain⟨ev,ec,ef⟩:=evs f;refine dS w (.tmp 36) (.tmp 42) 35 rfl 9 iS (.string ⟨#[]⟩) 16 Tryz.underlying35 hiS hzS0 hzS1 hzS2 rfl A k ((l.take k).map encStr) (by rw[ev,d36]) hlT.out ((hrT.out.below hC).more hC.size) A1 (1+(n-k)) c1 ([encStr s]++(l.drop k).map encStr) (by rw[ev,e1,hl42]) hl42 h1 xU (by unfold maxLen;omega) (by omega) ?_;intro v' w' hS hB;exact⟨hC.trans (hB.mono hC.size),hB,hS⟩
   ·intro w L f hC hLi hLd hLn ⟨d,_⟩;refine au.live rfl ?_;exact aj (v:=f 43) rfl (hC) (Below.refl _ _) d
  intro x w' hC hV
  have e0:=hV 11 _ rfl rfl;clear hV;obtain⟨vv,hvv⟩:∃v,v=x 11:=⟨_,rfl⟩;rw[←hvv]at e0;simp only[framed];rw[←hvv];clear hvv;go_wp2_with fail;go_ret;exact⟨⟨vv,rfl,by rw[hd.out];exact tN.of (by rw[List.map_append,List.map_cons];exact e0)⟩,hC⟩
end Go.Proofs.YtpndglghpojjkaaGreat
namespace Go.Proofs.YtpndglghpojjkaaGreat
open Go.RowKit Go.Deep
theorem Row.other {w:World} {B:Nat} {A:Option Addr} {l:List S} {p:Addr} {X:Option Addr} {n m:Nat} (hr:Row w B A (l.map encStr)) (hg:w.cell? p=some (.slice X n m)) (v:Value):Row (w.setCell p v) B A (l.map encStr):=fun hne=>by
 obtain⟨b,off,rfl,hb,hc⟩:=hr hne;refine⟨b,off,rfl,hb,fun j u hu=> ?_⟩;have h1:=hc j u hu
 have e:p≠⟨b,off+j,none⟩:=fun e=>by subst e;rw[h1]at hg;obtain⟨x,_,rfl⟩:=List.mem_map.1 (List.mem_of_getElem? hu);cases hg
 exact(World.cell?_setCell_other _ _ _ _ e).trans h1
def usC (F:FnV) (X1 X2 X3:Option Addr) (n1 n2 n3 k1 k2 k3:Nat):Array Value:= #[.string (ay F.nm),.slice F.A1 F.ps.length F.c1,.slice F.A2 F.ls.length F.c2,.slice F.A3 F.n3 F.c3,.slice X1 n1 k1,.slice X2 n2 k2,.slice X3 n3 k3]
structure UsB (F:FnV) (gu B:Nat) (c a l:List S) (w0 w:World):Prop where
 row:∃X1 X2 X3 k1 k2 k3,Holds w gu 106 (usC F X1 X2 X3 c.length a.length l.length k1 k2 k3)∧(Row w w.heap.size X1 (c.map encStr)∧c.length≤k1)∧(Row w w.heap.size X2 (a.map encStr)∧a.length≤k2)∧(Row w w.heap.size X3 (l.map encStr)∧l.length≤k3)
 ok:F.ok w0
 bl:Below w0.heap.size w0 w
 lo:w0.heap.size≤gu
 lc:c.length≤B∧a.length≤B∧l.length≤B
section
variable {F:FnV} {gu B:Nat} {c a l:List S} {w0 w w':World}
theorem UsB.below (h:UsB F gu B c a l w0 w) (hb:Below w.heap.size w w'):UsB F gu B c a l w0 w':=by
 obtain⟨X1,X2,X3,k1,k2,k3,hH,⟨r1,e1⟩,⟨r2,e2⟩,r3,e3⟩:=h.row;exact⟨⟨X1,X2,X3,k1,k2,k3,hH.below hb hH.lt,⟨(r1.below hb).more hb.size,e1⟩,⟨(r2.below hb).more hb.size,e2⟩,(r3.below hb).more hb.size,e3⟩,h.ok,h.bl.trans (hb.mono h.bl.size),h.lo,h.lc⟩
theorem UsB.more {B':Nat} (h:UsB F gu B c a l w0 w) (hB:B≤B'):UsB F gu B' c a l w0 w:=⟨h.row,h.ok,h.bl,h.lo,Nat.le_trans h.lc.1 hB,Nat.le_trans h.lc.2.1 hB,Nat.le_trans h.lc.2.2 hB⟩
end
theorem oG (l:List S) (x:S):(bH l x).length≤l.length+1:=by
 induction l with
 |nil=>simp[bH]
 |cons y l ih=>
  unfold bH;split
  ·simp;exact ih
  ·split<;>simp
def addN (F:FnV) (c:List S) (s:S):List S:=if s != []&&F.K s==0 then bH c s else c
theorem G5 (F:FnV) (c:List S) (s:S):(addN F c s).length≤c.length+1:=by
 unfold addN;split
 ·exact oG c s
 ·omega
theorem jl (F:FnV) (gu B:Nat) (c a l:List S) (w0 w:World) (h:UsB F gu B c a l w0 w) (hB:B≤100000) (s:S):
  Calls Tryz.prog 100 #[.pointer (some ⟨gu,0,none⟩),.string (ay s)] w fun e w'=>e= .returned (.tuple #[])∧UsB F gu (B+1) (addN F c s) a l w0 w'∧Writes [some gu] w w':=by
 by_cases hs:s= []
 ·have hR:Hid (addN F c s=c):=Lib.hid (by unfold addN;rw[hs];rfl)
  have e1:((ay s).toList== [])=true:=by rw[aH,hs];rfl
  have e2:(ay s).toList.isEmpty=true:=by rw[aH,hs];rfl
  have h':=Lib.hid (h.more (Nat.le_add_right B 1));clear h hs;go_enter Tryz.func100,Tryz.ntmps100;go_wp2_with fail;refine bodyPost_end (results_none rfl _ _ _) rfl ?_;exact⟨rfl,by rw[hR.out];exact h'.out,Writes.refl _ _⟩
 have e1:((ay s).toList== [])=false:=by rw[aH];simpa using hs
 have e2:(ay s).toList.isEmpty=false:=by rw[aH];cases s with|nil=>exact absurd rfl hs|cons=>rfl
 obtain⟨X1,X2,X3,k1,k2,k3,hH,⟨r1,l1⟩,⟨r2,l2⟩,r3,l3⟩:=h.row;have p0:w.cell? ⟨gu,0,none⟩=some (.string (ay F.nm)):=hH.cell 0;have p1:w.cell? ⟨gu,1,none⟩=some (.slice F.A1 F.ps.length F.c1):=hH.cell 1;have p2:w.cell? ⟨gu,2,none⟩=some (.slice F.A2 F.ls.length F.c2):=hH.cell 2;have p3:w.cell? ⟨gu,3,none⟩=some (.slice F.A3 F.n3 F.c3):=hH.cell 3
 have pl:=hH.lt;have hk:=fE F w (h.ok.below h.bl) s;unfold FnV.cells at hk;replace hk:=Lib.hid hk;have h':=Lib.hid h;have hH':=Lib.hid hH;have r1':=Lib.hid (And.intro r1 l1);have r2':=Lib.hid (And.intro r2 l2);have r3':=Lib.hid (And.intro r3 l3);have hs':=Lib.hid hs;clear h hH r1 r2 r3 l1 l2 l3 hs;go_enter Tryz.func100,Tryz.ntmps100;go_wp2_with fail;refine hk.out.mono ?_
 clear hk p0 p1 p2 p3 pl;rintro e w2 ⟨rfl,hb2⟩;have h2:=Lib.hid (h'.out.below hb2);have hW2:=Lib.hid (Writes.of_below hb2 [some gu]);have hH2:=hH'.out.below hb2 hH'.out.lt;by_cases hk0:F.K s=0
 ·have hR:Hid (addN F c s=bH c s):=Lib.hid (by unfold addN;rw[hk0,if_pos];simp[hs'.out])
  have hk1:((F.K s:Int)==0)=true:=by rw[hk0];rfl
  have q1:w2.cell? ⟨gu,4,none⟩=some (.slice X1 c.length k1):=hH2.cell 4;have pl:=hH2.lt;have hadd:=Lib.hid (add_any w2 X1 c.length k1 c s rfl (Nat.le_trans h'.out.lc.1 hB) r1'.out.2 ((r1'.out.1.below hb2).more hb2.size));have r2b:=Lib.hid ((r2'.out.1.below hb2).more hb2.size);have r3b:=Lib.hid ((r3'.out.1.below hb2).more hb2.size);obtain⟨n1,hn1⟩:∃y,y=c.length:=⟨_,rfl⟩
  rw[←hn1]at q1 hadd;have hH2':=Lib.hid hH2;clear hb2 hH2 hk0 hn1;go_wp2_with fail;refine hadd.out.mono ?_;rintro e w3 ⟨⟨v,rfl,A',c',rfl,hr,hc⟩,hb3⟩;have hH3:=hH2'.out.below hb3 hH2'.out.lt;have q4:w3.cell? ⟨gu,4,none⟩=some (.slice X1 c.length k1):=hH3.cell 4;have pl:=hH3.lt;have z4:=hH3.frozen 4
  have hW:Writes [some gu] w3 (w3.setCell ⟨gu,4,none⟩ (.slice A' (bH c s).length c')):=Writes.store w3 (by simp) _;have hlen:=oG c s
  have hend:Hid (UsB F gu (B+1) (bH c s) a l w0 (w3.setCell ⟨gu,4,none⟩ (.slice A' (bH c s).length c'))):=Lib.hid (by
   refine⟨⟨A',X2,X3,c',k2,k3,?_,⟨(hr.other q4 _).more hW.size,hc⟩,⟨(((r2b.out.below hb3).more hb3.size).other q4 _).more hW.size,r2'.out.2⟩,(((r3b.out.below hb3).more hb3.size).other q4 _).more hW.size,r3'.out.2⟩,h2.out.ok,?_,h2.out.lo,?_,?_,?_⟩
   ·have:=hH3.store 4 (.slice A' (bH c s).length c');simpa[usC]using this
   ·exact(h2.out.below hb3).bl.trans (hW.below (h2.out.below hb3).bl.size (fun k hk=>by simp at hk;rw[hk];exact h2.out.lo))
   ·have:=h'.out.lc.1;omega
   ·have:=h'.out.lc.2.1;omega
   ·have:=h'.out.lc.2.2;omega)
  have hWe:=Lib.hid ((hW2.out.trans (Writes.of_below hb3 [some gu])).trans hW);clear hH3 hW hlen hb3 hr hc q1;go_wp2_with fail;refine bodyPost_end (results_none rfl _ _ _) rfl ?_;exact⟨rfl,by rw[hR.out];exact hend.out,hWe.out⟩
 ·have hR:Hid (addN F c s=c):=Lib.hid (by unfold addN;rw[if_neg];simp[hk0])
  have hk1:((F.K s:Int)==0)=false:=by simp;omega
  clear hb2 hH2 hk0;go_wp2_with fail;refine bodyPost_end (results_none rfl _ _ _) rfl ?_;exact⟨rfl,by rw[hR.out];exact h2.out.more (Nat.le_add_right B 1),hW2.out⟩
theorem UsB.eq {F:FnV} {gu B B':Nat} {c c' a l:List S} {w0 w:World} (h:UsB F gu B c a l w0 w) (hB:B=B') (hc:c=c'):UsB F gu B' c' a l w0 w:=by subst hB hc;exact h
theorem iJ (F:FnV) (gu:Nat) (a l:List S) (w0:World):∀(e:Ex) (w:World) (B:Nat) (c:List S) (v:Value),aJ w0 Evr e v→UsB F gu B c a l w0 w→B+(exL e).length≤100000→
  Calls Tryz.prog 102 #[.pointer (some ⟨gu,0,none⟩),v] w fun e' w'=>e'= .returned (.tuple #[])∧UsB F gu (B+(exL e).length) ((exL e).foldl (addN F) c) a l w0 w'∧Writes [some gu] w w'
 | .nil,w,B,c,v,h,hU,hB=>by
  obtain rfl:v= .pointer none:=h;have hU':=Lib.hid hU;clear hU;go_enter Tryz.func102,Tryz.ntmps102;go_wp2_with fail;refine bodyPost_ret (results_none rfl _ _ _) rfl ?_;exact⟨rfl,hU'.out,Writes.refl _ _⟩
 | .mk kd n x e1 e2,w,B,c,v,h,hU,hB=>by
  obtain⟨g,va,vb,rfl,-,-,hk7,hH,ha,hb⟩:=h
  have hfc:Hid (∀wx,Below w0.heap.size w0 wx→wx.cell? ⟨g,0,none⟩=some (.int .i64 kd)∧wx.cell? ⟨g,2,none⟩=some (.string (ay x))∧wx.cell? ⟨g,3,none⟩=some va∧wx.cell? ⟨g,4,none⟩=some vb∧g<wx.heap.size):=Lib.hid fun wx hx=>by have h:=hH.below hx hH.lt;exact⟨h.cell 0,h.cell 2,h.cell 3,h.cell 4,h.lt⟩
  have hU':=Lib.hid hU;have c1:=Lib.hid (fun(w:World) (B:Nat) (c:List S)=>iJ F gu a l w0 e1 w B c va ha);have c2:=Lib.hid (fun(w:World) (B:Nat) (c:List S)=>iJ F gu a l w0 e2 w B c vb hb);have hB':=Lib.hid hB;clear hH ha hb hB hU;obtain⟨q0,q2,q3,q4,ql⟩:=hfc.out w hU'.out.bl;go_enter Tryz.func102,Tryz.ntmps102;by_cases hk1:kd=1
  ·subst hk1;have hE:Hid (exL (Ex.mk 1 n x e1 e2)=x::(exL e1++exL e2)):=Lib.hid rfl
   have hl:(exL (Ex.mk 1 n x e1 e2)).length=1+(exL e1).length+(exL e2).length:=by rw[hE.out];simp;omega
   rw[hl]at hB';have hl':=Lib.hid hl;clear hl;go_wp2_with fail;refine(jl F gu B c a l w0 w hU'.out (by have:=hB'.out;omega) x).mono ?_;rintro e5 w5 ⟨rfl,hU5,hW5⟩;clear q0 q2 q3 q4 ql;obtain⟨q0,q2,q3,q4,ql⟩:=hfc.out w5 hU5.bl;replace hU5:=Lib.hid hU5;replace hW5:=Lib.hid hW5;go_wp2_with fail;refine(c1.out w5 _ _ hU5.out (by have:=hB'.out;omega)).mono ?_
   rintro e6 w6 ⟨rfl,hU6,hW6⟩;clear q0 q2 q3 q4 ql;obtain⟨q0,q2,q3,q4,ql⟩:=hfc.out w6 hU6.bl;replace hU6:=Lib.hid hU6;replace hW6:=Lib.hid hW6;go_wp2_with fail;refine(c2.out w6 _ _ hU6.out (by have:=hB'.out;omega)).mono ?_;rintro e7 w7 ⟨rfl,hU7,hW7⟩;replace hU7:=Lib.hid hU7;replace hW7:=Lib.hid hW7;clear q0 q2 q3 q4 ql;go_wp2_with fail;go_end0
   exact⟨rfl,hU7.out.eq (by rw[hl'.out];omega) (by rw[hE.out,List.foldl_cons,List.foldl_append]),(hW5.out.trans hW6.out).trans hW7.out⟩
  ·have hE:Hid (exL (Ex.mk kd n x e1 e2)=exL e1++exL e2):=Lib.hid (by show(if kd=1 then [x]else [])++_=_;rw[if_neg hk1];rfl)
   have hl:(exL (Ex.mk kd n x e1 e2)).length=(exL e1).length+(exL e2).length:=by rw[hE.out];simp
   rw[hl]at hB';have hl':=Lib.hid hl
   have hk2:((kd:Int)==1)=false:=by simp;omega
   clear hl hk1;go_wp2_with fail;refine(c1.out w _ _ hU'.out (by have:=hB'.out;omega)).mono ?_;rintro e6 w6 ⟨rfl,hU6,hW6⟩;clear q0 q2 q3 q4 ql;obtain⟨q0,q2,q3,q4,ql⟩:=hfc.out w6 hU6.bl;replace hU6:=Lib.hid hU6;replace hW6:=Lib.hid hW6;go_wp2_with fail;refine(c2.out w6 _ _ hU6.out (by have:=hB'.out;omega)).mono ?_;rintro e7 w7 ⟨rfl,hU7,hW7⟩;replace hU7:=Lib.hid hU7
   replace hW7:=Lib.hid hW7;clear q0 q2 q3 q4 ql;go_wp2_with fail;go_end0;exact⟨rfl,hU7.out.eq (by rw[hl'.out];omega) (by rw[hE.out,List.foldl_append]),hW6.out.trans hW7.out⟩
theorem oI (F:FnV) (gu:Nat) (a l:List S) (w0:World):∀(e:Cn) (w:World) (B:Nat) (c:List S) (v:Value),bC w0 Evr e v→UsB F gu B c a l w0 w→B+(cnL e).length≤100000→
  Calls Tryz.prog 103 #[.pointer (some ⟨gu,0,none⟩),v] w fun e' w'=>e'= .returned (.tuple #[])∧UsB F gu (B+(cnL e).length) ((cnL e).foldl (addN F) c) a l w0 w'∧Writes [some gu] w w'
 | .nil,w,B,c,v,h,hU,hB=>by
  obtain rfl:v= .pointer none:=h;have hU':=Lib.hid hU;clear hU;go_enter Tryz.func103,Tryz.ntmps103;go_wp2_with fail;refine bodyPost_ret (results_none rfl _ _ _) rfl ?_;exact⟨rfl,hU'.out,Writes.refl _ _⟩
 | .mk kd e1 e2 p q nm,w,B,c,v,h,hU,hB=>by
  obtain⟨g,va,vb,vp,vq,rfl,-,-,hk7,hH,ha,hb,hp,hq⟩:=h
  have hfc:Hid (∀wx,Below w0.heap.size w0 wx→wx.cell? ⟨g,1,none⟩=some va∧wx.cell? ⟨g,2,none⟩=some vb∧wx.cell? ⟨g,3,none⟩=some vp∧wx.cell? ⟨g,4,none⟩=some vq∧g<wx.heap.size):=Lib.hid fun wx hx=>by have h:=hH.below hx hH.lt;exact⟨h.cell 1,h.cell 2,h.cell 3,h.cell 4,h.lt⟩
  have hU':=Lib.hid hU;have c1:=Lib.hid (fun(w:World) (B:Nat) (c:List S)=>iJ F gu a l w0 e1 w B c va ha);have c2:=Lib.hid (fun(w:World) (B:Nat) (c:List S)=>iJ F gu a l w0 e2 w B c vb hb);have c3:=Lib.hid (fun(w:World) (B:Nat) (c:List S)=>oI F gu a l w0 p w B c vp hp)
  have c4:=Lib.hid (fun(w:World) (B:Nat) (c:List S)=>oI F gu a l w0 q w B c vq hq);have hE:Hid (cnL (Cn.mk kd e1 e2 p q nm)=exL e1++(exL e2++(cnL p++cnL q))):=Lib.hid rfl
  have hl:(cnL (Cn.mk kd e1 e2 p q nm)).length=(exL e1).length+(exL e2).length+(cnL p).length+(cnL q).length:=by rw[hE.out];simp;omega
  rw[hl]at hB;have hB':=Lib.hid hB;have hl':=Lib.hid hl;clear hH ha hb hp hq hB hU hl;obtain⟨q1,q2,q3,q4,ql⟩:=hfc.out w hU'.out.bl;go_enter Tryz.func103,Tryz.ntmps103;go_wp2_with fail;refine(c1.out w _ _ hU'.out (by have:=hB'.out;omega)).mono ?_;rintro e5 w5 ⟨rfl,hU5,hW5⟩;clear q1 q2 q3 q4 ql;obtain⟨q1,q2,q3,q4,ql⟩:=hfc.out w5 hU5.bl;replace hU5:=Lib.hid hU5
  replace hW5:=Lib.hid hW5;go_wp2_with fail;refine(c2.out w5 _ _ hU5.out (by have:=hB'.out;omega)).mono ?_;rintro e6 w6 ⟨rfl,hU6,hW6⟩;clear q1 q2 q3 q4 ql;obtain⟨q1,q2,q3,q4,ql⟩:=hfc.out w6 hU6.bl;replace hU6:=Lib.hid hU6;replace hW6:=Lib.hid hW6;go_wp2_with fail;refine(c3.out w6 _ _ hU6.out (by have:=hB'.out;omega)).mono ?_;rintro e7 w7 ⟨rfl,hU7,hW7⟩;clear q1 q2 q3 q4 ql
  obtain⟨q1,q2,q3,q4,ql⟩:=hfc.out w7 hU7.bl;replace hU7:=Lib.hid hU7;replace hW7:=Lib.hid hW7;go_wp2_with fail;refine(c4.out w7 _ _ hU7.out (by have:=hB'.out;omega)).mono ?_;rintro e8 w8 ⟨rfl,hU8,hW8⟩;replace hU8:=Lib.hid hU8;replace hW8:=Lib.hid hW8;clear q1 q2 q3 q4 ql;go_wp2_with fail;go_end0
  exact⟨rfl,hU8.out.eq (by rw[hl'.out];omega) (by rw[hE.out,List.foldl_append,List.foldl_append,List.foldl_append]),((hW5.out.trans hW6.out).trans hW7.out).trans hW8.out⟩
end Go.Proofs.YtpndglghpojjkaaGreat
namespace Go.Proofs.YtpndglghpojjkaaGreat
open Go.RowKit
def CS (n m:Nat) (w0:World) (F:World→Prop) (L:Nat→Bool) (w:World):Prop:=(L n=false→Below w0.heap.size w0 w)∧(L n=true→L m=true∧F w)
section
variable {n m i:Nat} {w0 w w':World} {F:World→Prop} {L:Nat→Bool}
theorem CS.bel (h:CS n m w0 F L w) (hn:L n=false):Below w0.heap.size w0 w:=h.1 hn
theorem CS.go0 (hn:L n=false) (hi:n≠i) (hb:Below w0.heap.size w0 w'):CS n m w0 F (fun k=>k==i||L k) w':=
 ⟨fun _=>hb,fun e=>by simp[hi,hn]at e⟩
theorem CS.go (h:CS n m w0 F L w) (hn:L n=false) (hi:n≠i) (hb:Below w.heap.size w w'):CS n m w0 F (fun k=>k==i||L k) w':=CS.go0 hn hi ((h.1 hn).trans (hb.mono (h.1 hn).size))
theorem CS.last (hm:L m=true) (hF:F w'):CS n m w0 F (fun k=>k==n||L k) w':=⟨fun e=>by simp at e,fun _=>⟨by simp[hm],hF⟩⟩
theorem Till.DU {R:World→Value→Prop} {v:Value} (h:Till n R L w v) (hne:i≠m) (hG:i≠m→i≠n→Below w.heap.size w w') (hk:Below w.heap.size w w'→R w v→R w' v):Till n R (fun k=>k==i||L k) w' v:=fun e=>by
 simp only[Bool.or_eq_false_iff,beq_eq_false_iff_ne]at e;exact hk (hG hne (fun h=>e.1 h.symm)) (h e.2)
end
end Go.Proofs.YtpndglghpojjkaaGreat
namespace Go.Proofs.YtpndglghpojjkaaGreat
open Go.RowKit Go.Deep
def hlR (h:Hd):List S:=eY h++(exL h.e++(exL h.f++cnL h.c))
def hC (F:FnV) (c:List S) (h:Hd):List S:=(hlR h).foldl (addN F) c
def hA (a:List S) (h:Hd):List S:=(jd h).foldl bH a
def hLc (l:List S) (h:Hd):List S:=(iw h).foldl bH l
def hN (h:Hd):Nat:=(hlR h).length+1
def uN:Sl→Nat
 | .nil=>0
 | .cons h t e r=>hN h+(uN t+(uN e+uN r))
def uC (F:FnV):Sl→List S→List S
 | .nil,c=>c
 | .cons h t e r,c=>uC F r (uC F e (uC F t (hC F c h)))
def uA:Sl→List S→List S
 | .nil,a=>a
 | .cons h t e r,a=>uA r (uA e (uA t (hA a h)))
def uL:Sl→List S→List S
 | .nil,l=>l
 | .cons h t e r,l=>uL r (uL e (uL t (hLc l h)))
theorem UsB.Dn {F:FnV} {gu B:Nat} {c a l:List S} {y:S} {w0 w wq:World} {A':Option Addr} {c':Nat} (h:UsB F gu B c a l w0 w) (hb:Below w.heap.size w wq) (hr:Row wq wq.heap.size A' ((bH a y).map encStr)) (hc:(bH a y).length≤c'):
  UsB F gu (B+1) c (bH a y) l w0 (wq.setCell ⟨gu,5,none⟩ (.slice A' (bH a y).length c'))∧Writes [some gu] w (wq.setCell ⟨gu,5,none⟩ (.slice A' (bH a y).length c')):=by
 obtain⟨X1,X2,X3,k1,k2,k3,hH,⟨r1,e1⟩,⟨r2,e2⟩,r3,e3⟩:=h.row;have hH2:=hH.below hb hH.lt;have q:=hH2.cell 5;have hW:Writes [some gu] wq (wq.setCell ⟨gu,5,none⟩ (.slice A' (bH a y).length c')):=Writes.store wq (by simp) _;have hlen:=oG a y;have hl:=h.lc
 refine⟨⟨⟨X1,A',X3,k1,c',k3,?_,⟨(((r1.below hb).more hb.size).other q _).more hW.size,e1⟩,⟨(hr.other q _).more hW.size,hc⟩,(((r3.below hb).more hb.size).other q _).more hW.size,e3⟩,h.ok,(h.below hb).bl.trans (hW.below (h.below hb).bl.size (fun k hk=>by simp at hk;rw[hk];exact h.lo)),h.lo,by omega⟩,(Writes.of_below hb _).trans hW⟩
 have:=hH2.store 5 (.slice A' (bH a y).length c');simpa[usC]using this
theorem UsB.putL {F:FnV} {gu B:Nat} {c a l:List S} {y:S} {w0 w wq:World} {A':Option Addr} {c':Nat} (h:UsB F gu B c a l w0 w) (hb:Below w.heap.size w wq) (hr:Row wq wq.heap.size A' ((bH l y).map encStr)) (hc:(bH l y).length≤c'):
  UsB F gu (B+1) c a (bH l y) w0 (wq.setCell ⟨gu,6,none⟩ (.slice A' (bH l y).length c'))∧Writes [some gu] w (wq.setCell ⟨gu,6,none⟩ (.slice A' (bH l y).length c')):=by
 obtain⟨X1,X2,X3,k1,k2,k3,hH,⟨r1,e1⟩,⟨r2,e2⟩,r3,e3⟩:=h.row;have hH2:=hH.below hb hH.lt;have q:=hH2.cell 6;have hW:Writes [some gu] wq (wq.setCell ⟨gu,6,none⟩ (.slice A' (bH l y).length c')):=Writes.store wq (by simp) _;have hlen:=oG l y;have hl:=h.lc
 refine⟨⟨⟨X1,X2,A',k1,k2,c',?_,⟨(((r1.below hb).more hb.size).other q _).more hW.size,e1⟩,⟨(((r2.below hb).more hb.size).other q _).more hW.size,e2⟩,(hr.other q _).more hW.size,hc⟩,h.ok,(h.below hb).bl.trans (hW.below (h.below hb).bl.size (fun k hk=>by simp at hk;rw[hk];exact h.lo)),h.lo,by omega⟩,(Writes.of_below hb _).trans hW⟩
 have:=hH2.store 6 (.slice A' (bH l y).length c');simpa[usC]using this
def G6 (F:FnV) (gu:Nat) (w0:World) (s:Sl):Prop:=∀(w:World) (B:Nat) (c a l:List S) (v:Value),aQ w0 Evr s v→UsB F gu B c a l w0 w→B+uN s≤100000→
 Calls Tryz.prog 51 #[.pointer (some ⟨gu,0,none⟩),v] w fun e' w'=>e'= .returned (.tuple #[])∧UsB F gu (B+uN s) (uC F s c) (uA s a) (uL s l) w0 w'∧Writes [some gu] w w'
theorem Fv (F:FnV) (gu:Nat) (w0:World) (l0:Sl) (ih:∀l',l'.dep<l0.dep→G6 F gu w0 l'):G6 F gu w0 l0:=by
 intro w B c a l v hv hU hB;obtain⟨A,cc,us0,e,hlen,hlc,hR⟩:=hv.rest;subst e;obtain⟨n,hn⟩:∃y,y=l0.len:=⟨_,rfl⟩;rw[←hn]at hlen hlc⊢;have h0:Hid (dQ w0 Evr A 0 l0 us0):=Lib.hid hR;have hn0:Hid (0+l0.len=n):=Lib.hid (by rw[hn];simp);have hd0:Hid (l0.dep≤l0.dep):=Lib.hid (Nat.le_refl _);obtain⟨BN,hBN⟩:∃y,y=B+uN l0:=⟨_,rfl⟩
 obtain⟨C,hC⟩:∃y,y=uC F l0 c:=⟨_,rfl⟩;obtain⟨AA,hA⟩:∃y,y=uA l0 a:=⟨_,rfl⟩;obtain⟨LL,hL⟩:∃y,y=uL l0 l:=⟨_,rfl⟩;rw[←hBN]at hB;rw[←hBN,←hC,←hA,←hL];have he0:Hid (BN=B+uN l0∧C=uC F l0 c∧AA=uA l0 a∧LL=uL l0 l):=Lib.hid ⟨hBN,hC,hA,hL⟩;have hih:=Lib.hid ih;have hU0:=Lib.hid hU;have hB':=Lib.hid hB;clear hv hR hn ih hU hB hBN hC hA hL
 go_enter Tryz.func51,Tryz.ntmps51;go_wp2_with fail
 go_loopw [4] (fun i wl=>∃(k:Nat) (ls:Sl) (vs:List Value) (B':Nat) (c' a' l':List S),k≤n∧i= .int .i64 k∧Hid (dQ w0 Evr A k ls vs)∧Hid (UsB F gu B' c' a' l' w0 wl)∧Hid (BN=B'+uN ls∧C=uC F ls c'∧AA=uA ls a'∧LL=uL ls l')∧Hid (k+ls.len=n)∧Hid (ls.dep≤l0.dep)∧Hid (Writes [some gu] w wl)) (fun i _=>n-(intOf i).toNat)
 case atStart=>exact⟨0,l0,us0,B,c,a,l,by omega,rfl,h0,hU0,he0,hn0,hd0,Lib.hid (Writes.refl _ _)⟩
 clear h0 hn0 hd0 he0 hU0;obtain⟨k,ls,vs,B',c',a',l',hkn,rfl,hR,hU,he,hln,hdp,hW⟩:=hrel;rename World=>wl
 cases ls with
 |nil=>
  have hkn2:k=n:=by have:=hln.out;simp[Sl.len]at this;exact this
  subst hkn2;clear hR;go_wp2_with fail;go_end0;obtain⟨e1,e2,e3,e4⟩:=he.out;refine⟨rfl,?_,hW.out⟩;rw[e1,e2,e3,e4];exact hU.out
 |cons h t e r=>
  have hlt:k<n:=by have:=hln.out;simp only[Sl.len]at this;omega
  obtain⟨b,off,pe,pf,pc,Aa,ca,At,ct,Al,cl,us',hA,hh,ht,he',hc,hrest⟩:=hR.out.next;subst hA;have hrest':=Lib.hid hrest;have hdt:Hid (t.dep<l0.dep∧e.dep<l0.dep∧r.dep≤l0.dep):=Lib.hid (by have:=hdp.out;rw[Sl.lU]at this;omega);have hrl:Hid (k+1+r.len=n):=Lib.hid (by have:=hln.out;simp only[Sl.len]at this;omega)
  have hht:=Lib.hid (And.intro hh (And.intro ht he'));have hq:∀j (hj:j<10),wl.cell? ⟨b,off+k*10+j,none⟩=some ((stC h pe pf pc Aa At Al h.args.length ca t.len ct e.len cl)[j]'hj):=fun j hj=>(hU.out.bl.cell (p:=⟨b,off+k*10+j,none⟩) (lt_of_cell (hc j hj))).trans (hc j hj);obtain⟨na,hna⟩:∃y,y=h.args.length:=⟨_,rfl⟩;obtain⟨nt,hnt⟩:∃y,y=t.len:=⟨_,rfl⟩
  obtain⟨nl,hnl⟩:∃y,y=e.len:=⟨_,rfl⟩;simp only[←hna,←hnt,←hnl]at hq;rw[←hna,←hnt,←hnl]at hht;have q0:wl.cell? ⟨b,off+k*10,none⟩=some (.int .i64 h.k):=hq 0 (by decide);have q1:wl.cell? ⟨b,off+k*10+1,none⟩=some (.string (ay h.x)):=hq 1 (by decide);have q2:wl.cell? ⟨b,off+k*10+2,none⟩=some (.string (ay h.y)):=hq 2 (by decide)
  have q3:wl.cell? ⟨b,off+k*10+3,none⟩=some (.pointer pe):=hq 3 (by decide);have q4:wl.cell? ⟨b,off+k*10+4,none⟩=some (.pointer pf):=hq 4 (by decide);have q5:wl.cell? ⟨b,off+k*10+5,none⟩=some (.pointer pc):=hq 5 (by decide);have q6:wl.cell? ⟨b,off+k*10+6,none⟩=some (.slice Aa na ca):=hq 6 (by decide)
  have q7:wl.cell? ⟨b,off+k*10+7,none⟩=some (.slice At nt ct):=hq 7 (by decide);have q8:wl.cell? ⟨b,off+k*10+8,none⟩=some (.slice Al nl cl):=hq 8 (by decide);have q9:wl.cell? ⟨b,off+k*10+9,none⟩=some (.int .i64 h.at_):=hq 9 (by decide);have ql:=lt_of_cell q9
  have hbn:=aA wl (.cells #[.int .i64 h.k,.string (ay h.x),.string (ay h.y),.pointer pe,.pointer pf,.pointer pc,.slice Aa na ca,.slice At nt ct,.slice Al nl cl,.int .i64 h.at_] 63)
  obtain⟨ws,hws⟩:∃y,y=wl.alloc (.cells #[.int .i64 h.k,.string (ay h.x),.string (ay h.y),.pointer pe,.pointer pf,.pointer pc,.slice Aa na ca,.slice At nt ct,.slice Al nl cl,.int .i64 h.at_] 63):=⟨_,rfl⟩;obtain⟨gs,hgs⟩:∃y,y=wl.heap.size:=⟨_,rfl⟩
  have hHs:Holds ws gs 63 #[.int .i64 h.k,.string (ay h.x),.string (ay h.y),.pointer pe,.pointer pf,.pointer pc,.slice Aa na ca,.slice At nt ct,.slice Al nl cl,.int .i64 h.at_]:=by rw[hws,hgs];exact Holds.new wl _ _
  rw[←hws]at hbn
  have hgu:gs≠gu:=by have:=hU.out.row;obtain⟨_,_,_,_,_,_,hH,-⟩:=this;have:=hH.lt;omega
  have hUs:=Lib.hid (hU.out.below hbn);have hWs:=Lib.hid (hW.out.trans (Writes.of_below hbn [some gu]));have hfo:=Lib.hid hws.symm;have hgo:=Lib.hid hgs.symm;have qJ:=Lib.hid hHs;have hna':=Lib.hid hna;clear hh ht he' hc hrest hq hna hnt hnl hR hU hW hbn hws hgs hHs;go_upto_region 4 with(fail);rw[hfo.out,hgo.out];clear hfo hgo q0 q1 q2 q3 q4 q5 q6 q7 q8 q9 ql
  have s0:ws.cell? ⟨gs,0,none⟩=some (.int .i64 h.k):=qJ.out.cell 0;have sl:=qJ.out.lt;go_upto_block 2 with fail;go_cut [] (fun wx=>Hid (UsB F gu (B'+((eY h).length+1)) ((eY h).foldl (addN F) c') (hA a' h) (hLc l' h) w0 wx∧Writes [some gu] ws wx))
  case' first=>
   rcases(show h.k=0∨h.k=4∨h.k=1∨h.k=6∨h.k=7∨h.k=8∨(h.k=2∨h.k=3∨h.k=5∨9≤h.k)by omega)with hk|hk|hk|hk|hk|hk|hk
   ·have d1:Hid (eY h= [h.x]∧jd h= []∧iw h= []):=Lib.hid (by unfold eY jd iw;simp[hk])
    have b0:((h.k:Int)==0)=true:=by simp;omega
    have b4:((h.k:Int)==4)=false:=by simp;omega
    have b1:((h.k:Int)==1)=false:=by simp;omega
    have b6:((h.k:Int)==6)=false:=by simp;omega
    have b7:((h.k:Int)==7)=false:=by simp;omega
    have b8:((h.k:Int)==8)=false:=by simp;omega
    have s1:ws.cell? ⟨gs,1,none⟩=some (.string (ay h.x)):=qJ.out.cell 1;clear hk;go_wp2_with fail;refine(jl F gu B' c' a' l' w0 ws hUs.out (by have:=he.out.1;have:=hB'.out;omega) h.x).mono ?_;rintro e5 w5 ⟨rfl,hU5,hW5⟩
    have hend:Hid (UsB F gu (B'+((eY h).length+1)) ((eY h).foldl (addN F) c') (hA a' h) (hLc l' h) w0 w5∧Writes [some gu] ws w5):=Lib.hid (by unfold hA hLc;rw[d1.out.1,d1.out.2.1,d1.out.2.2];exact⟨hU5.more (by simp),hW5⟩);clear hU5 hW5 d1;go_wp2_with fail
    go_meet
    case rel=>exact hend
   ·have d1:Hid (eY h= [h.x]∧jd h= []∧iw h= []):=Lib.hid (by unfold eY jd iw;simp[hk])
    have b0:((h.k:Int)==0)=false:=by simp;omega
    have b4:((h.k:Int)==4)=true:=by simp;omega
    have b1:((h.k:Int)==1)=false:=by simp;omega
    have b6:((h.k:Int)==6)=false:=by simp;omega
    have b7:((h.k:Int)==7)=false:=by simp;omega
    have b8:((h.k:Int)==8)=false:=by simp;omega
    have s1:ws.cell? ⟨gs,1,none⟩=some (.string (ay h.x)):=qJ.out.cell 1;clear hk;go_wp2_with fail;refine(jl F gu B' c' a' l' w0 ws hUs.out (by have:=he.out.1;have:=hB'.out;omega) h.x).mono ?_;rintro e5 w5 ⟨rfl,hU5,hW5⟩
    have hend:Hid (UsB F gu (B'+((eY h).length+1)) ((eY h).foldl (addN F) c') (hA a' h) (hLc l' h) w0 w5∧Writes [some gu] ws w5):=Lib.hid (by unfold hA hLc;rw[d1.out.1,d1.out.2.1,d1.out.2.2];exact⟨hU5.more (by simp),hW5⟩);clear hU5 hW5 d1;go_wp2_with fail
    go_meet
    case rel=>exact hend
   ·have d1:Hid (eY h= [h.y]∧jd h= []∧iw h= []):=Lib.hid (by unfold eY jd iw;simp[hk])
    have b0:((h.k:Int)==0)=false:=by simp;omega
    have b4:((h.k:Int)==4)=false:=by simp;omega
    have b1:((h.k:Int)==1)=true:=by simp;omega
    have b6:((h.k:Int)==6)=false:=by simp;omega
    have b7:((h.k:Int)==7)=false:=by simp;omega
    have b8:((h.k:Int)==8)=false:=by simp;omega
    have s1:ws.cell? ⟨gs,2,none⟩=some (.string (ay h.y)):=qJ.out.cell 2;clear hk;go_wp2_with fail;refine(jl F gu B' c' a' l' w0 ws hUs.out (by have:=he.out.1;have:=hB'.out;omega) h.y).mono ?_;rintro e5 w5 ⟨rfl,hU5,hW5⟩
    have hend:Hid (UsB F gu (B'+((eY h).length+1)) ((eY h).foldl (addN F) c') (hA a' h) (hLc l' h) w0 w5∧Writes [some gu] ws w5):=Lib.hid (by unfold hA hLc;rw[d1.out.1,d1.out.2.1,d1.out.2.2];exact⟨hU5.more (by simp),hW5⟩);clear hU5 hW5 d1;go_wp2_with fail
    go_meet
    case rel=>exact hend
   ·have d1:Hid (eY h= [h.x]∧jd h= [h.y]∧iw h= []):=Lib.hid (by unfold eY jd iw;simp[hk])
    have b0:((h.k:Int)==0)=false:=by simp;omega
    have b4:((h.k:Int)==4)=false:=by simp;omega
    have b1:((h.k:Int)==1)=false:=by simp;omega
    have b6:((h.k:Int)==6)=true:=by simp;omega
    have b7:((h.k:Int)==7)=false:=by simp;omega
    have b8:((h.k:Int)==8)=false:=by simp;omega
    have s1:ws.cell? ⟨gs,1,none⟩=some (.string (ay h.x)):=qJ.out.cell 1;clear hk;go_wp2_with fail;refine(jl F gu B' c' a' l' w0 ws hUs.out (by have:=he.out.1;have:=hB'.out;omega) h.x).mono ?_;rintro e5 w5 ⟨rfl,hU5,hW5⟩;replace hU5:=Lib.hid hU5;replace hW5:=Lib.hid hW5;obtain⟨wW,hwW⟩:∃z,z=w5.drew:=⟨_,rfl⟩
    have hbd:Below w5.heap.size w5 wW:=by rw[hwW];exact(Below.refl _ w5).drew
    obtain⟨y,hy⟩:∃z,z=h.y:=⟨_,rfl⟩;obtain⟨lA,hlA⟩:∃z,z=a':=⟨_,rfl⟩;have hUW:=hU5.out.below hbd;have hWW:=Lib.hid (hW5.out.trans (Writes.of_below hbd [some gu]));have hSW:=hWW.out.holds qJ.out (by simp;exact hgu);obtain⟨Y1,XA,Y3,j1,kA,j3,hHu,-,⟨rA,eA⟩,-⟩:=hUW.row
    have hfc:Hid (∀wx,Below wW.heap.size wW wx→wx.cell? ⟨gu,5,none⟩=some (.slice XA lA.length kA)∧gu<wx.heap.size∧wx.cell? ⟨gs,2,none⟩=some (.string (ay y))∧gs<wx.heap.size∧wx.frozen? ⟨gu,5,none⟩=false):=Lib.hid fun wx hx=>by have g1:=hHu.below hx hHu.lt;have g2:=hSW.below hx hSW.lt;rw[hlA,hy];exact⟨g1.cell 5,g1.lt,g2.cell 2,g2.lt,g1.frozen 5⟩
    have hadd:Hid (∀wx,Below wW.heap.size wW wx→Calls Tryz.prog 101 #[.slice XA lA.length kA,.string (ay y)] wx (Fj wx (bH lA y))):=Lib.hid fun wx hx=>by rw[hlA];exact add_any wx XA a'.length kA a' y rfl (by have h1:=hUW.lc;have h2:=he.out.1;have h3:=hB'.out;simp only[uN,hN,hlR]at h2;have h4:=d1.out.1;simp[h4]at h2;omega) eA ((rA.below hx).more hx.size)
    have hgo:Hid (Below wW.heap.size wW w5.drew):=Lib.hid (by rw[←hwW];exact Below.refl _ _);replace hUW:=Lib.hid hUW;have hy':=Lib.hid hy;have hlA':=Lib.hid hlA;clear hwW hbd hSW hHu rA eA hy hlA;go_wp2_with fail
    refine aC ((eqv (.pointer (some ⟨gu,0,none⟩)))::(eqv (.pointer (some ⟨gu,0,none⟩)))::(eqv (.pointer (some ⟨gu,0,none⟩)))::(eqv (.pointer (some ⟨gu,5,none⟩)))::(eqv (.slice XA lA.length kA))::(eqv (.pointer (some ⟨gs,2,none⟩)))::(eqv (.string (ay y)))::(fun L w v=>Till 10 (fun w v=>∃A' c',v= .slice A' (bH lA y).length c'∧Row w w.heap.size A' ((bH lA y).map encStr)∧(bH lA y).length≤c') L w v)::(eqv (.pointer (some ⟨gu,0,none⟩)))::(eqv (.pointer (some ⟨gu,5,none⟩)))::(fun _ _ _=>True)::[])
     (⟨[(0,none)],0,[10]⟩::⟨[(0,none)],0,[10]⟩::⟨[(39,some 1)],0,[10]⟩::⟨[(40,some 2)],0,[10]⟩::⟨[(41,some 3)],0,[10]⟩::⟨[(5,none)],0,[10]⟩::⟨[(43,some 5)],0,[10]⟩::⟨[(42,some 4),(44,some 6)],0,[10]⟩::⟨[(38,some 0)],0,[10]⟩::⟨[(46,some 8)],0,[10]⟩::⟨[(47,some 9),(45,some 7)],0,[]⟩::[])
     (no::no::no::no::no::no::no::no::no::no::no::no::no::no::no::no::no::no::no::no::no::no::no::no::no::no::no::no::no::no::no::no::no::no::no::no::no::no::so 0::so 1::so 2::so 3::so 4::so 5::so 6::so 7::so 8::so 9::[])
     (fun L w'=>CS 10 7 wW (fun w'=>∃wq A' c',Below wW.heap.size wW wq∧Row wq wq.heap.size A' ((bH lA y).map encStr)∧(bH lA y).length≤c'∧w'=wq.setCell ⟨gu,5,none⟩ (.slice A' (bH lA y).length c')) L w') (fun i w w'=>i≠7→i≠10→Below w.heap.size w w') ?mixK12us5_38 ?okK12us5_38 ?tabK12us5_38 ?frK12us5_38 ?inK12us5_38 ?keptK12us5_38 ?startK12us5_38 ?eachK12us5_38 ?finK12us5_38
    case mixK12us5_38|okK12us5_38|tabK12us5_38|frK12us5_38=>kernel_rfl
    case inK12us5_38=>rfl
    case keptK12us5_38=>exact⟨fun _ _ _ _ _ _ _ _ _ _ _ h=>h,fun _ _ _ _ _ _ _ _ _ _ _ h=>h,fun _ _ _ _ _ _ _ _ _ _ _ h=>h,fun _ _ _ _ _ _ _ _ _ _ _ h=>h,fun _ _ _ _ _ _ _ _ _ _ _ h=>h,fun _ _ _ _ _ _ _ _ _ _ _ h=>h,fun _ _ _ _ _ _ _ _ _ _ _ h=>h,fun i hne hrd L w w' v hLi hC hC' hG h=>Till.DU h hne hG (fun hb ⟨A',c',e,h,hc⟩=>⟨A',c',e,(h.below hb).more hb.size,hc⟩),fun _ _ _ _ _ _ _ _ _ _ _ h=>h,fun _ _ _ _ _ _ _ _ _ _ _ h=>h,fun _ _ _ _ _ _ _ _ _ _ _ h=>h,trivial⟩
    case startK12us5_38=>exact⟨fun _=>hgo.out,fun e=>by simp at e⟩
    case eachK12us5_38=>
     repeat' first|exact trivial|refine And.intro ?_ ?_
     ·intro w L f hC hLi hLd hLn ⟨d,_⟩;refine au.live rfl ?_;exact aj (v:=f 0) rfl (hC.go (i:=0) (hLn 10 (by simp)) (by decide) (Below.refl _ _)) (fun _ _=>Below.refl _ _) d
     ·intro w L f hC hLi hLd hLn ⟨d,_⟩;refine au.live rfl ?_;exact aj (v:=f 0) rfl (hC.go (i:=1) (hLn 10 (by simp)) (by decide) (Below.refl _ _)) (fun _ _=>Below.refl _ _) d
     ·intro w L f hC hLi hLd hLn ⟨a,_⟩;change _=_ at a;refine au.live rfl ?_;obtain⟨x1,x2,x3,x4,x5⟩:=hfc.out w (hC.bel (hLn 10 (by simp)));obtain⟨ev,ec,ef⟩:=evs f;refine aj ?_ (hC.go (i:=2) (hLn 10 (by simp)) (by decide) (Below.refl _ _)) (fun _ _=>Below.refl _ _) rfl;go_simp
     ·intro w L f hC hLi hLd hLn ⟨a,_⟩;change _=_ at a;refine au.live rfl ?_;obtain⟨x1,x2,x3,x4,x5⟩:=hfc.out w (hC.bel (hLn 10 (by simp)));obtain⟨ev,ec,ef⟩:=evs f;refine aj ?_ (hC.go (i:=3) (hLn 10 (by simp)) (by decide) (Below.refl _ _)) (fun _ _=>Below.refl _ _) rfl;go_simp
     ·intro w L f hC hLi hLd hLn ⟨a,_⟩;change _=_ at a;refine au.live rfl ?_;obtain⟨x1,x2,x3,x4,x5⟩:=hfc.out w (hC.bel (hLn 10 (by simp)));obtain⟨ev,ec,ef⟩:=evs f;refine aj ?_ (hC.go (i:=4) (hLn 10 (by simp)) (by decide) (Below.refl _ _)) (fun _ _=>Below.refl _ _) rfl;go_simp
     ·intro w L f hC hLi hLd hLn ⟨a,_⟩;change _=_ at a;refine au.live rfl ?_;obtain⟨x1,x2,x3,x4,x5⟩:=hfc.out w (hC.bel (hLn 10 (by simp)));obtain⟨ev,ec,ef⟩:=evs f;refine aj ?_ (hC.go (i:=5) (hLn 10 (by simp)) (by decide) (Below.refl _ _)) (fun _ _=>Below.refl _ _) rfl;go_simp
     ·intro w L f hC hLi hLd hLn ⟨a,_⟩;change _=_ at a;refine au.live rfl ?_;obtain⟨x1,x2,x3,x4,x5⟩:=hfc.out w (hC.bel (hLn 10 (by simp)));obtain⟨ev,ec,ef⟩:=evs f;refine aj ?_ (hC.go (i:=6) (hLn 10 (by simp)) (by decide) (Below.refl _ _)) (fun _ _=>Below.refl _ _) rfl;go_simp
     ·intro w L f hC hLi hLd hLn ⟨a,b,_⟩;change _=_ at a b;refine au.live rfl ?_;obtain⟨ev,ec,ef⟩:=evs f;refine aF (f:=101) (args:= #[.slice XA lA.length kA,.string (ay y)]) (w:=w) (by go_simp) (hadd.out w (hC.bel (hLn 10 (by simp)))) ?_;rintro e w1 ⟨⟨v,he,A',c',ev',hr,hc⟩,hB⟩;exact⟨v,he,hC.go (i:=7) (hLn 10 (by simp)) (by decide) hB,fun h=>absurd rfl h,fun _=>⟨A',c',ev',hr,hc⟩⟩
     ·intro w L f hC hLi hLd hLn ⟨a,_⟩;change _=_ at a;refine au.live rfl ?_;obtain⟨x1,x2,x3,x4,x5⟩:=hfc.out w (hC.bel (hLn 10 (by simp)));obtain⟨ev,ec,ef⟩:=evs f;refine aj ?_ (hC.go (i:=8) (hLn 10 (by simp)) (by decide) (Below.refl _ _)) (fun _ _=>Below.refl _ _) rfl;go_simp
     ·intro w L f hC hLi hLd hLn ⟨a,_⟩;change _=_ at a;refine au.live rfl ?_;obtain⟨x1,x2,x3,x4,x5⟩:=hfc.out w (hC.bel (hLn 10 (by simp)));obtain⟨ev,ec,ef⟩:=evs f;refine aj ?_ (hC.go (i:=9) (hLn 10 (by simp)) (by decide) (Below.refl _ _)) (fun _ _=>Below.refl _ _) rfl;go_simp
     ·intro w L f hC hLi hLd hLn ⟨a,d45,_⟩;change _=_ at a;refine au.live rfl ?_;obtain⟨A',c',e45,hr,hc⟩:=d45 hLi;obtain⟨x1,x2,x3,x4,x5⟩:=hfc.out w (hC.bel hLi);obtain⟨ev,ec,ef⟩:=evs f;refine dK (w':=w.setCell ⟨gu,5,none⟩ (.slice A' (bH lA y).length c')) ?_ (CS.last (hLd 7 (by decide)) ⟨w,A',c',hC.bel hLi,hr,hc,rfl⟩) (fun _ h=>absurd rfl h) trivial;go_simp
    intro x w' hC hV
    obtain⟨-,wq,A',cz,hbq,hrq,hcq,hwq⟩:=hC.2 rfl;have gZ:=hUW.out.Dn hbq (by rw[←hlA'.out];exact hrq) (by rw[←hlA'.out];exact hcq);rw[←hlA'.out,←hwq]at gZ
    have hend:Hid (UsB F gu (B'+((eY h).length+1)) ((eY h).foldl (addN F) c') (hA a' h) (hLc l' h) w0 w'∧Writes [some gu] ws w'):=Lib.hid (by
     have g1:=gZ.1;rw[hlA'.out,hy'.out]at g1;unfold hA hLc;rw[d1.out.1,d1.out.2.1,d1.out.2.2]
     exact⟨g1,hWW.out.trans gZ.2⟩)
    simp only[framed];clear hC hV gZ hbq hrq hcq hwq hfc hadd hgo;go_wp2_with fail
    go_meet
    case rel=>exact hend
   ·have d1:Hid (eY h= []∧jd h= [h.y]∧iw h= []):=Lib.hid (by unfold eY jd iw;simp[hk])
    have b0:((h.k:Int)==0)=false:=by simp;omega
    have b4:((h.k:Int)==4)=false:=by simp;omega
    have b1:((h.k:Int)==1)=false:=by simp;omega
    have b6:((h.k:Int)==6)=false:=by simp;omega
    have b7:((h.k:Int)==7)=true:=by simp;omega
    have b8:((h.k:Int)==8)=false:=by simp;omega
    clear hk;obtain⟨wW,hwW⟩:∃z,z=ws.drew:=⟨_,rfl⟩
    have hbd:Below ws.heap.size ws wW:=by rw[hwW];exact(Below.refl _ ws).drew
    obtain⟨y,hy⟩:∃z,z=h.y:=⟨_,rfl⟩;obtain⟨lA,hlA⟩:∃z,z=a':=⟨_,rfl⟩;have hUW:=hUs.out.below hbd;have hWW:=Lib.hid ((Lib.hid (Writes.refl [some gu] ws)).out.trans (Writes.of_below hbd [some gu]));have hSW:=hWW.out.holds qJ.out (by simp;exact hgu);obtain⟨Y1,XA,Y3,j1,kA,j3,hHu,-,⟨rA,eA⟩,-⟩:=hUW.row
    have hfc:Hid (∀wx,Below wW.heap.size wW wx→wx.cell? ⟨gu,5,none⟩=some (.slice XA lA.length kA)∧gu<wx.heap.size∧wx.cell? ⟨gs,2,none⟩=some (.string (ay y))∧gs<wx.heap.size∧wx.frozen? ⟨gu,5,none⟩=false):=Lib.hid fun wx hx=>by have g1:=hHu.below hx hHu.lt;have g2:=hSW.below hx hSW.lt;rw[hlA,hy];exact⟨g1.cell 5,g1.lt,g2.cell 2,g2.lt,g1.frozen 5⟩
    have hadd:Hid (∀wx,Below wW.heap.size wW wx→Calls Tryz.prog 101 #[.slice XA lA.length kA,.string (ay y)] wx (Fj wx (bH lA y))):=Lib.hid fun wx hx=>by rw[hlA];exact add_any wx XA a'.length kA a' y rfl (by have h1:=hUW.lc;have h2:=he.out.1;have h3:=hB'.out;simp only[uN,hN,hlR]at h2;have h4:=d1.out.1;simp[h4]at h2;omega) eA ((rA.below hx).more hx.size)
    have hgo:Hid (Below wW.heap.size wW ws.drew):=Lib.hid (by rw[←hwW];exact Below.refl _ _);replace hUW:=Lib.hid hUW;have hy':=Lib.hid hy;have hlA':=Lib.hid hlA;clear hwW hbd hSW hHu rA eA hy hlA;go_wp2_with fail
    refine aC ((eqv (.pointer (some ⟨gu,0,none⟩)))::(eqv (.pointer (some ⟨gu,0,none⟩)))::(eqv (.pointer (some ⟨gu,0,none⟩)))::(eqv (.pointer (some ⟨gu,5,none⟩)))::(eqv (.slice XA lA.length kA))::(eqv (.pointer (some ⟨gs,2,none⟩)))::(eqv (.string (ay y)))::(fun L w v=>Till 10 (fun w v=>∃A' c',v= .slice A' (bH lA y).length c'∧Row w w.heap.size A' ((bH lA y).map encStr)∧(bH lA y).length≤c') L w v)::(eqv (.pointer (some ⟨gu,0,none⟩)))::(eqv (.pointer (some ⟨gu,5,none⟩)))::(fun _ _ _=>True)::[])
     (⟨[(0,none)],0,[10]⟩::⟨[(0,none)],0,[10]⟩::⟨[(51,some 1)],0,[10]⟩::⟨[(52,some 2)],0,[10]⟩::⟨[(53,some 3)],0,[10]⟩::⟨[(5,none)],0,[10]⟩::⟨[(55,some 5)],0,[10]⟩::⟨[(54,some 4),(56,some 6)],0,[10]⟩::⟨[(50,some 0)],0,[10]⟩::⟨[(58,some 8)],0,[10]⟩::⟨[(59,some 9),(57,some 7)],0,[]⟩::[])
     (no::no::no::no::no::no::no::no::no::no::no::no::no::no::no::no::no::no::no::no::no::no::no::no::no::no::no::no::no::no::no::no::no::no::no::no::no::no::no::no::no::no::no::no::no::no::no::no::no::no::so 0::so 1::so 2::so 3::so 4::so 5::so 6::so 7::so 8::so 9::[])
     (fun L w'=>CS 10 7 wW (fun w'=>∃wq A' c',Below wW.heap.size wW wq∧Row wq wq.heap.size A' ((bH lA y).map encStr)∧(bH lA y).length≤c'∧w'=wq.setCell ⟨gu,5,none⟩ (.slice A' (bH lA y).length c')) L w') (fun i w w'=>i≠7→i≠10→Below w.heap.size w w') ?mixK14us5_50 ?okK14us5_50 ?tabK14us5_50 ?frK14us5_50 ?inK14us5_50 ?keptK14us5_50 ?startK14us5_50 ?eachK14us5_50 ?finK14us5_50
    case mixK14us5_50|okK14us5_50|tabK14us5_50|frK14us5_50=>kernel_rfl
    case inK14us5_50=>rfl
    case keptK14us5_50=>exact⟨fun _ _ _ _ _ _ _ _ _ _ _ h=>h,fun _ _ _ _ _ _ _ _ _ _ _ h=>h,fun _ _ _ _ _ _ _ _ _ _ _ h=>h,fun _ _ _ _ _ _ _ _ _ _ _ h=>h,fun _ _ _ _ _ _ _ _ _ _ _ h=>h,fun _ _ _ _ _ _ _ _ _ _ _ h=>h,fun _ _ _ _ _ _ _ _ _ _ _ h=>h,fun i hne hrd L w w' v hLi hC hC' hG h=>Till.DU h hne hG (fun hb ⟨A',c',e,h,hc⟩=>⟨A',c',e,(h.below hb).more hb.size,hc⟩),fun _ _ _ _ _ _ _ _ _ _ _ h=>h,fun _ _ _ _ _ _ _ _ _ _ _ h=>h,fun _ _ _ _ _ _ _ _ _ _ _ h=>h,trivial⟩
    case startK14us5_50=>exact⟨fun _=>hgo.out,fun e=>by simp at e⟩
    case eachK14us5_50=>
     repeat' first|exact trivial|refine And.intro ?_ ?_
     ·intro w L f hC hLi hLd hLn ⟨d,_⟩;refine au.live rfl ?_;exact aj (v:=f 0) rfl (hC.go (i:=0) (hLn 10 (by simp)) (by decide) (Below.refl _ _)) (fun _ _=>Below.refl _ _) d
     ·intro w L f hC hLi hLd hLn ⟨d,_⟩;refine au.live rfl ?_;exact aj (v:=f 0) rfl (hC.go (i:=1) (hLn 10 (by simp)) (by decide) (Below.refl _ _)) (fun _ _=>Below.refl _ _) d
     ·intro w L f hC hLi hLd hLn ⟨a,_⟩;change _=_ at a;refine au.live rfl ?_;obtain⟨x1,x2,x3,x4,x5⟩:=hfc.out w (hC.bel (hLn 10 (by simp)));obtain⟨ev,ec,ef⟩:=evs f;refine aj ?_ (hC.go (i:=2) (hLn 10 (by simp)) (by decide) (Below.refl _ _)) (fun _ _=>Below.refl _ _) rfl;go_simp
     ·intro w L f hC hLi hLd hLn ⟨a,_⟩;change _=_ at a;refine au.live rfl ?_;obtain⟨x1,x2,x3,x4,x5⟩:=hfc.out w (hC.bel (hLn 10 (by simp)));obtain⟨ev,ec,ef⟩:=evs f;refine aj ?_ (hC.go (i:=3) (hLn 10 (by simp)) (by decide) (Below.refl _ _)) (fun _ _=>Below.refl _ _) rfl;go_simp
     ·intro w L f hC hLi hLd hLn ⟨a,_⟩;change _=_ at a;refine au.live rfl ?_;obtain⟨x1,x2,x3,x4,x5⟩:=hfc.out w (hC.bel (hLn 10 (by simp)));obtain⟨ev,ec,ef⟩:=evs f;refine aj ?_ (hC.go (i:=4) (hLn 10 (by simp)) (by decide) (Below.refl _ _)) (fun _ _=>Below.refl _ _) rfl;go_simp
     ·intro w L f hC hLi hLd hLn ⟨a,_⟩;change _=_ at a;refine au.live rfl ?_;obtain⟨x1,x2,x3,x4,x5⟩:=hfc.out w (hC.bel (hLn 10 (by simp)));obtain⟨ev,ec,ef⟩:=evs f;refine aj ?_ (hC.go (i:=5) (hLn 10 (by simp)) (by decide) (Below.refl _ _)) (fun _ _=>Below.refl _ _) rfl;go_simp
     ·intro w L f hC hLi hLd hLn ⟨a,_⟩;change _=_ at a;refine au.live rfl ?_;obtain⟨x1,x2,x3,x4,x5⟩:=hfc.out w (hC.bel (hLn 10 (by simp)));obtain⟨ev,ec,ef⟩:=evs f;refine aj ?_ (hC.go (i:=6) (hLn 10 (by simp)) (by decide) (Below.refl _ _)) (fun _ _=>Below.refl _ _) rfl;go_simp
     ·intro w L f hC hLi hLd hLn ⟨a,b,_⟩;change _=_ at a b;refine au.live rfl ?_;obtain⟨ev,ec,ef⟩:=evs f;refine aF (f:=101) (args:= #[.slice XA lA.length kA,.string (ay y)]) (w:=w) (by go_simp) (hadd.out w (hC.bel (hLn 10 (by simp)))) ?_;rintro e w1 ⟨⟨v,he,A',c',ev',hr,hc⟩,hB⟩;exact⟨v,he,hC.go (i:=7) (hLn 10 (by simp)) (by decide) hB,fun h=>absurd rfl h,fun _=>⟨A',c',ev',hr,hc⟩⟩
     ·intro w L f hC hLi hLd hLn ⟨a,_⟩;change _=_ at a;refine au.live rfl ?_;obtain⟨x1,x2,x3,x4,x5⟩:=hfc.out w (hC.bel (hLn 10 (by simp)));obtain⟨ev,ec,ef⟩:=evs f;refine aj ?_ (hC.go (i:=8) (hLn 10 (by simp)) (by decide) (Below.refl _ _)) (fun _ _=>Below.refl _ _) rfl;go_simp
     ·intro w L f hC hLi hLd hLn ⟨a,_⟩;change _=_ at a;refine au.live rfl ?_;obtain⟨x1,x2,x3,x4,x5⟩:=hfc.out w (hC.bel (hLn 10 (by simp)));obtain⟨ev,ec,ef⟩:=evs f;refine aj ?_ (hC.go (i:=9) (hLn 10 (by simp)) (by decide) (Below.refl _ _)) (fun _ _=>Below.refl _ _) rfl;go_simp
     ·intro w L f hC hLi hLd hLn ⟨a,d57,_⟩;change _=_ at a;refine au.live rfl ?_;obtain⟨A',c',e45,hr,hc⟩:=d57 hLi;obtain⟨x1,x2,x3,x4,x5⟩:=hfc.out w (hC.bel hLi);obtain⟨ev,ec,ef⟩:=evs f;refine dK (w':=w.setCell ⟨gu,5,none⟩ (.slice A' (bH lA y).length c')) ?_ (CS.last (hLd 7 (by decide)) ⟨w,A',c',hC.bel hLi,hr,hc,rfl⟩) (fun _ h=>absurd rfl h) trivial;go_simp
    intro x w' hC hV
    obtain⟨-,wq,A',cz,hbq,hrq,hcq,hwq⟩:=hC.2 rfl;have gZ:=hUW.out.Dn hbq (by rw[←hlA'.out];exact hrq) (by rw[←hlA'.out];exact hcq);rw[←hlA'.out,←hwq]at gZ
    have hend:Hid (UsB F gu (B'+((eY h).length+1)) ((eY h).foldl (addN F) c') (hA a' h) (hLc l' h) w0 w'∧Writes [some gu] ws w'):=Lib.hid (by
     have g1:=gZ.1;rw[hlA'.out,hy'.out]at g1;unfold hA hLc;rw[d1.out.1,d1.out.2.1,d1.out.2.2]
     exact⟨g1,hWW.out.trans gZ.2⟩)
    simp only[framed];clear hC hV gZ hbq hrq hcq hwq hfc hadd hgo;go_wp2_with fail
    go_meet
    case rel=>exact hend
   ·have d1:Hid (eY h=h.x::agR h.args∧jd h= []∧iw h= [h.y]):=Lib.hid (by unfold eY jd iw;simp[hk])
    have b0:((h.k:Int)==0)=false:=by simp;omega
    have b4:((h.k:Int)==4)=false:=by simp;omega
    have b1:((h.k:Int)==1)=false:=by simp;omega
    have b6:((h.k:Int)==6)=false:=by simp;omega
    have b7:((h.k:Int)==7)=false:=by simp;omega
    have b8:((h.k:Int)==8)=true:=by simp;omega
    have s1:ws.cell? ⟨gs,1,none⟩=some (.string (ay h.x)):=qJ.out.cell 1;clear hk;go_wp2_with fail;refine(jl F gu B' c' a' l' w0 ws hUs.out (by have:=he.out.1;have:=hB'.out;omega) h.x).mono ?_;rintro e5 w5 ⟨rfl,hU5,hW5⟩;replace hU5:=Lib.hid hU5;replace hW5:=Lib.hid hW5;obtain⟨wW,hwW⟩:∃z,z=w5.drew:=⟨_,rfl⟩
    have hbd:Below w5.heap.size w5 wW:=by rw[hwW];exact(Below.refl _ w5).drew
    obtain⟨y,hy⟩:∃z,z=h.y:=⟨_,rfl⟩;obtain⟨lA,hlA⟩:∃z,z=l':=⟨_,rfl⟩;have hUW:=hU5.out.below hbd;have hWW:=Lib.hid (hW5.out.trans (Writes.of_below hbd [some gu]));have hSW:=hWW.out.holds qJ.out (by simp;exact hgu);obtain⟨Y1,Y2,XA,j1,j2,kA,hHu,-,-,rA,eA⟩:=hUW.row
    have hfc:Hid (∀wx,Below wW.heap.size wW wx→wx.cell? ⟨gu,6,none⟩=some (.slice XA lA.length kA)∧gu<wx.heap.size∧wx.cell? ⟨gs,2,none⟩=some (.string (ay y))∧gs<wx.heap.size∧wx.frozen? ⟨gu,6,none⟩=false):=Lib.hid fun wx hx=>by have g1:=hHu.below hx hHu.lt;have g2:=hSW.below hx hSW.lt;rw[hlA,hy];exact⟨g1.cell 6,g1.lt,g2.cell 2,g2.lt,g1.frozen 6⟩
    have hadd:Hid (∀wx,Below wW.heap.size wW wx→Calls Tryz.prog 101 #[.slice XA lA.length kA,.string (ay y)] wx (Fj wx (bH lA y))):=Lib.hid fun wx hx=>by rw[hlA];exact add_any wx XA l'.length kA l' y rfl (by have h1:=hUW.lc;have h2:=he.out.1;have h3:=hB'.out;simp only[uN,hN,hlR]at h2;have h4:=d1.out.1;simp[h4]at h2;omega) eA ((rA.below hx).more hx.size)
    have hgo:Hid (Below wW.heap.size wW w5.drew):=Lib.hid (by rw[←hwW];exact Below.refl _ _);replace hUW:=Lib.hid hUW;have hy':=Lib.hid hy;have hlA':=Lib.hid hlA;clear hwW hbd hSW hHu rA eA hy hlA;go_wp2_with fail
    refine aC ((eqv (.pointer (some ⟨gu,0,none⟩)))::(eqv (.pointer (some ⟨gu,0,none⟩)))::(eqv (.pointer (some ⟨gu,0,none⟩)))::(eqv (.pointer (some ⟨gu,6,none⟩)))::(eqv (.slice XA lA.length kA))::(eqv (.pointer (some ⟨gs,2,none⟩)))::(eqv (.string (ay y)))::(fun L w v=>Till 10 (fun w v=>∃A' c',v= .slice A' (bH lA y).length c'∧Row w w.heap.size A' ((bH lA y).map encStr)∧(bH lA y).length≤c') L w v)::(eqv (.pointer (some ⟨gu,0,none⟩)))::(eqv (.pointer (some ⟨gu,6,none⟩)))::(fun _ _ _=>True)::[])
     (⟨[(0,none)],0,[10]⟩::⟨[(0,none)],0,[10]⟩::⟨[(67,some 1)],0,[10]⟩::⟨[(68,some 2)],0,[10]⟩::⟨[(69,some 3)],0,[10]⟩::⟨[(5,none)],0,[10]⟩::⟨[(71,some 5)],0,[10]⟩::⟨[(70,some 4),(72,some 6)],0,[10]⟩::⟨[(66,some 0)],0,[10]⟩::⟨[(74,some 8)],0,[10]⟩::⟨[(75,some 9),(73,some 7)],0,[]⟩::[])
     (no::no::no::no::no::no::no::no::no::no::no::no::no::no::no::no::no::no::no::no::no::no::no::no::no::no::no::no::no::no::no::no::no::no::no::no::no::no::no::no::no::no::no::no::no::no::no::no::no::no::no::no::no::no::no::no::no::no::no::no::no::no::no::no::no::no::so 0::so 1::so 2::so 3::so 4::so 5::so 6::so 7::so 8::so 9::[])
     (fun L w'=>CS 10 7 wW (fun w'=>∃wq A' c',Below wW.heap.size wW wq∧Row wq wq.heap.size A' ((bH lA y).map encStr)∧(bH lA y).length≤c'∧w'=wq.setCell ⟨gu,6,none⟩ (.slice A' (bH lA y).length c')) L w') (fun i w w'=>i≠7→i≠10→Below w.heap.size w w') ?mixK17us6_66 ?okK17us6_66 ?tabK17us6_66 ?frK17us6_66 ?inK17us6_66 ?keptK17us6_66 ?startK17us6_66 ?eachK17us6_66 ?finK17us6_66
    case mixK17us6_66|okK17us6_66|tabK17us6_66|frK17us6_66=>kernel_rfl
    case inK17us6_66=>rfl
    case keptK17us6_66=>exact⟨fun _ _ _ _ _ _ _ _ _ _ _ h=>h,fun _ _ _ _ _ _ _ _ _ _ _ h=>h,fun _ _ _ _ _ _ _ _ _ _ _ h=>h,fun _ _ _ _ _ _ _ _ _ _ _ h=>h,fun _ _ _ _ _ _ _ _ _ _ _ h=>h,fun _ _ _ _ _ _ _ _ _ _ _ h=>h,fun _ _ _ _ _ _ _ _ _ _ _ h=>h,fun i hne hrd L w w' v hLi hC hC' hG h=>Till.DU h hne hG (fun hb ⟨A',c',e,h,hc⟩=>⟨A',c',e,(h.below hb).more hb.size,hc⟩),fun _ _ _ _ _ _ _ _ _ _ _ h=>h,fun _ _ _ _ _ _ _ _ _ _ _ h=>h,fun _ _ _ _ _ _ _ _ _ _ _ h=>h,trivial⟩
    case startK17us6_66=>exact⟨fun _=>hgo.out,fun e=>by simp at e⟩
    case eachK17us6_66=>
     repeat' first|exact trivial|refine And.intro ?_ ?_
     ·intro w L f hC hLi hLd hLn ⟨d,_⟩;refine au.live rfl ?_;exact aj (v:=f 0) rfl (hC.go (i:=0) (hLn 10 (by simp)) (by decide) (Below.refl _ _)) (fun _ _=>Below.refl _ _) d
     ·intro w L f hC hLi hLd hLn ⟨d,_⟩;refine au.live rfl ?_;exact aj (v:=f 0) rfl (hC.go (i:=1) (hLn 10 (by simp)) (by decide) (Below.refl _ _)) (fun _ _=>Below.refl _ _) d
     ·intro w L f hC hLi hLd hLn ⟨a,_⟩;change _=_ at a;refine au.live rfl ?_;obtain⟨x1,x2,x3,x4,x5⟩:=hfc.out w (hC.bel (hLn 10 (by simp)));obtain⟨ev,ec,ef⟩:=evs f;refine aj ?_ (hC.go (i:=2) (hLn 10 (by simp)) (by decide) (Below.refl _ _)) (fun _ _=>Below.refl _ _) rfl;go_simp
     ·intro w L f hC hLi hLd hLn ⟨a,_⟩;change _=_ at a;refine au.live rfl ?_;obtain⟨x1,x2,x3,x4,x5⟩:=hfc.out w (hC.bel (hLn 10 (by simp)));obtain⟨ev,ec,ef⟩:=evs f;refine aj ?_ (hC.go (i:=3) (hLn 10 (by simp)) (by decide) (Below.refl _ _)) (fun _ _=>Below.refl _ _) rfl;go_simp
     ·intro w L f hC hLi hLd hLn ⟨a,_⟩;change _=_ at a;refine au.live rfl ?_;obtain⟨x1,x2,x3,x4,x5⟩:=hfc.out w (hC.bel (hLn 10 (by simp)));obtain⟨ev,ec,ef⟩:=evs f;refine aj ?_ (hC.go (i:=4) (hLn 10 (by simp)) (by decide) (Below.refl _ _)) (fun _ _=>Below.refl _ _) rfl;go_simp
     ·intro w L f hC hLi hLd hLn ⟨a,_⟩;change _=_ at a;refine au.live rfl ?_;obtain⟨x1,x2,x3,x4,x5⟩:=hfc.out w (hC.bel (hLn 10 (by simp)));obtain⟨ev,ec,ef⟩:=evs f;refine aj ?_ (hC.go (i:=5) (hLn 10 (by simp)) (by decide) (Below.refl _ _)) (fun _ _=>Below.refl _ _) rfl;go_simp
     ·intro w L f hC hLi hLd hLn ⟨a,_⟩;change _=_ at a;refine au.live rfl ?_;obtain⟨x1,x2,x3,x4,x5⟩:=hfc.out w (hC.bel (hLn 10 (by simp)));obtain⟨ev,ec,ef⟩:=evs f;refine aj ?_ (hC.go (i:=6) (hLn 10 (by simp)) (by decide) (Below.refl _ _)) (fun _ _=>Below.refl _ _) rfl;go_simp
     ·intro w L f hC hLi hLd hLn ⟨a,b,_⟩;change _=_ at a b;refine au.live rfl ?_;obtain⟨ev,ec,ef⟩:=evs f;refine aF (f:=101) (args:= #[.slice XA lA.length kA,.string (ay y)]) (w:=w) (by go_simp) (hadd.out w (hC.bel (hLn 10 (by simp)))) ?_;rintro e w1 ⟨⟨v,he,A',c',ev',hr,hc⟩,hB⟩;exact⟨v,he,hC.go (i:=7) (hLn 10 (by simp)) (by decide) hB,fun h=>absurd rfl h,fun _=>⟨A',c',ev',hr,hc⟩⟩
     ·intro w L f hC hLi hLd hLn ⟨a,_⟩;change _=_ at a;refine au.live rfl ?_;obtain⟨x1,x2,x3,x4,x5⟩:=hfc.out w (hC.bel (hLn 10 (by simp)));obtain⟨ev,ec,ef⟩:=evs f;refine aj ?_ (hC.go (i:=8) (hLn 10 (by simp)) (by decide) (Below.refl _ _)) (fun _ _=>Below.refl _ _) rfl;go_simp
     ·intro w L f hC hLi hLd hLn ⟨a,_⟩;change _=_ at a;refine au.live rfl ?_;obtain⟨x1,x2,x3,x4,x5⟩:=hfc.out w (hC.bel (hLn 10 (by simp)));obtain⟨ev,ec,ef⟩:=evs f;refine aj ?_ (hC.go (i:=9) (hLn 10 (by simp)) (by decide) (Below.refl _ _)) (fun _ _=>Below.refl _ _) rfl;go_simp
     ·intro w L f hC hLi hLd hLn ⟨a,d73,_⟩;change _=_ at a;refine au.live rfl ?_;obtain⟨A',c',e45,hr,hc⟩:=d73 hLi;obtain⟨x1,x2,x3,x4,x5⟩:=hfc.out w (hC.bel hLi);obtain⟨ev,ec,ef⟩:=evs f;refine dK (w':=w.setCell ⟨gu,6,none⟩ (.slice A' (bH lA y).length c')) ?_ (CS.last (hLd 7 (by decide)) ⟨w,A',c',hC.bel hLi,hr,hc,rfl⟩) (fun _ h=>absurd rfl h) trivial;go_simp
    intro x w' hC hV
    obtain⟨-,wq,A',cz,hbq,hrq,hcq,hwq⟩:=hC.2 rfl;have gZ:=hUW.out.putL hbq (by rw[←hlA'.out];exact hrq) (by rw[←hlA'.out];exact hcq);rw[←hlA'.out,←hwq]at gZ
    have hU6:Hid (UsB F gu (B'+2) (addN F c' h.x) a' (bH l' h.y) w0 w'):=Lib.hid (by
     have g1:=gZ.1;rw[hlA'.out,hy'.out]at g1
     exact g1)
    have hW6:=Lib.hid (hWW.out.trans gZ.2);obtain⟨Ag0,ag1,vs,eag,hag1,hag2,hrow,hcells⟩:=hht.out.1.a;injection eag with eg1 eg2 eg3;subst eg1;have hrow':=Lib.hid hrow;have hcells':=Lib.hid hcells
    have hna5:na≤100000:=by rw[hna'.out];exact hag1
    simp only[framed];clear hC hV gZ hbq hrq hcq hwq hfc hadd hgo hrow hcells eg2 eg3 hag1 hag2 s0 sl s1;go_wp2_with fail;have hag0:Hid (UsB F gu (B'+2+(agR (h.args.take 0)).length) ((agR (h.args.take 0)).foldl (addN F) (addN F c' h.x)) a' (bH l' h.y) w0 w'):=Lib.hid hU6.out
    have hbud:Hid (∀j,(agR (h.args.take j)).length≤(agR h.args).length):=Lib.hid fun j=>by
     conv=>rhs;rw[←List.take_append_drop j h.args]
     unfold agR;rw[List.flatMap_append,List.length_append];omega
    have hbB:Hid (B'+2+(agR h.args).length≤100000):=Lib.hid (by have h1:=he.out.1;have h2:=hB'.out;simp only[uN,hN,hlR]at h1;rw[d1.out.1]at h1;simp at h1;omega);clear hU6
    go_loopw [6] (fun i wx=>∃j:Nat,j≤na∧i= .int .i64 j∧Hid (UsB F gu (B'+2+(agR (h.args.take j)).length) ((agR (h.args.take j)).foldl (addN F) (addN F c' h.x)) a' (bH l' h.y) w0 wx)∧Hid (Writes [some gu] ws wx)) (fun i _=>na-(intOf i).toNat)
    case atStart=>exact⟨0,by omega,rfl,hag0,hW6⟩
    clear hag0 hW6;obtain⟨j,hj,rfl,hUj,hWj⟩:=hrel;rename World=>wx;have hsx:=hWj.out.holds qJ.out (by simp;exact hgu);have s6:wx.cell? ⟨gs,6,none⟩=some (.slice Aa na ca):=hsx.cell 6;have sl:=hsx.lt;by_cases hjn:j<na
    ·have hjl:j<h.args.length:=by rw[←hna'.out];exact hjn
     obtain⟨ve,-,-,hv2,hve,-⟩:=hcells'.out.at_ hjl;obtain⟨b3,off3,rfl,-,hrc⟩:=hrow'.out (by rintro rfl;simp at hv2)
     have hcv:wx.cell? ⟨b3,off3+j*3+2,none⟩=some ve:=by have g0:=hrc _ _ hv2;rw[←Nat.add_assoc]at g0;exact(hUj.out.bl.cell (p:=⟨b3,off3+j*3+2,none⟩) (lt_of_cell g0)).trans g0
     have hbl:=lt_of_cell hcv;have htk:Hid (agR (h.args.take (j+1))=agR (h.args.take j)++exL h.args[j].e):=Lib.hid (by unfold agR;rw[List.take_succ_eq_append_getElem hjl,List.flatMap_append];simp);have cE:=Lib.hid (iJ F gu a' (bH l' h.y) w0 h.args[j].e wx _ _ ve hve hUj.out (by have g1:=hbud.out (j+1);rw[htk.out,List.length_append]at g1;have g2:=hbB.out;omega))
     clear hrc hv2 hve hsx;go_wp2_with fail;refine cE.out.mono ?_;rintro e7 w7 ⟨rfl,hU7,hW7⟩;have hU8:Hid (UsB F gu (B'+2+(agR (h.args.take (j+1))).length) ((agR (h.args.take (j+1))).foldl (addN F) (addN F c' h.x)) a' (bH l' h.y) w0 w7):=Lib.hid (by rw[htk.out,List.length_append,List.foldl_append];exact hU7.eq (by omega) rfl);have hW8:=Lib.hid (hWj.out.trans hW7)
     clear hU7 hW7 hcv hbl s6 sl;go_wp2_with fail;exact⟨⟨j+1,by omega,by simp,hU8,hW8⟩,by simp[intOf];omega⟩
    ·obtain rfl:j=na:=by omega
     have hend:Hid (UsB F gu (B'+((eY h).length+1)) ((eY h).foldl (addN F) c') (hA a' h) (hLc l' h) w0 wx∧Writes [some gu] ws wx):=Lib.hid (by
      have g1:=hUj.out;rw[hna'.out,List.take_length]at g1;unfold hA hLc;rw[d1.out.1,d1.out.2.1,d1.out.2.2]
      exact⟨g1.eq (by simp;omega) rfl,hWj.out⟩)
     clear hUj hWj hsx;go_wp2_with fail
     go_meet
     case rel=>exact hend
   ·have d1:Hid (eY h= []∧jd h= []∧iw h= []):=Lib.hid (by unfold eY jd iw;refine⟨?_,?_,?_⟩<;>(repeat' split)<;>first|rfl|omega)
    have b0:((h.k:Int)==0)=false:=by simp;omega
    have b4:((h.k:Int)==4)=false:=by simp;omega
    have b1:((h.k:Int)==1)=false:=by simp;omega
    have b6:((h.k:Int)==6)=false:=by simp;omega
    have b7:((h.k:Int)==7)=false:=by simp;omega
    have b8:((h.k:Int)==8)=false:=by simp;omega
    have hend:Hid (UsB F gu (B'+((eY h).length+1)) ((eY h).foldl (addN F) c') (hA a' h) (hLc l' h) w0 ws∧Writes [some gu] ws ws):=Lib.hid (by unfold hA hLc;rw[d1.out.1,d1.out.2.1,d1.out.2.2];exact⟨hUs.out.more (by simp),Writes.refl _ _⟩);clear hk d1;go_wp2_with fail
    go_meet
    case rel=>exact hend
  case' rest=>
   clear s0 sl;rename World=>wc;obtain⟨hU1,hW1⟩:=hcut.out
   have hfs:Hid (∀wx,Writes [some gu] ws wx→wx.cell? ⟨gs,3,none⟩=some (.pointer pe)∧wx.cell? ⟨gs,4,none⟩=some (.pointer pf)∧wx.cell? ⟨gs,5,none⟩=some (.pointer pc)∧wx.cell? ⟨gs,7,none⟩=some (.slice At nt ct)∧wx.cell? ⟨gs,8,none⟩=some (.slice Al nl cl)∧gs<wx.heap.size):=Lib.hid fun wx hx=>by
    have h:=hx.holds qJ.out (by simp;exact hgu);exact⟨h.cell 3,h.cell 4,h.cell 5,h.cell 7,h.cell 8,h.lt⟩
   have hbd:B'+((eY h).length+1)+(exL h.e).length+(exL h.f).length+(cnL h.c).length=B'+hN h:=by unfold hN hlR;simp;omega
   have hbn:B'+hN h+uN t+uN e+uN r≤100000:=by have h1:=he.out.1;have h2:=hB'.out;simp only[uN]at h1;omega
   have hcd:(cnL h.c).foldl (addN F) ((exL h.f).foldl (addN F) ((exL h.e).foldl (addN F) ((eY h).foldl (addN F) c')))=hC F c' h:=by unfold hC hlR;rw[List.foldl_append,List.foldl_append,List.foldl_append]
   have cE:=Lib.hid (fun(w:World) (B:Nat) (c a l:List S)=>iJ F gu a l w0 h.e w B c (.pointer pe) hht.out.1.e);have cF:=Lib.hid (fun(w:World) (B:Nat) (c a l:List S)=>iJ F gu a l w0 h.f w B c (.pointer pf) hht.out.1.f);have cC:=Lib.hid (fun(w:World) (B:Nat) (c a l:List S)=>oI F gu a l w0 h.c w B c (.pointer pc) hht.out.1.c)
   have cT:=Lib.hid (fun(w:World) (B:Nat) (c a l:List S)=>hih.out t hdt.out.1 w B c a l (.slice At nt ct) hht.out.2.1);have cL:=Lib.hid (fun(w:World) (B:Nat) (c a l:List S)=>hih.out e hdt.out.2.1 w B c a l (.slice Al nl cl) hht.out.2.2);obtain⟨s3,s4,s5,s7,s8,sl⟩:=hfs.out wc hW1;replace hU1:=Lib.hid hU1;replace hW1:=Lib.hid hW1;replace hbd:=Lib.hid hbd
   replace hbn:=Lib.hid hbn;replace hcd:=Lib.hid hcd;clear hcut;go_wp2_with fail;refine(cE.out wc _ _ _ _ hU1.out (by have h1:=hbd.out;have h2:=hbn.out;omega)).mono ?_;rintro e5 w5 ⟨rfl,hU5,hW5⟩;replace hU5:=Lib.hid hU5;have hV5:=Lib.hid (hW1.out.trans hW5);clear s3 s4 s5 s7 s8 sl hW5;obtain⟨s3,s4,s5,s7,s8,sl⟩:=hfs.out w5 hV5.out;go_wp2_with fail
   refine(cF.out w5 _ _ _ _ hU5.out (by have h1:=hbd.out;have h2:=hbn.out;omega)).mono ?_;rintro e6 w6 ⟨rfl,hU6,hW6⟩;replace hU6:=Lib.hid hU6;have hV6:=Lib.hid (hV5.out.trans hW6);clear s3 s4 s5 s7 s8 sl hW6;obtain⟨s3,s4,s5,s7,s8,sl⟩:=hfs.out w6 hV6.out;go_wp2_with fail;refine(cC.out w6 _ _ _ _ hU6.out (by have h1:=hbd.out;have h2:=hbn.out;omega)).mono ?_
   rintro e7 w7 ⟨rfl,hU7,hW7⟩;have hU7':=Lib.hid (hU7.eq hbd.out hcd.out);have hV7:=Lib.hid (hV6.out.trans hW7);clear s3 s4 s5 s7 s8 sl hW7 hU7;obtain⟨s3,s4,s5,s7,s8,sl⟩:=hfs.out w7 hV7.out;go_wp2_with fail;refine(cT.out w7 _ _ _ _ hU7'.out (by have h2:=hbn.out;omega)).mono ?_;rintro e8 w8 ⟨rfl,hU8,hW8⟩;replace hU8:=Lib.hid hU8;have hV8:=Lib.hid (hV7.out.trans hW8)
   clear s3 s4 s5 s7 s8 sl hW8;obtain⟨s3,s4,s5,s7,s8,sl⟩:=hfs.out w8 hV8.out;go_wp2_with fail;refine(cL.out w8 _ _ _ _ hU8.out (by have h2:=hbn.out;omega)).mono ?_;rintro e9 w9 ⟨rfl,hU9,hW9⟩;replace hU9:=Lib.hid hU9;have hV9:=Lib.hid (hWs.out.trans (hV8.out.trans hW9));clear s3 s4 s5 s7 s8 sl hW9
   have he9:Hid (BN=B'+hN h+uN t+uN e+uN r∧C=uC F r (uC F e (uC F t (hC F c' h)))∧AA=uA r (uA e (uA t (hA a' h)))∧LL=uL r (uL e (uL t (hLc l' h)))):=Lib.hid (by
    obtain⟨e1,e2,e3,e4⟩:=he.out
    exact⟨by rw[e1];simp only[uN];omega,e2,e3,e4⟩)
   go_wp2_with fail;exact⟨⟨k+1,r,us',_,_,_,_,by omega,by simp,hrest',hU9,he9,hrl,Lib.hid hdt.out.2.2,hV9⟩,by simp[intOf];omega⟩
end Go.Proofs.YtpndglghpojjkaaGreat
