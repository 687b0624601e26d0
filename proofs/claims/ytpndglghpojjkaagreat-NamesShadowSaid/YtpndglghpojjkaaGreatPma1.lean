/-
  11 texts of the proof, in one file: no condition.
-/
import Derived.WalkKit
import Derived.WalkSpells
import Derived.WalkLawsBesides
import Derived.Lib.Hide
import Derived.Deep.Draws
import Derived.Lib.SlBytesConst
import Derived.Test.YtpndglghpojjkaaGreatRows
import Derived.ProofKit
import Derived.OpenShut
import Derived.Deep.Matrix
import Derived.Maps.AppendAt
import Derived.Deep.QuietTactic
import Derived.BigQuiet
import Derived.StillTailTactics
import Derived.IntWalk
set_option maxRecDepth 1000000
set_option maxHeartbeats 8000000
namespace Go.Proofs.YtpndglghpojjkaaGreat
open Go.RowKit
def Holds (w:World) (g:Nat) (t:TypeId) (cs:Array Value):Prop:=w.heap[g]? =some (.cells cs t (0,0))
section
variable {w w':World} {g:Nat} {t:TypeId} {cs:Array Value}
theorem Holds.lt (h:Holds w g t cs):g<w.heap.size:=(Array.getElem?_eq_some_iff.1 h).1
theorem Holds.cell (h:Holds w g t cs) (i:Nat):w.cell? ⟨g,i,none⟩=cs[i]? :=cell_of_row w g i cs t (0,0) h
theorem Holds.frozen (h:Holds w g t cs) (i:Nat):w.frozen? ⟨g,i,none⟩=false:=by
 unfold Holds at h;simp[World.frozen?,h]
theorem Holds.new (w:World) (t:TypeId) (cs:Array Value):Holds (w.alloc (.cells cs t)) w.heap.size t cs:=heap_alloc_new w _
theorem Holds.alloc (h:Holds w g t cs) (o:Obj):Holds (w.alloc o) g t cs:=(Below.heap_alloc w o g h.lt).trans h
theorem Holds.drewN (h:Holds w g t cs) (n:Nat):Holds (w.drewN n) g t cs:=h
theorem Holds.store (h:Holds w g t cs) (i:Nat) (u:Value):Holds (w.setCell ⟨g,i,none⟩ u) g t (cs.setIfInBounds i u):=by
 unfold Holds at h⊢;simp[World.setCell,Array.getElem?_modify,h]
theorem Holds.apart (h:Holds w g t cs) {p:Addr} (hp:g≠p.block) (u:Value):Holds (w.setCell p u) g t cs:=(Below.heap_setCell w p u g hp).trans h
theorem Holds.below {B:Nat} (h:Holds w g t cs) (hb:Below B w w') (hg:g<B):Holds w' g t cs:=(hb.block g hg).trans h
theorem Holds.grown {row:Option Nat} (h:Holds w g t cs) (hb:w.grownBy w' row) (hg:some g≠row):Holds w' g t cs:=(hb.block g h.lt hg).trans h
theorem Holds.row (h:Holds w g t cs) (cs':Array Value):Holds (w.setRow g cs') g t cs':=by
 unfold Holds at h⊢;simp[World.setRow,Array.getElem?_modify,h]
end
def Row (w:World) (B:Nat) (A:Option Addr) (vs:List Value):Prop:=
 vs≠[]→∃b off,A=some ⟨b,off,none⟩∧b<B∧∀j u,vs[j]? =some u→w.cell? ⟨b,off+j,none⟩=some u
section
variable {w w':World} {B B':Nat} {A:Option Addr} {vs:List Value}
theorem Row.nil_ (w:World) (B:Nat) (A:Option Addr):Row w B A []:=fun h=>absurd rfl h
theorem Row.keep (h:Row w B A vs) (hk:∀p:Addr,p.block<B→w'.cell? p=w.cell? p):Row w' B A vs:=fun hn=>by
 obtain⟨b,off,e,hb,hc⟩:=h hn;exact⟨b,off,e,hb,fun j u hu=>(hk _ hb).trans (hc j u hu)⟩
theorem Row.more (h:Row w B A vs) (hB:B≤B'):Row w B' A vs:=fun hn=>by
 obtain⟨b,off,e,hb,hc⟩:=h hn;exact⟨b,off,e,by omega,hc⟩
theorem Row.below (h:Row w B A vs) (hb:Below B w w'):Row w' B A vs:=h.keep fun _ hp=>hb.cell hp
theorem Row.at_ {k:Nat} (h:Row w B A vs) (hk:k<vs.length):∃b off,A=some ⟨b,off,none⟩∧b<B∧w.cell? ⟨b,off+k,none⟩=some vs[k]:=by
 obtain⟨b,off,e,hb,hc⟩:=h (by intro h;subst h;simp at hk);exact⟨b,off,e,hb,hc k _ (List.getElem?_eq_getElem hk)⟩
theorem Row.take (h:Row w B A vs) (k:Nat):Row w B A (vs.take k):=fun hn=>by
 obtain⟨b,off,e,hb,hc⟩:=h (by rintro rfl;simp at hn);refine⟨b,off,e,hb,fun j u hu=>hc j u ?_⟩;rw[List.getElem?_take]at hu;split at hu
 ·exact hu
 ·cases hu
end
theorem EO {k:IntKind} {a b:Int} (h:a=b):Ending.returned (.int k a)= .returned (.int k b):=by rw[h]
theorem Dl {a b:Bool} (h:a=b):Ending.returned (.bool a)= .returned (.bool b):=by rw[h]
def Eo (b:UInt8):Value:= .int .u8 b.toNat
def Bytes (w:World) (B:Nat) (A:Option Addr) (l:List UInt8):Prop:=Row w B A (l.map Eo)
theorem Bytes.at_ {w:World} {B:Nat} {A:Option Addr} {l:List UInt8} {k:Nat} (h:Bytes w B A l) (hk:k<l.length):
  ∃b off,A=some ⟨b,off,none⟩∧b<B∧w.cell? ⟨b,off+k,none⟩=some (.int .u8 l[k].toNat):=by
 obtain⟨b,off,e,hb,hc⟩:=Row.at_ h (k:=k) (by simpa using hk);exact⟨b,off,e,hb,by simpa[Eo]using hc⟩
def Slices (w:World) (B:Nat) (A:Option Addr) (ls:List (List UInt8)):Prop:=
 ∃vs:List Value,vs.length=ls.length∧Row w B A vs∧∀i (h:i<ls.length),∃Ai ci,vs[i]? =some (.slice Ai ls[i].length ci)∧Bytes w B Ai ls[i]∧ls[i].length≤maxLen
theorem Slices.below {w w':World} {B:Nat} {A:Option Addr} {ls:List (List UInt8)} (h:Slices w B A ls) (hb:Below B w w'):Slices w' B A ls:=by
 obtain⟨vs,hl,hr,hi⟩:=h
 exact⟨vs,hl,hr.below hb,fun i hlt=>by
  obtain⟨Ai,ci,h1,h2,h3⟩:=hi i hlt
  exact⟨Ai,ci,h1,Row.below h2 hb,h3⟩⟩
theorem Slices.more {w:World} {B B':Nat} {A:Option Addr} {ls:List (List UInt8)} (h:Slices w B A ls) (hB:B≤B'):Slices w B' A ls:=by
 obtain⟨vs,hl,hr,hi⟩:=h
 exact⟨vs,hl,hr.more hB,fun i hlt=>by
  obtain⟨Ai,ci,h1,h2,h3⟩:=hi i hlt
  exact⟨Ai,ci,h1,Row.more h2 hB,h3⟩⟩
theorem Slices.at_ {w:World} {B:Nat} {A:Option Addr} {ls:List (List UInt8)} {k:Nat} (h:Slices w B A ls) (hk:k<ls.length):
  ∃b off Ai ci,A=some ⟨b,off,none⟩∧b<B∧w.cell? ⟨b,off+k,none⟩=some (.slice Ai ls[k].length ci)∧Bytes w B Ai ls[k]∧ls[k].length≤maxLen:=by
 obtain⟨vs,hl,hr,hi⟩:=h;obtain⟨Ai,ci,h1,h2,h3⟩:=hi k hk;obtain⟨b,off,e,hb,hc⟩:=hr.at_ (k:=k) (by omega)
 have:vs[k]'(by omega)= .slice Ai ls[k].length ci:=by have h4:=List.getElem?_eq_getElem (l:=vs) (i:=k) (by omega);rw[h4]at h1;exact Option.some.inj h1
 exact⟨b,off,Ai,ci,e,hb,by rw[hc,this],h2,h3⟩
theorem Row.ER {w:World} {g B:Nat} {t:TypeId} {cs:Array Value} {fr:Nat×Nat} (h:w.heap[g]? =some (.cells cs t fr)) (hB:g<B):Row w B (some ⟨g,0,none⟩) cs.toList:=
 fun _=>⟨g,0,rfl,hB,fun j u hu=>by rw[Nat.zero_add,cell_of_row w g j cs t fr h];simpa using hu⟩
def Strs (w:World) (B:Nat) (A:Option Addr) (ss:List ByteArray):Prop:=Row w B A (ss.map Value.string)
theorem Strs.at_ {w:World} {B:Nat} {A:Option Addr} {ss:List ByteArray} {k:Nat} (h:Strs w B A ss) (hk:k<ss.length):
  ∃b off,A=some ⟨b,off,none⟩∧b<B∧w.cell? ⟨b,off+k,none⟩=some (.string ss[k]):=by
 obtain⟨b,off,e,hb,hc⟩:=Row.at_ h (k:=k) (by simpa using hk);exact⟨b,off,e,hb,by simpa using hc⟩
def ay (l:List UInt8):ByteArray:=⟨l.toArray⟩
theorem oK (l:List UInt8):(ay l).size=l.length:=by simp[ay,ByteArray.size]
theorem zL {w:World} {base:Nat} {e:TypeId} {v:Value} {n:Nat} {xs:List Value} (h:w.ownsRow base e 1 v n xs):∃A c,v= .slice A n c∧Row w w.heap.size A xs∧xs.length=n∧n≤c:=by
 have hl:=h.1;rcases h.2 with⟨rfl,rfl⟩| ⟨g,cap,cur,rfl,hg,hh,hn,_⟩
 ·have:xs= []:=List.eq_nil_of_length_eq_zero (by omega);subst this;exact⟨none,0,rfl,Row.nil_ _ _ _,rfl,Nat.le_refl _⟩
 ·refine⟨_,cap,rfl,fun _=>⟨g,0,rfl,(Array.getElem?_eq_some_iff.1 hh).1,fun j u hu=> ?_⟩,by omega,hn⟩;have:=h.cells (g:=g) rfl j u hu
  have hadd:(⟨g,0,none⟩:Addr).add j=⟨g,0+j,none⟩:=by unfold Addr.add;split<;>simp_all
  rw[←hadd];exact this
theorem Bytes.below {w w':World} {B:Nat} {A:Option Addr} {l:List UInt8} (h:Bytes w B A l) (hb:Below B w w'):Bytes w' B A l:=Row.below h hb
theorem Bytes.more {w:World} {B B':Nat} {A:Option Addr} {l:List UInt8} (h:Bytes w B A l) (hB:B≤B'):Bytes w B' A l:=Row.more h hB
theorem Bytes.up {w w':World} {A:Option Addr} {l:List UInt8} (h:Bytes w w.heap.size A l) (hb:Below w.heap.size w w'):Bytes w' w'.heap.size A l:=(h.below hb).more hb.size
theorem Slices.up {w w':World} {A:Option Addr} {l:List (List UInt8)} (h:Slices w w.heap.size A l) (hb:Below w.heap.size w w'):Slices w' w'.heap.size A l:=(h.below hb).more hb.size
theorem Strs.up {w w':World} {A:Option Addr} {l:List ByteArray} (h:Strs w w.heap.size A l) (hb:Below w.heap.size w w'):Strs w' w'.heap.size A l:=Row.more (Row.below h hb) hb.size
theorem Bytes.take {w:World} {B:Nat} {A:Option Addr} {l:List UInt8} (h:Bytes w B A l) (k:Nat):Bytes w B A (l.take k):=by
 have:=Row.take h k;rw[←List.map_take]at this;exact this
theorem Row.cut {w:World} {B:Nat} {A:Option Addr} {vs:List Value} (h:Row w B A vs) (k:Nat) {c:Nat} (hc:vs.length≤c):Row w B (if c=k then A else A.map (·.add k)) (vs.drop k):=fun hn=>by
 have hk:k<vs.length:=by
  rcases Nat.lt_or_ge k vs.length with h1|h1
  ·exact h1
  ·exact absurd (List.drop_eq_nil_of_le h1) hn
 obtain⟨b,off,rfl,hb,hcell⟩:=h (by rintro rfl;simp at hk);rw[if_neg (by omega)];refine⟨b,off+k,by unfold Addr.add;simp only[Option.map_some];split<;>simp_all,hb,fun j u hu=> ?_⟩;rw[Nat.add_assoc];exact hcell (k+j) u (by rw[←hu,List.getElem?_drop])
theorem Bytes.cut {w:World} {B:Nat} {A:Option Addr} {l:List UInt8} (h:Bytes w B A l) (k:Nat) {c:Nat} (hc:l.length≤c):Bytes w B (if c=k then A else A.map (·.add k)) (l.drop k):=by
 have:=Row.cut h k (c:=c) (by simpa using hc);rw[←List.map_drop]at this;exact this
theorem Row.fresh (w:World) (t:TypeId) (vs:List Value):Row (w.alloc (.cells vs.toArray t)) (w.alloc (.cells vs.toArray t)).heap.size (some ⟨w.heap.size,0,none⟩) vs:=by
 have:=Row.ER (heap_alloc_new w (.cells vs.toArray t)) (B:=(w.alloc (.cells vs.toArray t)).heap.size) (by simp);simpa using this
theorem Slices.one {w:World} (t:TypeId) {A:Option Addr} {n c:Nat} {l:List UInt8} (hn:l.length=n) (hm:n≤maxLen) (h:Bytes w w.heap.size A l):
  Slices (w.alloc (.cells #[.slice A n c] t)) (w.alloc (.cells #[.slice A n c] t)).heap.size (some ⟨w.heap.size,0,none⟩) [l]:=by
 subst hn;refine⟨_,rfl,Row.fresh w t [.slice A l.length c],fun i hi=> ?_⟩
 match i,hi with
 |0,_=>exact⟨A,c,rfl,h.up ((Below.refl _ _).alloc (Nat.le_refl _) _),hm⟩
theorem Slices.two {w:World} (t:TypeId) {A A':Option Addr} {n c n' c':Nat} {l l':List UInt8} (hn:l.length=n) (hm:n≤maxLen) (h:Bytes w w.heap.size A l) (hn':l'.length=n') (hm':n'≤maxLen) (h':Bytes w w.heap.size A' l'):
  Slices (w.alloc (.cells #[.slice A n c,.slice A' n' c'] t)) (w.alloc (.cells #[.slice A n c,.slice A' n' c'] t)).heap.size (some ⟨w.heap.size,0,none⟩) [l,l']:=by
 subst hn hn';refine⟨_,rfl,Row.fresh w t [.slice A l.length c,.slice A' l'.length c'],fun i hi=> ?_⟩
 match i,hi with
 |0,_=>exact⟨A,c,rfl,h.up ((Below.refl _ _).alloc (Nat.le_refl _) _),hm⟩
 |1,_=>exact⟨A',c',rfl,h'.up ((Below.refl _ _).alloc (Nat.le_refl _) _),hm'⟩
theorem Strs.new (w:World) (t:TypeId) (ss:List ByteArray):Strs (w.alloc (.cells (ss.map Value.string).toArray t)) (w.alloc (.cells (ss.map Value.string).toArray t)).heap.size (some ⟨w.heap.size,0,none⟩) ss:=Row.fresh w t _
theorem aA (w:World) (o:Obj):Below w.heap.size w (w.alloc o):=(Below.refl _ _).alloc (Nat.le_refl _) _
end Go.Proofs.YtpndglghpojjkaaGreat
namespace Go.Proofs.YtpndglghpojjkaaGreat
open Go.RowKit Go.ChangeShapes Go.WideShapes Go.Deep
open Go.ChangeMaps (open_string)
theorem Tryz.own:ownKnob Tryz.prog.godebug=none:=by kernel_rfl
theorem Tryz.laidOut:laidOutB Tryz.prog=true:=by kernel_rfl
def gQ (t:TypeId) (W:World) (v:Value):Prop:=
 ∃(H:Type) (enc:TypeId×Value→H) (d:DataW H) (p:List MemPlace) (base:Nat),Value.okWide Tryz.prog W .any base t v∧DataW.Trod enc Tryz.prog W 0 (fun _=>true) true t v d p
theorem sH {H:Type} {enc:TypeId×Value→H} {W:World} {t:TypeId} {v:Value} {d:DataW H} {p:List MemPlace} (h:DataW.Trod enc Tryz.prog W 0 (fun _=>true) true t v d p):∀x∈p,x.block<W.heap.size:=by
 obtain⟨m,hm⟩:=h;exact DataW.trod_lt m _ _ _ hm
theorem sD {W:World} {A:Option Addr} {n c:Nat} {Z:List Int} (hZ:Z.length=c) (hn:n≤c) (hwf:∀n∈Z,(Lit.int .u8 n).wf=true)
  (hc:∀a',A=some a'→∀j,j<c→W.cell? (a'.add j)=some (.int .u8 (Z.getD j 0))) (h0:A=none→c=0):
  ∃l:List UInt8,l.length=n∧Bytes W W.heap.size A l:=by
 refine⟨(Z.take n).map fun z=>UInt8.ofNat z.toNat,by simp;omega,fun hne=> ?_⟩
 have hn0:0<n:=by
  rcases Nat.eq_zero_or_pos n with h|h
  ·subst h;simp at hne
  ·exact h
 rcases A with _|a
 ·have:=h0 rfl;omega
 ·obtain⟨b,off,rfl,hc2⟩:=ints_at (k:= .u8) (zs:=Z) (fun i hi=>hc a rfl i (by omega)) (by omega);refine⟨b,off,rfl,?_,fun j u hu=> ?_⟩
  ·have:=hc2 0 (by omega);exact block_lt_of_cell this
  ·have hj:j<n:=by
    rcases Nat.lt_or_ge j n with h|h
    ·exact h
    ·rw[List.getElem?_eq_none (by simp;omega)]at hu;cases hu
   rw[hc2 j (by omega)]
   have hjZ:j<Z.length:=by omega
   have hz:=bounds_u8 (hwf Z[j] (List.getElem_mem hjZ));simp[hj,hjZ]at hu;subst hu;simp only[Eo,List.getD_eq_getElem?_getD,List.getElem?_eq_getElem hjZ,Option.getD_some];congr 2;rw[UInt8.toNat_ofNat_of_lt' (show Z[j].toNat<256 by omega)];omega
theorem gQ.bytes {W:World} {v:Value} (h:gQ 37 W v):∃A n c l,v= .slice A n c∧l.length=n∧n≤c∧c≤maxLen∧Bytes W W.heap.size A l:=by
 obtain⟨H,enc,d,p,base,hok,fuel,hf⟩:=h;obtain⟨a0,len0,cap0,rfl⟩:=okWide_slice Tryz.underlying37 hok;rcases open_ints Tryz.underlying37 Tryz.underlying5 (by kernel_rfl) hf with⟨hcs,_⟩| ⟨x,l,c,zs,hcs,_,hl,hm,hz,_,hcell,hwz⟩
 ·simp[Value.cells]at hcs;obtain⟨rfl,rfl,rfl⟩:=hcs;exact⟨_,_,_,[],rfl,rfl,Nat.le_refl _,by simp,Row.nil_ _ _ _⟩
 ·simp[Value.cells]at hcs;obtain⟨rfl,rfl,rfl⟩:=hcs;simp only[if_true]at hz;obtain⟨l,hl2,hb⟩:=sD (W:=W) (A:=some x) hz hl hwz (fun a' e j hj=>by cases e;exact hcell j (by omega)) (fun e=>by cases e);exact⟨_,_,_,l,rfl,hl2,hl,hm,hb⟩
theorem gQ.int {W:World} {v:Value} (h:gQ 3 W v):∃n:Int,v= .int .i64 n∧-9223372036854775808≤n∧n≤9223372036854775807:=by
 obtain⟨H,enc,d,p,base,hok,hf⟩:=h;obtain⟨n,rfl,_,_,hw⟩:=open_int Tryz.underlying3 hok hf;refine⟨n,rfl,?_⟩;simp[Lit.wf,IntKind.min,IntKind.max,IntKind.signed,IntKind.bits]at hw;omega
theorem gQ.u8 {W:World} {v:Value} (h:gQ 5 W v):∃n:Nat,v= .int .u8 n∧n<256:=by
 obtain⟨H,enc,d,p,base,hok,hf⟩:=h;obtain⟨n,rfl,_,_,hw⟩:=open_int Tryz.underlying5 hok hf;have:=bounds_u8 hw;exact⟨n.toNat,by rw[Int.toNat_of_nonneg this.1],by omega⟩
end Go.Proofs.YtpndglghpojjkaaGreat
namespace Go.Proofs.YtpndglghpojjkaaGreat
structure Tok where
 k:Nat
 t:List UInt8
 at_:Nat
def eU (c:UInt8):Bool:=(97≤c.toNat&&c.toNat≤122)|| (65≤c.toNat&&c.toNat≤90)||c.toNat==95
def bJ (c:UInt8):Bool:=48≤c.toNat&&c.toNat≤57
def wsC (c:UInt8):Bool:=c.toNat==32||c.toNat==9||c.toNat==13||c.toNat==10
def aU (p:UInt8→Bool):List UInt8→Nat
 | []=>0
 |c::r=>if p c then aU p r+1 else 0
def oU:List UInt8→Nat→Bool→Nat×Bool
 | [],n,g=>(n,g)
 |c::r,n,g=>if 922337203685477580<n then oU r n true else oU r (10*n+(c.toNat-48)) g
def nC:List UInt8:= [61,60,62,43,45,42,47,37,38,33,40,41,123,125,91,93,44,59]
def jP (l:List UInt8):Bool:=l.take 2== [61,61]||l.take 2== [33,61]||l.take 2== [60,61]||l.take 2== [62,61]||l.take 2== [38,38]||l.take 2== [124,124]
def fC:Nat→List UInt8→Nat→List Tok→List Tok×Nat×Nat
 |0,_,_,out=>(out,0,0)
 |f+1,l,i,out=>match l with
  | []=>(out,0,0)
  |c::r=>
   if wsC c then fC f r (i+1) out
   else if c.toNat=35 then fC f (l.drop (aU (fun x=>x.toNat !=10) l)) (i+aU (fun x=>x.toNat !=10) l) out
   else if eU c then
    if 32<aU (fun x=>eU x||bJ x) l then([],i,53)
    else fC f (l.drop (aU (fun x=>eU x||bJ x) l)) (i+aU (fun x=>eU x||bJ x) l) (out++ [⟨0,l.take (aU (fun x=>eU x||bJ x) l),i⟩])
   else if bJ c then
    if (oU (l.take (aU bJ l)) 0 false).2||9223372036854775807<(oU (l.take (aU bJ l)) 0 false).1 then([],i,53)
    else if (match l.drop (aU bJ l)with| []=>false|d::_=>eU d)|| (c.toNat==48&&1<aU bJ l)then([],i,50)
    else fC f (l.drop (aU bJ l)) (i+aU bJ l) (out++ [⟨1,l.take (aU bJ l),i⟩])
   else if jP l then fC f (l.drop 2) (i+2) (out++ [⟨2,l.take 2,i⟩])
   else if nC.contains c then fC f r (i+1) (out++ [⟨2,[c],i⟩])
   else([],i,50)
def o_ (l:List UInt8):List Tok×Nat×Nat:=if 4096<l.length then([],0,53)else fC (l.length+1) l 0 []
inductive Ex where
 |nil:Ex
 |mk (k:Nat) (n:Int) (nm:List UInt8) (a b:Ex):Ex
inductive Cn where
 |nil:Cn
 |mk (k:Nat) (a b:Ex) (p q:Cn) (nm:List UInt8):Cn
structure Ag where
 ptr:Bool
 nm:List UInt8
 e:Ex
structure Hd where
 k:Nat
 x:List UInt8
 y:List UInt8
 e:Ex
 f:Ex
 c:Cn
 args:List Ag
 at_:Nat
inductive Sl where
 |nil:Sl
 |cons (h:Hd) (t e r:Sl):Sl
structure Vr where
 nm:List UInt8
 ptr:Bool
structure Fnc where
 nm:List UInt8
 ps:List Vr
 ls:List Vr
 body:Sl
def Fnc.none:Fnc:=⟨[],[],[],.nil⟩
def Sl.len:Sl→Nat
 | .nil=>0
 | .cons _ _ _ r=>r.len+1
def Sl.snoc:Sl→Hd→Sl→Sl→Sl
 | .nil,h,t,e=> .cons h t e .nil
 | .cons h0 t0 e0 r,h,t,e=> .cons h0 t0 e0 (r.snoc h t e)
theorem Sl.nR:∀(l:Sl) (h:Hd) (t e:Sl),(l.snoc h t e).len=l.len+1
 | .nil,_,_,_=>rfl
 | .cons _ _ _ r,h,t,e=>by show(r.snoc h t e).len+1=r.len+1+1;rw[Sl.nR r h t e]
structure PC where
 tk:List Tok
 end_:Nat
structure PS where
 i:Nat
 e:Nat
 at_:Nat
 deep:Nat
 n:Nat
section
variable (C:PC)
def bT (k:Nat) (s:PS):PS:=if s.e=0 then{s with e:=k,at_:=match C.tk[s.i]? with|some t=>t.at_|none=>C.end_}else s
def isF (t:List UInt8) (s:PS):Bool:=s.e==0&&(match C.tk[s.i]? with|some x=>x.k !=1&&x.t==t|none=>false)
def PS.next (s:PS):PS:={s with i:=s.i+1}
def PS.shut (s:PS):PS:={s with deep:=s.deep-1}
def gq (t:List UInt8) (s:PS):Bool×PS:=if isF C t s then(true,s.next)else(false,s)
def aY (t:List UInt8) (s:PS):PS:=if isF C t s then s.next else bT C 51 s
def gU:List (List UInt8):= [[102,110],[118,97,114],[112,116,114],[105,102],[101,108,115,101],[119,104,105,108,101],[114,101,116,117,114,110],[97,115,115,101,114,116],[110,117,108,108],[99,101,108,108],[97,114,114,97,121]]
def qp (t:List UInt8):Bool:=gU.any fun x=>x==t
def cu (s:PS):Bool:=s.e==0&&(match C.tk[s.i]? with|some x=>x.k==0&& !qp x.t|none=>false)
def aK (s:PS):List UInt8×PS:=if cu C s then((match C.tk[s.i]? with|some x=>x.t|none=> []),s.next)else([],bT C 51 s)
def aV (s:PS):Bool×PS:=if s.e≠0 then(false,s)else if 40≤s.deep then(false,bT C 52 s)else(true,{s with deep:=s.deep+1})
def w64 (x:Int):Int:=(x+9223372036854775808)%18446744073709551616-9223372036854775808
def rD:List UInt8→Int→Int
 | [],n=>n
 |c::r,n=>rD r (w64 (w64 (10*n)+(c-48).toNat))
def unF (sum un:PS→Ex×PS) (s:PS):Ex×PS:=
 if s.e≠0 then(.nil,bT C 51 s)else
 match C.tk[s.i]? with
 |none=>(.nil,bT C 51 s)
 |some x=>
  if isF C [45] s then
   if (aV C s).1 then(.mk 7 0 [] (un (aV C s).2.next).1 .nil,(un (aV C s).2.next).2.shut)else(.nil,(aV C s).2)
  else if isF C [40] s then
   if (aV C s).1 then((sum (aV C s).2.next).1,(aY C [41] (sum (aV C s).2.next).2).shut)else(.nil,(aV C s).2)
  else if x.k=1 then(.mk 0 (rD x.t 0) [] .nil .nil,s.next)
  else if cu C s then(.mk 1 0 (aK C s).1 .nil .nil,(aK C s).2)
  else(.nil,bT C 51 s)
def gW (s:PS):Nat:=if isF C [42] s then 4 else if isF C [47] s then 5 else if isF C [37] s then 6 else 0
def kS (s:PS):Nat:=if isF C [45] s then 3 else if isF C [43] s then 2 else 0
def moreL (kf:PS→Nat) (part:PS→Ex×PS):Nat→Ex→PS→Ex×PS
 |0,a,s=>(a,s)
 |f+1,a,s=>if s.e≠0 then(a,s)else if kf s=0 then(a,s)else moreL kf part f (.mk (kf s) 0 [] a (part s.next).1) (part s.next).2
def nX (un:PS→Ex×PS) (s:PS):Ex×PS:=moreL (gW C) un (C.tk.length+1) (un s).1 (un s).2
def sumF (un:PS→Ex×PS) (s:PS):Ex×PS:=moreL (kS C) (nX C un) (C.tk.length+1) (nX C un s).1 (nX C un s).2
def unD:Nat→PS→Ex×PS
 |0=>unF C (fun s=>(.nil,s)) (fun s=>(.nil,s))
 |d+1=>unF C (sumF C (unD d)) (unD d)
def uG (d:Nat):PS→Ex×PS:=nX C (unD C d)
def sS (d:Nat):PS→Ex×PS:=sumF C (unD C d)
def vY:List (List UInt8):= [[61,61],[33,61],[60],[60,61],[62],[62,61]]
def pW (sum:PS→Ex×PS) (a:Ex):Nat→List (List UInt8)→PS→Cn×PS
 |_,[],s=>(.nil,bT C 51 s)
 |k,t::r,s=>if isF C t s then(.mk k a (sum s.next).1 .nil .nil [],(sum s.next).2)else pW sum a (k+1) r s
def fB (i:Nat):List UInt8:=match C.tk[i]? with|some x=>x.t|none=> []
def zM (s:PS):Bool:=cu C s&&(decide (s.i+2<C.tk.length)&&(fB C (s.i+2)== [110,117,108,108]&&(fB C (s.i+1)== [61,61]||fB C (s.i+1)== [33,61])))
def nG (sum:PS→Ex×PS) (cond not_:PS→Cn×PS) (s:PS):Cn×PS:=
 if isF C [33] s then
  if (aV C s).1 then(.mk 8 .nil .nil (not_ (aV C s).2.next).1 .nil [],(not_ (aV C s).2.next).2.shut)else(.nil,(aV C s).2)
 else if isF C [40] s then
  if (aV C s).1 then((cond (aV C s).2.next).1,(aY C [41] (cond (aV C s).2.next).2).shut)else(.nil,(aV C s).2)
 else if zM C s then
  ((if fB C (s.i+1)== [33,61]then .mk 8 .nil .nil (.mk 9 .nil .nil .nil .nil (fB C s.i)) .nil []else .mk 9 .nil .nil .nil .nil (fB C s.i)),{s with i:=s.i+3})
 else pW C sum (sum s).1 0 vY (sum s).2
def joinL (t:List UInt8) (k:Nat) (part:PS→Cn×PS):Nat→Cn→PS→Cn×PS
 |0,c,s=>(c,s)
 |f+1,c,s=>if isF C t s then joinL t k part f (.mk k .nil .nil c (part s.next).1 []) (part s.next).2 else(c,s)
def BQ (not_:PS→Cn×PS) (s:PS):Cn×PS:=joinL C [38,38] 6 not_ (C.tk.length+1) (not_ s).1 (not_ s).2
def zW (not_:PS→Cn×PS) (s:PS):Cn×PS:=joinL C [124,124] 7 (BQ C not_) (C.tk.length+1) (BQ C not_ s).1 (BQ C not_ s).2
def qI:Nat→PS→Cn×PS
 |0=>nG C (sS C 0) (fun s=>(.nil,s)) (fun s=>(.nil,s))
 |d+1=>nG C (sS C (d+1)) (zW C (qI d)) (qI d)
def BR (d:Nat):PS→Cn×PS:=BQ C (qI C d)
def uT (d:Nat):PS→Cn×PS:=zW C (qI C d)
def lg (sum:PS→Ex×PS):Nat→List Ag→PS→List Ag×PS
 |0,_,s=>([],s)
 |f+1,l,s=>if s.e≠0 then([],s)else
  if isF C [41] (sum s).2 then(l++ [⟨false,[],(sum s).1⟩],(sum s).2.next)
  else lg sum f (l++ [⟨false,[],(sum s).1⟩]) (aY C [44] (sum s).2)
def jg (sum:PS→Ex×PS) (s:PS):List Ag×PS:=if isF C [41] s then([],s.next)else lg C sum (C.tk.length+1) [] s
def iI (sum:PS→Ex×PS) (h:Hd) (s:PS):Hd×PS:=
 if isF C [110,117,108,108] s then({h with k:=3},s.next)
 else if isF C [38] s then({h with k:=1,y:=(aK C s.next).1},(aK C s.next).2)
 else if isF C [42] s then({h with k:=4,y:=(aK C s.next).1},(aK C s.next).2)
 else if cu C s&&(decide (s.i+1<C.tk.length)&&fB C (s.i+1)== [91])then
  ({h with k:=6,y:=(aK C s).1,e:=(sum (aK C s).2.next).1},aY C [93] (sum (aK C s).2.next).2)
 else if cu C s&&(decide (s.i+1<C.tk.length)&&fB C (s.i+1)== [40])then
  ({h with k:=8,y:=(aK C s).1,args:=(jg C sum (aK C s).2.next).1},(jg C sum (aK C s).2.next).2)
 else({h with k:=0,e:=(sum s).1},(sum s).2)
def gJ (s:PS):Bool:=cu C s||isF C [42] s||isF C [114,101,116,117,114,110] s||isF C [97,115,115,101,114,116] s||isF C [105,102] s||isF C [119,104,105,108,101] s
def hd0 (n:Nat):Hd:=⟨0,[],[],.nil,.nil,.nil,[],n⟩
def PS.one (s:PS):PS:={s with n:=s.n+1}
def gX (sum:PS→Ex×PS) (cond:PS→Cn×PS) (n:Nat) (s:PS):Hd×PS:=
 if isF C [114,101,116,117,114,110] s then({hd0 n with k:=9,e:=(sum s.next).1},(sum s.next).2)
 else if isF C [97,115,115,101,114,116] s then({hd0 n with k:=12,c:=(cond (aY C [40] s.next)).1},aY C [41] (cond (aY C [40] s.next)).2)
 else if isF C [42] s then({hd0 n with k:=5,x:=(aK C s.next).1,e:=(sum (aY C [61] (aK C s.next).2)).1},(sum (aY C [61] (aK C s.next).2)).2)
 else if isF C [40] (aK C s).2 then({hd0 n with k:=8,y:=(aK C s).1,args:=(jg C sum (aK C s).2.next).1},(jg C sum (aK C s).2.next).2)
 else if isF C [91] (aK C s).2 then
  ({hd0 n with k:=7,y:=(aK C s).1,e:=(sum (aK C s).2.next).1,f:=(sum (aY C [61] (aY C [93] (sum (aK C s).2.next).2))).1},(sum (aY C [61] (aY C [93] (sum (aK C s).2.next).2))).2)
 else iI C sum {hd0 n with x:=(aK C s).1} (aY C [61] (aK C s).2)
def iG (cond:PS→Cn×PS) (s:PS):Cn×PS:=((cond (aY C [40] s.next)).1,aY C [41] (cond (aY C [40] s.next)).2)
def fV (sum:PS→Ex×PS) (cond:PS→Cn×PS) (block:PS→Sl×PS) (s:PS):(Hd×Sl×Sl)×PS:=
 if gJ C s&&decide (200≤s.n)then((hd0 s.n,.nil,.nil),bT C 53 s)
 else if isF C [105,102] s.one then
  if isF C [101,108,115,101] (block (iG C cond s.one).2).2 then
   (({hd0 s.n with k:=10,c:=(iG C cond s.one).1},(block (iG C cond s.one).2).1,(block (block (iG C cond s.one).2).2.next).1),(block (block (iG C cond s.one).2).2.next).2)
  else(({hd0 s.n with k:=10,c:=(iG C cond s.one).1},(block (iG C cond s.one).2).1,.nil),(block (iG C cond s.one).2).2)
 else if isF C [119,104,105,108,101] s.one then
  (({hd0 s.n with k:=11,c:=(iG C cond s.one).1},(block (iG C cond s.one).2).1,.nil),(block (iG C cond s.one).2).2)
 else(((gX C sum cond s.n s.one).1,.nil,.nil),aY C [59] (gX C sum cond s.n s.one).2)
def je (stmt:PS→(Hd×Sl×Sl)×PS):Nat→Sl→PS→Sl×PS
 |0,l,s=>(l,s)
 |f+1,l,s=>if s.e≠0 then(l,s)else if isF C [125] s then(l,s.next)else if C.tk.length≤s.i then(.nil,bT C 51 s)
  else je stmt f (l.snoc (stmt s).1.1 (stmt s).1.2.1 (stmt s).1.2.2) (stmt s).2
def lC (stmt:PS→(Hd×Sl×Sl)×PS) (s:PS):Sl×PS:=je C stmt (C.tk.length+1) .nil s
def iy (stmts:PS→Sl×PS) (s:PS):Sl×PS:=
 if isF C [123] s then
  if (aV C s).1 then((stmts (aV C s).2.next).1,(stmts (aV C s).2.next).2.shut)else(.nil,(aV C s).2)
 else(.nil,bT C 51 s)
def nP:Nat→PS→(Hd×Sl×Sl)×PS
 |0=>fV C (sS C 0) (uT C 0) (iy C fun s=>(.nil,s))
 |d+1=>fV C (sS C (d+1)) (uT C (d+1)) (iy C (lC C (nP d)))
def jq (d:Nat):PS→Sl×PS:=lC C (nP C d)
def eF (l:List Vr) (ptr:Bool) (most:Nat) (s:PS):List Vr×PS:=
 if cu C s&&decide (most≤l.length)then(l,bT C 53 s)else(l++ [⟨(aK C s).1,ptr⟩],(aK C s).2)
def gG:Nat→List Vr→PS→List Vr×PS
 |0,l,s=>(l,s)
 |f+1,l,s=>if s.e≠0 then(l,s)else
  if isF C [41] (eF C l (gq C [42] s).1 6 (gq C [42] s).2).2 then((eF C l (gq C [42] s).1 6 (gq C [42] s).2).1,(eF C l (gq C [42] s).1 6 (gq C [42] s).2).2.next)
  else gG f (eF C l (gq C [42] s).1 6 (gq C [42] s).2).1 (aY C [44] (eF C l (gq C [42] s).1 6 (gq C [42] s).2).2)
def mM (s:PS):List Vr×PS:=if isF C [41] s then([],s.next)else gG C (C.tk.length+1) [] s
def ji:Nat→List Vr→PS→List Vr×PS
 |0,l,s=>(l,s)
 |f+1,l,s=>if isF C [118,97,114] s||isF C [112,116,114] s then
   ji f (eF C l (isF C [112,116,114] s) 20 s.next).1 (aY C [59] (eF C l (isF C [112,116,114] s) 20 s.next).2)
  else(l,s)
def pY (s:PS):PS:=if isF C [123] s&&(aV C s).1 then(aV C s).2.next else bT C 51 (if isF C [123] s then(aV C s).2 else s)
def qw (s:PS):PS:=if s.e=0∧s.i<C.tk.length then bT C 51 s else s
end
def D9 (C:PC):List UInt8×PS:=aK C (aY C [102,110] ⟨0,0,0,0,0⟩)
def psF (C:PC):List Vr×PS:=mM C (aY C [40] (D9 C).2)
def lsF (C:PC):List Vr×PS:=ji C (C.tk.length+1) [] (pY C (psF C).2)
def ni (C:PC):Sl×PS:=jq C 39 (lsF C).2
def uO (C:PC):Fnc×Nat×Nat:=
 if (qw C (ni C).2).e≠0 then(Fnc.none,(qw C (ni C).2).at_,(qw C (ni C).2).e)
 else(⟨(D9 C).1,(psF C).1,(lsF C).1,(ni C).1⟩,0,0)
def funcF (l:List UInt8):Fnc×Nat×Nat:=
 if (o_ l).2.2≠0 then(Fnc.none,(o_ l).2.1,(o_ l).2.2)else uO ⟨(o_ l).1,l.length⟩
structure Stp (C:PC) (s s2:PS):Prop where
 i1:s.i≤s2.i
 i2:s.i≤C.tk.length→s2.i≤C.tk.length
 dp:s2.deep=s.deep
 er:s.e≠0→s2.e≠0
 nn:(s.n≤201∧(s.e=0→s.n≤200))→(s2.n≤201∧(s2.e=0→s2.n≤200))
 pl:∀M,(∀t∈C.tk,t.at_≤M)→C.end_≤M→s.at_≤M→s2.at_≤M
 ec:s.e≤100→s2.e≤100
section
variable {C:PC} {s s2 s3:PS}
theorem Stp.refl (s:PS):Stp C s s:=⟨Nat.le_refl _,id,rfl,id,id,fun _ _ _ h=>h,id⟩
theorem Stp.trans (h:Stp C s s2) (h2:Stp C s2 s3):Stp C s s3:=
 ⟨Nat.le_trans h.i1 h2.i1,fun x=>h2.i2 (h.i2 x),h2.dp.trans h.dp,fun x=>h2.er (h.er x),fun x=>h2.nn (h.nn x),fun M a b c=>h2.pl M a b (h.pl M a b c),fun x=>h2.ec (h.ec x)⟩
theorem Stp.fail (k:Nat) (hk:k≠0∧k≤100) (s:PS):Stp C s (bT C k s):=by
 unfold bT;by_cases h:s.e=0
 ·rw[if_pos h];refine⟨Nat.le_refl _,id,rfl,fun x=>absurd h x,fun x=>⟨x.1,fun y=>absurd y hk.1⟩,fun M a b c=> ?_,fun _=>hk.2⟩;show(match C.tk[s.i]? with|some t=>t.at_|none=>C.end_)≤M;split
  ·rename_i t ht;exact a t (List.mem_of_getElem? ht)
  ·exact b
 ·rw[if_neg h];exact Stp.refl s
theorem Stp.next (h:s.i<C.tk.length):Stp C s s.next:=⟨Nat.le_succ _,fun _=>h,rfl,id,id,fun _ _ _ x=>x,id⟩
theorem dD {t:List UInt8} (h:isF C t s=true):s.i<C.tk.length:=by
 unfold isF at h
 cases hx:C.tk[s.i]? with
 |none=>rw[hx]at h;simp at h
 |some x=>exact(List.getElem?_eq_some_iff.1 hx).1
theorem DX {t:List UInt8} (h:isF C t s=true):s.e=0:=by
 unfold isF at h;simp at h;exact h.1
theorem uK (h:cu C s=true):s.i<C.tk.length:=by
 unfold cu at h
 cases hx:C.tk[s.i]? with
 |none=>rw[hx]at h;simp at h
 |some x=>exact(List.getElem?_eq_some_iff.1 hx).1
theorem Stp.is_ {t:List UInt8} (h:isF C t s=true):Stp C s s.next:=Stp.next (dD h)
theorem Stp.CO (t:List UInt8) (s:PS):Stp C s (gq C t s).2:=by
 unfold gq;split
 ·exact Stp.is_ ‹_›
 ·exact Stp.refl s
theorem Stp.want (t:List UInt8) (s:PS):Stp C s (aY C t s):=by
 unfold aY;split
 ·exact Stp.is_ ‹_›
 ·exact Stp.fail 51 (by decide) s
theorem Stp.name (s:PS):Stp C s (aK C s).2:=by
 unfold aK;split
 ·exact Stp.next (uK ‹_›)
 ·exact Stp.fail 51 (by decide) s
theorem iK (h:(aV C s).1=true):(aV C s).2={s with deep:=s.deep+1}∧s.e=0∧s.deep<40:=by
 unfold aV at h⊢;split at h
 ·cases h
 ·split at h
  ·cases h
  ·rw[if_neg ‹_›,if_neg ‹_›];exact⟨rfl,by omega,by omega⟩
theorem Stp.nY (h:(aV C s).1=false):Stp C s (aV C s).2:=by
 unfold aV at h⊢;split
 ·exact Stp.refl s
 ·split
  ·exact Stp.fail 52 (by decide) s
  ·rw[if_neg ‹_›,if_neg ‹_›]at h;cases h
theorem Stp.bracket {t:List UInt8} (hi:isF C t s=true) (h:(aV C s).1=true) (h2:Stp C (aV C s).2.next s2):Stp C s s2.shut:=by
 obtain⟨e,_,_⟩:=iK h;rw[e]at h2;have hlt:=dD hi;have a1:=h2.i1;have a2:=h2.dp;simp only[PS.next]at a1 a2;refine⟨by simp only[PS.shut];omega,fun _=>h2.i2 hlt,?_,fun x=>h2.er x,fun x=>h2.nn x,fun M a b c=>h2.pl M a b c,fun x=>h2.ec x⟩;simp only[PS.shut];omega
theorem zG {sum un:PS→Ex×PS} (hs:∀s,Stp C s (sum s).2) (hu:∀s,Stp C s (un s).2) (s:PS):Stp C s (unF C sum un s).2:=by
 unfold unF;split
 ·exact Stp.fail 51 (by decide) s
 ·split
  ·exact Stp.fail 51 (by decide) s
  ·rename_i x hx;split
   ·split
    ·exact Stp.bracket ‹isF C [45] s=true› ‹_› (hu _)
    ·exact Stp.nY (by simpa using ‹¬(aV C s).1=true›)
   ·split
    ·split
     ·exact Stp.bracket ‹isF C [40] s=true› ‹_› ((hs _).trans (Stp.want _ _))
     ·exact Stp.nY (by simpa using ‹¬(aV C s).1=true›)
    ·split
     ·exact Stp.next (List.getElem?_eq_some_iff.1 hx).1
     ·split
      ·exact Stp.name s
      ·exact Stp.fail 51 (by decide) s
theorem Dp (h:gW C s≠0):s.i<C.tk.length:=by
 unfold gW at h;split at h
 ·exact dD ‹_›
 ·split at h
  ·exact dD ‹_›
  ·split at h
   ·exact dD ‹_›
   ·exact absurd rfl h
theorem EM (h:kS C s≠0):s.i<C.tk.length:=by
 unfold kS at h;split at h
 ·exact dD ‹_›
 ·split at h
  ·exact dD ‹_›
  ·exact absurd rfl h
theorem oW {kf:PS→Nat} {part:PS→Ex×PS} (hk:∀s,kf s≠0→s.i<C.tk.length) (hp:∀s,Stp C s (part s).2):∀(f:Nat) (a:Ex) (s:PS),Stp C s (moreL kf part f a s).2
 |0,_,s=>Stp.refl s
 |f+1,a,s=>by
  unfold moreL;split
  ·exact Stp.refl s
  ·split
   ·exact Stp.refl s
   ·exact((Stp.next (hk s ‹_›)).trans (hp _)).trans (oW hk hp f _ _)
theorem oQ {un:PS→Ex×PS} (hu:∀s,Stp C s (un s).2) (s:PS):Stp C s (nX C un s).2:=(hu s).trans (oW (fun _=>Dp) hu _ _ _)
theorem wH {un:PS→Ex×PS} (hu:∀s,Stp C s (un s).2) (s:PS):Stp C s (sumF C un s).2:=(oQ hu s).trans (oW (fun _=>EM) (oQ hu) _ _ _)
theorem kR:∀(d:Nat) (s:PS),Stp C s (unD C d s).2
 |0,s=>zG (fun s=>Stp.refl s) (fun s=>Stp.refl s) s
 |d+1,s=>zG (wH (kR d)) (kR d) s
theorem uF (d:Nat) (s:PS):Stp C s (uG C d s).2:=oQ (kR d) s
theorem fK (d:Nat) (s:PS):Stp C s (sS C d s).2:=wH (kR d) s
theorem yc {sum:PS→Ex×PS} (hs:∀s,Stp C s (sum s).2) (a:Ex):∀(l:List (List UInt8)) (k:Nat) (s:PS),Stp C s (pW C sum a k l s).2
 | [],_,s=>Stp.fail 51 (by decide) s
 |t::r,k,s=>by
  unfold pW;split
  ·exact(Stp.is_ ‹_›).trans (hs _)
  ·exact yc hs a r (k+1) s
theorem xq {sum:PS→Ex×PS} {cond not_:PS→Cn×PS} (hs:∀s,Stp C s (sum s).2) (hc:∀s,Stp C s (cond s).2) (hn:∀s,Stp C s (not_ s).2) (s:PS):Stp C s (nG C sum cond not_ s).2:=by
 unfold nG;split
 ·split
  ·exact Stp.bracket ‹isF C [33] s=true› ‹_› (hn _)
  ·exact Stp.nY (by simpa using ‹¬(aV C s).1=true›)
 ·split
  ·split
   ·exact Stp.bracket ‹isF C [40] s=true› ‹_› ((hc _).trans (Stp.want _ _))
   ·exact Stp.nY (by simpa using ‹¬(aV C s).1=true›)
  ·split
   ·rename_i h;unfold zM at h;simp only[Bool.and_eq_true,decide_eq_true_eq]at h;exact⟨by simp,fun _=>by simp only;omega,rfl,id,id,fun _ _ _ x=>x,id⟩
   ·exact(hs s).trans (yc hs _ _ _ _)
theorem pF {t:List UInt8} {k:Nat} {part:PS→Cn×PS} (hp:∀s,Stp C s (part s).2):∀(f:Nat) (c:Cn) (s:PS),Stp C s (joinL C t k part f c s).2
 |0,_,s=>Stp.refl s
 |f+1,c,s=>by
  unfold joinL;split
  ·exact((Stp.is_ ‹_›).trans (hp _)).trans (pF hp f _ _)
  ·exact Stp.refl s
theorem sJ {n:PS→Cn×PS} (hn:∀s,Stp C s (n s).2) (s:PS):Stp C s (BQ C n s).2:=(hn s).trans (pF hn _ _ _)
theorem uS {n:PS→Cn×PS} (hn:∀s,Stp C s (n s).2) (s:PS):Stp C s (zW C n s).2:=(sJ hn s).trans (pF (sJ hn) _ _ _)
theorem jw:∀(d:Nat) (s:PS),Stp C s (qI C d s).2
 |0,s=>xq (fK 0) (fun s=>Stp.refl s) (fun s=>Stp.refl s) s
 |d+1,s=>xq (fK (d+1)) (uS (jw d)) (jw d) s
theorem yt (d:Nat) (s:PS):Stp C s (BR C d s).2:=sJ (jw d) s
theorem iT (d:Nat) (s:PS):Stp C s (uT C d s).2:=uS (jw d) s
theorem vg {sum:PS→Ex×PS} (hs:∀s,Stp C s (sum s).2):∀(f:Nat) (l:List Ag) (s:PS),Stp C s (lg C sum f l s).2
 |0,_,s=>Stp.refl s
 |f+1,l,s=>by
  unfold lg;split
  ·exact Stp.refl s
  ·split
   ·exact(hs s).trans (Stp.is_ ‹_›)
   ·exact((hs s).trans (Stp.want _ _)).trans (vg hs f _ _)
theorem vk {sum:PS→Ex×PS} (hs:∀s,Stp C s (sum s).2) (s:PS):Stp C s (jg C sum s).2:=by
 unfold jg;split
 ·exact Stp.is_ ‹_›
 ·exact vg hs _ _ _
theorem jh {b:Bool} (h:(cu C s&&(decide (s.i+1<C.tk.length)&&b))=true):Stp C (aK C s).2 (aK C s).2.next:=by
 simp only[Bool.and_eq_true,decide_eq_true_eq]at h;refine Stp.next ?_;unfold aK;rw[if_pos h.1];exact h.2.1
theorem qN {sum:PS→Ex×PS} (hs:∀s,Stp C s (sum s).2) (h:Hd) (s:PS):Stp C s (iI C sum h s).2:=by
 unfold iI;split
 ·exact Stp.is_ ‹_›
 ·split
  ·exact(Stp.is_ ‹_›).trans (Stp.name _)
  ·split
   ·exact(Stp.is_ ‹_›).trans (Stp.name _)
   ·split
    ·exact(((Stp.name s).trans (jh ‹_›)).trans (hs _)).trans (Stp.want _ _)
    ·split
     ·exact((Stp.name s).trans (jh ‹_›)).trans (vk hs _)
     ·exact hs s
theorem rC {sum:PS→Ex×PS} {cond:PS→Cn×PS} (hs:∀s,Stp C s (sum s).2) (hc:∀s,Stp C s (cond s).2) (n:Nat) (s:PS):Stp C s (gX C sum cond n s).2:=by
 unfold gX;split
 ·exact(Stp.is_ ‹_›).trans (hs _)
 ·split
  ·exact(((Stp.is_ ‹_›).trans (Stp.want _ _)).trans (hc _)).trans (Stp.want _ _)
  ·split
   ·exact(((Stp.is_ ‹_›).trans (Stp.name _)).trans (Stp.want _ _)).trans (hs _)
   ·split
    ·exact((Stp.name s).trans (Stp.is_ ‹_›)).trans (vk hs _)
    ·split
     ·exact(((((Stp.name s).trans (Stp.is_ ‹_›)).trans (hs _)).trans (Stp.want _ _)).trans (Stp.want _ _)).trans (hs _)
     ·exact((Stp.name s).trans (Stp.want _ _)).trans (qN hs _ _)
theorem tX {cond:PS→Cn×PS} (hc:∀s,Stp C s (cond s).2) (h:s.i<C.tk.length):Stp C s (iG C cond s).2:=(((Stp.next h).trans (Stp.want _ _)).trans (hc _)).trans (Stp.want _ _)
theorem Stp.one (hn:s.n<200):Stp C s s.one:=⟨Nat.le_refl _,id,rfl,id,fun _=>⟨by simp only[PS.one];omega,fun _=>by simp only[PS.one];omega⟩,fun _ _ _ x=>x,id⟩
theorem kV {stmts:PS→Sl×PS} (hs:∀s,Stp C s (stmts s).2) (s:PS):Stp C s (iy C stmts s).2:=by
 unfold iy;split
 ·split
  ·exact Stp.bracket ‹isF C [123] s=true› ‹_› (hs _)
  ·exact Stp.nY (by simpa using ‹¬(aV C s).1=true›)
 ·exact Stp.fail 51 (by decide) s
theorem zQ {t:List UInt8} (h:s.e≠0):isF C t s=false:=by
 cases hx:isF C t s with
 |false=>rfl
 |true=>exact absurd (DX hx) h
theorem ug {sum:PS→Ex×PS} {cond:PS→Cn×PS} {block:PS→Sl×PS} (hs:∀s,Stp C s (sum s).2) (hc:∀s,Stp C s (cond s).2) (hb:∀s,Stp C s (block s).2) (s:PS) (he:s.e=0):Stp C s (fV C sum cond block s).2:=by
 unfold fV;by_cases hk:gJ C s=true
 ·rw[hk];by_cases hn:200≤s.n
  ·rw[if_pos (by simpa using hn)];exact Stp.fail 53 (by decide) s
  ·rw[if_neg (by simpa using hn)];have h1:=Stp.one (C:=C) (s:=s) (by omega);split
   ·rename_i hi;have h2:=(h1.trans (tX hc (dD hi))).trans (hb _);split
    ·exact(h2.trans (Stp.is_ ‹_›)).trans (hb _)
    ·exact h2
   ·split
    ·rename_i hi;exact(h1.trans (tX hc (dD hi))).trans (hb _)
    ·exact(h1.trans (rC hs hc _ _)).trans (Stp.want _ _)
 ·have hk':gJ C s=false:=by simpa using hk
  rw[hk'];unfold gJ at hk';simp only[Bool.or_eq_false_iff]at hk';obtain⟨⟨⟨⟨⟨k1,k2⟩,k3⟩,k4⟩,k5⟩,k6⟩:=hk';rw[if_neg (by simp),if_neg (by rw[show isF C [105,102] s.one=isF C [105,102] s from rfl,k5];simp),if_neg (by rw[show isF C [119,104,105,108,101] s.one=isF C [119,104,105,108,101] s from rfl,k6];simp)]
  have hnm:(aK C s.one).2=bT C 51 s.one:=by unfold aK;rw[if_neg (by rw[show cu C s.one=cu C s from rfl,k1];simp)]
  have he1:(aK C s.one).2.e≠0:=by rw[hnm];unfold bT;rw[if_pos (show s.one.e=0 from he)];simp
  have hp:gX C sum cond s.n s.one=iI C sum {hd0 s.n with x:=(aK C s.one).1} (aY C [61] (aK C s.one).2):=by
   unfold gX
   rw[if_neg (by rw[show isF C [114,101,116,117,114,110] s.one=isF C [114,101,116,117,114,110] s from rfl,k3];simp),if_neg (by rw[show isF C [97,115,115,101,114,116] s.one=isF C [97,115,115,101,114,116] s from rfl,k4];simp),if_neg (by rw[show isF C [42] s.one=isF C [42] s from rfl,k2];simp),if_neg (by rw[zQ he1];simp),if_neg (by rw[zQ he1];simp)]
  rw[hp];have h2:=((Stp.want [61] (aK C s.one).2).trans (qN hs {hd0 s.n with x:=(aK C s.one).1} _)).trans (Stp.want (C:=C) [59] _)
  have h0:Stp C s (aK C s.one).2:=by
   rw[hnm];have:=Stp.fail (C:=C) 51 (by decide) s.one
   exact⟨this.i1,this.i2,this.dp,this.er,fun x=>by
    rw[←hnm];refine⟨?_,fun y=>absurd y he1⟩;rw[hnm];unfold bT;rw[if_pos (show s.one.e=0 from he)];show s.n+1≤201;have:=x.2 he
    omega,this.pl,this.ec⟩
  exact h0.trans h2
theorem qR {stmt:PS→(Hd×Sl×Sl)×PS} (hs:∀s,s.e=0→Stp C s (stmt s).2):∀(f:Nat) (l:Sl) (s:PS),Stp C s (je C stmt f l s).2
 |0,_,s=>Stp.refl s
 |f+1,l,s=>by
  unfold je;split
  ·exact Stp.refl s
  ·split
   ·exact Stp.is_ ‹_›
   ·split
    ·exact Stp.fail 51 (by decide) s
    ·exact(hs s (by omega)).trans (qR hs f _ _)
theorem qU {stmt:PS→(Hd×Sl×Sl)×PS} (hs:∀s,s.e=0→Stp C s (stmt s).2) (s:PS):Stp C s (lC C stmt s).2:=qR hs _ _ _
theorem mF:∀(d:Nat) (s:PS),s.e=0→Stp C s (nP C d s).2
 |0,s,he=>ug (fK 0) (iT 0) (kV fun s=>Stp.refl s) s he
 |d+1,s,he=>ug (fK (d+1)) (iT (d+1)) (kV (qU (mF d))) s he
theorem qV (d:Nat) (s:PS):Stp C s (jq C d s).2:=qU (mF d) s
def zB (C:PC):Nat→PS→Sl×PS
 |0=>iy C fun s=>(.nil,s)
 |d+1=>iy C (jq C d)
theorem kW:∀(d:Nat) (s:PS),Stp C s (zB C d s).2
 |0,s=>kV (fun s=>Stp.refl s) s
 |d+1,s=>kV (qV d) s
theorem ou (k:Nat) (hk:k≠0) (s:PS):(bT C k s).e≠0:=by
 unfold bT;split
 ·exact hk
 ·assumption
theorem jm (l:List Vr) (p:Bool) (m:Nat) (s:PS):Stp C s (eF C l p m s).2:=by
 unfold eF;split
 ·exact Stp.fail 53 (by decide) s
 ·exact Stp.name s
theorem qA:∀(f:Nat) (l:List Vr) (s:PS),Stp C s (gG C f l s).2
 |0,_,s=>Stp.refl s
 |f+1,l,s=>by
  unfold gG;split
  ·exact Stp.refl s
  ·split
   ·exact((Stp.CO _ s).trans (jm _ _ _ _)).trans (Stp.is_ ‹_›)
   ·exact(((Stp.CO _ s).trans (jm _ _ _ _)).trans (Stp.want _ _)).trans (qA f _ _)
theorem w_ (s:PS):Stp C s (mM C s).2:=by
 unfold mM;split
 ·exact Stp.is_ ‹_›
 ·exact qA _ _ _
theorem qB:∀(f:Nat) (l:List Vr) (s:PS),Stp C s (ji C f l s).2
 |0,_,s=>Stp.refl s
 |f+1,l,s=>by
  unfold ji;split
  ·rename_i h
   have hlt:s.i<C.tk.length:=by simp only[Bool.or_eq_true]at h;rcases h with h|h<;>exact dD h
   exact(((Stp.next hlt).trans (jm _ _ _ _)).trans (Stp.want _ _)).trans (qB f _ _)
  ·exact Stp.refl s
end
def dX:List Vr→List UInt8→Nat
 | [],_=>0
 |v::l,x=>if v.nm==x then(if v.ptr then 2 else 1)else dX l x
def Ex.name:Ex→List UInt8
 | .nil=> []
 | .mk _ _ nm _ _=>nm
section
variable (K:List UInt8→Nat)
def dJ:Ex→Bool
 | .nil=>true
 | .mk k _ nm a b=>if k=1 then K nm !=2 else dJ a&&dJ b
def fZ:Cn→Bool
 | .nil=>true
 | .mk k a b p q nm=>if k=9 then K nm==2 else dJ K a&&dJ K b&&fZ p&&fZ q
def dN:Ex→Bool
 | .nil=>false
 | .mk k _ nm _ _=>k==1&&K nm==2
def jf (a:Ag):Ag×Bool:=if a.ptr then(a,K a.nm==2)else if dN K a.e then(⟨true,a.e.name,.nil⟩,true)else(a,dJ K a.e)
def qG (l:List Ag):List Ag×Bool:=(l.map fun a=>(jf K a).1,l.all fun a=>(jf K a).2)
def aS (h:Hd):Hd×Bool:=
 if h.k=0 then(if K h.x=2 then(if dN K h.e then(⟨2,h.x,h.e.name,.nil,.nil,.nil,[],h.at_⟩,true)else(h,false))else(h,dJ K h.e))
 else if h.k=2 then(h,K h.x==2&&K h.y==2)
 else if h.k=1 then(h,K h.x==2&&K h.y==0)
 else if h.k=3 then(h,K h.x==2)
 else if h.k=4 then(h,K h.x !=2&&K h.y==2)
 else if h.k=5 then(h,K h.x==2&&dJ K h.e)
 else if h.k=6 then(h,K h.x !=2&&K h.y==0&&dJ K h.e)
 else if h.k=7 then(h,K h.y==0&&dJ K h.e&&dJ K h.f)
 else if h.k=8 then({h with args:=(qG K h.args).1},((h.x== []||K h.x !=2)&&K h.y==0)&&(qG K h.args).2)
 else if h.k=9 then(h,dJ K h.e)
 else(h,fZ K h.c)
def turned (h:Hd):Bool:=h.k==0&&K h.x==2&&dN K h.e
def aO:Sl→Sl×Option Nat
 | .nil=>(.nil,none)
 | .cons h t e r=>
  if (aS K h).2 then
   (if turned K h then
    (match (aO r).2 with|some at_=>(.nil,some at_)|none=>(.cons (aS K h).1 .nil .nil (aO r).1,none))
   else match (aO t).2 with
    |some at_=>(.nil,some at_)
    |none=>match (aO e).2 with
     |some at_=>(.nil,some at_)
     |none=>match (aO r).2 with|some at_=>(.nil,some at_)|none=>(.cons (aS K h).1 (aO t).1 (aO e).1 (aO r).1,none))
  else(.nil,some h.at_)
def bQ:Ex→Bool
 | .nil=>true
 | .mk k _ nm a b=>(k !=1||K nm !=2)&&bQ a&&bQ b
def kG:Cn→Bool
 | .nil=>true
 | .mk k a b p q nm=>(k !=9||K nm==2)&&bQ K a&&bQ K b&&kG p&&kG q
def jE (a:Ag):Bool:=if a.ptr then K a.nm==2 else dN K a.e||bQ K a.e
def aB (h:Hd):Bool:=
 if h.k=0 then(if K h.x=2 then dN K h.e else bQ K h.e)
 else if h.k=2 then K h.x==2&&K h.y==2
 else if h.k=1 then K h.x==2&&K h.y==0
 else if h.k=3 then K h.x==2
 else if h.k=4 then K h.x !=2&&K h.y==2
 else if h.k=5 then K h.x==2&&bQ K h.e
 else if h.k=6 then K h.x !=2&&K h.y==0&&bQ K h.e
 else if h.k=7 then K h.y==0&&(bQ K h.e&&bQ K h.f)
 else if h.k=8 then(h.x== []||K h.x !=2)&&K h.y==0&&h.args.all (jE K)
 else if h.k=9 then bQ K h.e
 else if h.k=10∨h.k=11∨h.k=12 then kG K h.c
 else true
def dF:Sl→Option Nat
 | .nil=>none
 | .cons h t e r=>if aB K h then(match dF t with|some a=>some a|none=>match dF e with|some a=>some a|none=>dF r)else some h.at_
def fG (a:Ag):Ag:=if dN K a.e&& !a.ptr then⟨true,a.e.name,.nil⟩else a
def n_ (h:Hd):Hd:=if dN K h.e&&h.k==0 then{h with k:=2,y:=h.e.name,e:= .nil,args:=h.args.map (fG K)}else{h with args:=h.args.map (fG K)}
def dI:Sl→Sl
 | .nil=> .nil
 | .cons h t e r=> .cons (n_ K h) (dI t) (dI e) (dI r)
end
def WfE:Ex→Prop
 | .nil=>True
 | .mk k _ _ a b=>(k=1→a= .nil∧b= .nil)∧WfE a∧WfE b
def WfC:Cn→Prop
 | .nil=>True
 | .mk k a b p q _=>(k=9→a= .nil∧b= .nil∧p= .nil∧q= .nil)∧WfE a∧WfE b∧WfC p∧WfC q
structure WfH (h:Hd) (tt ee:Sl):Prop where
 e:WfE h.e
 f:WfE h.f
 c:WfC h.c
 a:∀a∈h.args,WfE a.e∧(a.ptr=true→a.e=Ex.nil)
 args:h.k≠8→h.args= []
 k0:h.k=0→h.f= .nil∧h.c= .nil∧tt= .nil∧ee= .nil
 k2:h.k=2→h.e= .nil
 k:h.k≤12
def WfS:Sl→Prop
 | .nil=>True
 | .cons h t e r=>WfH h t e∧WfS t∧WfS e∧WfS r
section
variable {K:List UInt8→Nat}
theorem gK:∀{e:Ex},WfE e→dJ K e=bQ K e
 | .nil,_=>rfl
 | .mk k n nm a b,⟨h1,ha,hb⟩=>by
  unfold dJ bQ;by_cases hk:k=1
  ·obtain⟨rfl,rfl⟩:=h1 hk;rw[if_pos hk];simp[hk,bQ]
  ·rw[if_neg hk,gK ha,gK hb]
   have:(k !=1)=true:=by simpa using hk
   rw[this,Bool.true_or,Bool.true_and]
theorem nJ:∀{c:Cn},WfC c→fZ K c=kG K c
 | .nil,_=>rfl
 | .mk k a b p q nm,⟨h1,ha,hb,hp,hq⟩=>by
  unfold fZ kG;by_cases hk:k=9
  ·obtain⟨rfl,rfl,rfl,rfl⟩:=h1 hk;rw[if_pos hk];simp[hk,bQ,kG]
  ·rw[if_neg hk,gK ha,gK hb,nJ hp,nJ hq]
   have:(k !=9)=true:=by simpa using hk
   rw[this,Bool.true_or,Bool.true_and]
theorem zU {h:Hd} (e:h.args= []):({h with args:= []}:Hd)=h:=by
 cases h;simp only at e;rw[e]
theorem sG:∀{l:List Ag},(∀a∈l,WfE a.e∧(a.ptr=true→a.e=Ex.nil))→(qG K l).2=l.all (jE K)∧(qG K l).1=l.map (fG K)
 | [],_=>⟨rfl,rfl⟩
 |a::l,h=>by
  obtain⟨i1,i2⟩:=sG (l:=l) fun x hx=>h x (List.mem_cons_of_mem _ hx);obtain⟨h1,h2⟩:=h a (List.mem_cons_self ..);unfold qG at i1 i2⊢;simp only at i1 i2
  have e1:(jf K a).2=jE K a:=by
   unfold jf jE
   cases hp:a.ptr with
   |true=>simp
   |false=>
    cases hq:dN K a.e with
    |true=>simp
    |false=>simp[gK h1]
  have e2:(jf K a).1=fG K a:=by
   unfold jf fG
   cases hp:a.ptr with
   |true=>simp
   |false=>
    cases hq:dN K a.e with
    |true=>simp
    |false=>simp
  exact⟨by rw[List.all_cons,List.all_cons,i1,e1],by rw[List.map_cons,List.map_cons,i2,e2]⟩
theorem yG {h:Hd} {t e:Sl} (H:WfH h t e):(aS K h).2=aB K h:=by
 have he:=gK (K:=K) H.e;have hf:=gK (K:=K) H.f;have hc:=nJ (K:=K) H.c;have ha:=(sG (K:=K) H.a).1;have hk:=H.k;unfold aS aB;rw[he,hf,hc,ha];by_cases h0:h.k=0
 ·rw[if_pos h0,if_pos h0];by_cases hx:K h.x=2
  ·rw[if_pos hx,if_pos hx]
   cases hp:dN K h.e with
   |true=>rw[if_pos rfl]
   |false=>rw[if_neg (by simp)]
  ·rw[if_neg hx,if_neg hx]
 rw[if_neg h0,if_neg h0];by_cases h2:h.k=2
 ·rw[if_pos h2,if_pos h2]
 rw[if_neg h2,if_neg h2];by_cases h1:h.k=1
 ·rw[if_pos h1,if_pos h1]
 rw[if_neg h1,if_neg h1];by_cases h3:h.k=3
 ·rw[if_pos h3,if_pos h3]
 rw[if_neg h3,if_neg h3];by_cases h4:h.k=4
 ·rw[if_pos h4,if_pos h4]
 rw[if_neg h4,if_neg h4];by_cases h5:h.k=5
 ·rw[if_pos h5,if_pos h5]
 rw[if_neg h5,if_neg h5];by_cases h6:h.k=6
 ·rw[if_pos h6,if_pos h6]
 rw[if_neg h6,if_neg h6];by_cases h7:h.k=7
 ·rw[if_pos h7,if_pos h7,Bool.and_assoc]
 rw[if_neg h7,if_neg h7];by_cases h8:h.k=8
 ·rw[if_pos h8,if_pos h8]
 rw[if_neg h8,if_neg h8];by_cases h9:h.k=9
 ·rw[if_pos h9,if_pos h9]
 rw[if_neg h9,if_neg h9,if_pos (by omega)]
theorem vS:∀{e:Ex},dN K e=true→bQ K e=false
 | .nil,h=>by cases h
 | .mk k n nm a b,h=>by unfold dN at h;simp at h;unfold bQ;simp[h.1,h.2]
theorem Aq {h:Hd} {t e:Sl} (H:WfH h t e) (hs:(aS K h).2=true):(aS K h).1=n_ K h:=by
 have ha:=(sG (K:=K) H.a).2;have hargs:=H.args;have hk0:=H.k0;unfold aS at hs⊢;unfold n_;by_cases h0:h.k=0
 ·have e0:=hargs (by omega);obtain⟨f0,c0,_⟩:=hk0 h0;rw[if_pos h0]at hs⊢;split
  ·rename_i hx;rw[if_pos hx]at hs;split
   ·rename_i hp;rw[hp,h0];simp[e0,f0,c0]
   ·rename_i hp;rw[if_neg hp]at hs;cases hs
  ·rename_i hx;rw[if_neg hx]at hs
   have:dN K h.e=false:=by
    cases hp:dN K h.e with
    |false=>rfl
    |true=>
     have:=vS hp;rw[←gK H.e]at this;rw[this]at hs;cases hs
   rw[this];simp only[Bool.false_and,Bool.false_eq_true,if_false,e0,List.map_nil];exact(zU e0).symm
 ·have hb:(h.k==0)=false:=by simpa using h0
  simp only[hb,Bool.and_false,Bool.false_eq_true,if_false];by_cases h8:h.k=8
  ·rw[if_neg h0,if_neg (by omega),if_neg (by omega),if_neg (by omega),if_neg (by omega),if_neg (by omega),if_neg (by omega),if_neg (by omega),if_pos h8];simp only[ha]
  ·have e0:=hargs h8
   have:h={h with args:=h.args.map (fG K)}:=by rw[e0];exact(zU e0).symm
   rw[←this];simp only[if_neg h0,if_neg h8]
   repeat' split
   all_goals rfl
theorem jJ:∀{l:Sl},WfS l→(aO K l).2=dF K l∧((aO K l).2=none→(aO K l).1=dI K l)
 | .nil,_=>⟨rfl,fun _=>rfl⟩
 | .cons h t e r,⟨H,ht,he,hr⟩=>by
  obtain⟨t1,t2⟩:=jJ ht;obtain⟨e1,e2⟩:=jJ he;obtain⟨r1,r2⟩:=jJ hr;have hs:=yG (K:=K) H;unfold aO dF dI;rw[←hs]
  cases hso:(aS K h).2 with
  |false=>simp
  |true=>
   have hh:=Aq H hso;simp only[if_true]
   cases htu:turned K h with
   |true=>
    have hk:h.k=0:=by unfold turned at htu;simp at htu;exact htu.1.1
    obtain⟨_,_,rfl,rfl⟩:=H.k0 hk;simp only[if_true,dF,dI];rw[←r1]
    cases hr2:(aO K r).2 with
    |some a=>simp
    |none=>simp[hh,r2 hr2]
   |false=>
    simp only[Bool.false_eq_true,if_false];rw[←t1,←e1,←r1]
    cases ht2:(aO K t).2 with
    |some a=>simp
    |none=>
     cases he2:(aO K e).2 with
     |some a=>simp
     |none=>
      cases hr2:(aO K r).2 with
      |some a=>simp
      |none=>simp[hh,t2 ht2,e2 he2,r2 hr2]
end
end Go.Proofs.YtpndglghpojjkaaGreat
namespace Go.Proofs.YtpndglghpojjkaaGreat
open Go.RowKit
def aP (o:Oper):List Nat:=(o.after.toList.filter fun e=>Region.binds .any e).map (·.on)
def B_ (ops:Array Oper) (V:Nat→World→Value→Prop) (tmps:Array Value) (w:World):List Nat→Prop
 | []=>True
 |j::r=>(match (ops[j]?).bind (·.dst)with|some d=>V j w (tmps.getD d undef)|none=>True)∧B_ ops V tmps w r
def fH (P:Program) (R:Value→World→Prop):Result Next→Prop
 | .ok (.value v) w'=>R v w'
 | .ok .skip w'=>R undef w'
 | .ok (.enter f args) w'=>Calls P f args w' fun e w''=>∃v,e= .returned v∧R v w''
 |_=>False
def Af (P:Program) (ops:Array Oper) (V:Nat→World→Value→Prop) (C:(Nat→Bool)→World→Prop) (G:Nat→World→World→Prop) (i:Nat) (o:Oper) (a:Act):Prop:=
 ∀w L,C L w→L i=false→(∀j∈aP o,L j=true)→(∀j oj,ops[j]? =some oj→i∈aP oj→L j=false)→B_ ops V a.tmps w (aP o)→
  if Region.wanted o (yielded ops a.tmps)then fH P (fun v w'=>C (fun k=>k==i||L k) w'∧G i w w'∧V i w' v) ((execOp a.eval o).run P w)
  else V i w undef∧C (fun k=>k==i||L k) w
def lI (ops:Array Oper):Bool:=
 (List.range ops.size).all fun i=>match ops[i]? with
  |none=>true
  |some o=>(aP o).all (·<i)&&(match o.op with| .select .. =>false|_=>true)&&
   (List.range ops.size).all fun j=>match ops[j]? with
    |none=>true
    |some oj=>match oj.dst with
     |none=>true
     |some d=>(i==j||o.dst !=some d)&&(!(o.looksAt ops).contains d|| (aP o).contains j|| (aP oj).contains i)
section
variable {P:Program} {ops:Array Oper} {V:Nat→World→Value→Prop} {C:(Nat→Bool)→World→Prop} {G:Nat→World→World→Prop} {Q:Act→World→Prop}
theorem dW (h:lI ops=true) {i:Nat} {o:Oper} (hi:ops[i]? =some o):
  (∀j∈aP o,j<i)∧(∀cs b,o.op≠.select cs b)∧∀j oj d,ops[j]? =some oj→oj.dst=some d→(i≠j→o.dst≠some d)∧(d∈o.looksAt ops→j∈aP o∨i∈aP oj):=by
 have hlt:i<ops.size:=(Array.getElem?_eq_some_iff.1 hi).1;have h1:=List.all_eq_true.1 h i (List.mem_range.2 hlt);simp only[hi,Bool.and_eq_true]at h1;obtain⟨⟨ha,hb⟩,hc⟩:=h1;refine⟨fun j hj=>by simpa using List.all_eq_true.1 ha j hj,fun cs b e=>by rw[e]at hb;simp at hb,fun j oj d hj hd=> ?_⟩;have hjl:j<ops.size:=(Array.getElem?_eq_some_iff.1 hj).1
 have h2:=List.all_eq_true.1 hc j (List.mem_range.2 hjl);simp only[hj,hd,Bool.and_eq_true,Bool.or_eq_true,beq_iff_eq,bne_iff_ne,Bool.not_eq_true']at h2;refine⟨fun hne=>(h2.1.resolve_left hne),fun hm=> ?_⟩;rcases h2.2 with(h3|h3)|h3
 ·rw[List.contains_iff_mem.2 hm]at h3;cases h3
 ·exact .inl (List.contains_iff_mem.1 h3)
 ·exact .inr (List.contains_iff_mem.1 h3)
def bW (ops:Array Oper) (x:Nat→Value) (a0:Act):Nat→Act
 |0=>a0
 |n+1=>(bW ops x a0 n).put ((ops[n]?).bind (·.dst)) (x n)
theorem nU (a:Act) (d:Option Tmp) (v:Value):(a.put d v).tmps.size=a.tmps.size:=by cases d<;>simp[Act.put]
theorem put_defers (a:Act) (d:Option Tmp) (v:Value):(a.put d v).defers=a.defers:=by cases d<;>rfl
theorem dZ (x:Nat→Value) (a0:Act) (n:Nat):(bW ops x a0 n).tmps.size=a0.tmps.size:=by
 induction n with
 |zero=>rfl
 |succ n ih=>show((bW ops x a0 n).put _ _).tmps.size=_;rw[nU,ih]
theorem jK (x:Nat→Value) (a0:Act) (n:Nat):(bW ops x a0 n).defers=a0.defers:=by
 induction n with
 |zero=>rfl
 |succ n ih=>show((bW ops x a0 n).put _ _).defers=_;rw[put_defers,ih]
theorem fJ (a:Act) (d:Tmp) (v:Value) (t:Tmp):(a.put (some d) v).tmps.getD t undef=if t=d∧t<a.tmps.size then v else a.tmps.getD t undef:=by
 simp only[Act.put,Array.getD_eq_getD_getElem?,Array.getElem?_setIfInBounds];by_cases h:d=t
 ·subst h;by_cases h2:d<a.tmps.size
  ·simp[h2]
  ·simp[h2]
 ·rw[if_neg h,if_neg (fun e=>h e.1.symm)]
theorem dV (x:Nat→Value) (a0:Act) (n:Nat) (t:Tmp) (h:∀j,j<n→(ops[j]?).bind (·.dst)≠some t):(bW ops x a0 n).tmps.getD t undef=a0.tmps.getD t undef:=by
 induction n with
 |zero=>rfl
 |succ n ih=>
  show((bW ops x a0 n).put _ _).tmps.getD t undef=_;rw[←ih fun j hj=>h j (by omega)];have hn:=h n (by omega)
  cases hd:(ops[n]?).bind (·.dst)with
  |none=>rfl
  |some d=>
   rw[fJ,if_neg];rintro⟨rfl,_⟩;exact hn hd
theorem EP (x:Nat→Value) (a0:Act) (n:Nat) (t:Tmp) (j:Nat) (hj:j<n) (hd:(ops[j]?).bind (·.dst)=some t) (FB:∀k,k<n→(ops[k]?).bind (·.dst)=some t→k=j) (ht:t<a0.tmps.size):
  (bW ops x a0 n).tmps.getD t undef=x j:=by
 induction n with
 |zero=>omega
 |succ n ih=>
  show((bW ops x a0 n).put _ _).tmps.getD t undef=_;by_cases e:j=n
  ·subst e;rw[hd,fJ,if_pos ⟨rfl,by rw[dZ];exact ht⟩]
  ·have:=ih (by omega) (fun k hk hkd=>FB k (by omega) hkd);rw[←this]
   cases hd2:(ops[n]?).bind (·.dst)with
   |none=>rfl
   |some d=>
    rw[fJ,if_neg];rintro⟨rfl,_⟩;exact e (FB n (by omega) hd2).symm
structure Lex (ops:Array Oper) (V:Nat→World→Value→Prop) (C:(Nat→Bool)→World→Prop) (a0:Act) (listed:Array Bool) (a:Act) (w:World):Prop where
 cls:C (fun k=>listed.getD k true) w
 lsize:listed.size=ops.size
 size:a.tmps.size=a0.tmps.size
 defers:a.defers=a0.defers
 closed:∀(i:Nat) o,ops[i]? =some o→listed.getD i true=true→∀j∈aP o,listed.getD j true=true
 done:∀(i:Nat) o,ops[i]? =some o→listed.getD i true=true→∀d,o.dst=some d→V i w (a.tmps.getD d undef)
 rest:∀t,(∀(i:Nat) o,ops[i]? =some o→listed.getD i true=true→o.dst≠some t)→a.tmps.getD t undef=a0.tmps.getD t undef
theorem oh {x:Array Value} {t:Nat} (h:x.size≤t):x.getD t undef=undef:=by
 rw[Array.getD_eq_getD_getElem?,Array.getElem?_eq_none h];rfl
def valsOf (ops:Array Oper) (a:Act) (k:Nat):Value:=match (ops[k]?).bind (·.dst)with|some d=>a.tmps.getD d undef|none=>undef
theorem fU {a a0:Act} (hs:a.tmps.size=a0.tmps.size) (n:Nat) (t:Tmp) (h:∃j,j<n∧(ops[j]?).bind (·.dst)=some t):(bW ops (valsOf ops a) a0 n).tmps.getD t undef=a.tmps.getD t undef:=by
 induction n with
 |zero=>obtain⟨j,hj,_⟩:=h;omega
 |succ n ih=>
  show((bW ops _ a0 n).put _ (valsOf ops a n)).tmps.getD t undef=_;by_cases e:(ops[n]?).bind (·.dst)=some t
  ·have hv:valsOf ops a n=a.tmps.getD t undef:=by unfold valsOf;rw[e]
   rw[e,fJ,hv,dZ];by_cases ht:t<a0.tmps.size
   ·rw[if_pos ⟨rfl,ht⟩]
   ·rw[if_neg (fun h=>ht h.2),oh (x:=(bW ops (valsOf ops a) a0 n).tmps) (t:=t) (by rw[dZ];exact Nat.le_of_not_lt ht),oh (x:=a.tmps) (t:=t) (by rw[hs];exact Nat.le_of_not_lt ht)]
  ·have h':∃j,j<n∧(ops[j]?).bind (·.dst)=some t:=by
    obtain⟨j,hj,hd⟩:=h;refine⟨j,?_,hd⟩;rcases Nat.lt_or_ge j n with hl|hl
    ·exact hl
    ·obtain rfl:j=n:=by omega
     exact absurd hd e
   rw[←ih h']
   cases hd:(ops[n]?).bind (·.dst)with
   |none=>rfl
   |some d=>
    rw[fJ,if_neg];rintro⟨rfl,_⟩;exact e hd
theorem iZ {x y:Array Value} (hs:x.size=y.size) {t:Nat} (h:x.getD t undef=y.getD t undef):x[t]? =y[t]? :=by
 rw[Array.getD_eq_getD_getElem?,Array.getD_eq_getD_getElem?]at h;by_cases ht:t<x.size
 ·rw[Array.getElem?_eq_getElem ht,Array.getElem?_eq_getElem (by omega)]at h⊢;simpa using h
 ·rw[Array.getElem?_eq_none (by omega),Array.getElem?_eq_none (by omega)]
theorem oH {o:Oper} {a b:Act} (hs:a.tmps.size=b.tmps.size) (h:∀t∈o.looksAt ops,a.tmps.getD t undef=b.tmps.getD t undef):
  Region.wanted o (yielded ops a.tmps)=Region.wanted o (yielded ops b.tmps):=by
 unfold Region.wanted
 cases hg:o.guard with
 |none=>rfl
 |some g=>
  obtain⟨j,want⟩:=g;simp only;congr 1;unfold yielded
  cases hd:(ops[j]?).bind (·.dst)with
  |none=>rfl
  |some d=>
   simp only[Option.bind_some];rw[iZ hs (h d ?_)];unfold Oper.looksAt;simp only[hg];refine List.mem_append_right _ ?_
   first
    | (rw[hd];simp;done)
    | (simp[hd];done)
    |simp_all
def iW (n:Nat) (listed:Array Bool):Nat:=((List.range n).filter fun i=> !listed.getD i true).length
theorem kQ {n:Nat} {listed:Array Bool} (hs:listed.size=n) {i:Nat} (hi:i<n) (hu:listed.getD i true=false):iW n (listed.setIfInBounds i true)+1=iW n listed:=by
 have key:∀l:List Nat,l.Nodup→(∀k∈l,k<n)→((l.filter fun k=> !(listed.setIfInBounds i true).getD k true).length+(if i∈l then 1 else 0)=(l.filter fun k=> !listed.getD k true).length):=by
  intro l
  induction l with
  |nil=>simp
  |cons k l ih=>
   intro hn hl;rw[List.nodup_cons]at hn;have:=ih hn.2 fun j hj=>hl j (List.mem_cons_of_mem _ hj)
   have hg:(listed.setIfInBounds i true).getD k true=if k=i then true else listed.getD k true:=by
    simp only[Array.getD_eq_getD_getElem?,Array.getElem?_setIfInBounds];by_cases e:i=k
    ·subst e;simp[hs,hi]
    ·rw[if_neg e,if_neg (fun h=>e h.symm)]
   rw[List.filter_cons,List.filter_cons,hg];by_cases e:k=i
   ·subst e;simp only[if_true,Bool.not_true,Bool.false_eq_true,if_false,hu,Bool.not_false,List.length_cons,List.mem_cons,true_or];rw[if_neg hn.1]at this;omega
   ·rw[if_neg e]
    have hm:(i∈k::l)↔i∈l:=by simp[Ne.symm e]
    by_cases hk:listed.getD k true=true
    ·simp only[hk,Bool.not_true,Bool.false_eq_true,if_false,hm];exact this
    ·simp only[hk,Bool.not_false,if_true,List.length_cons,hm];omega
 have:=key (List.range n) List.nodup_range (fun k hk=>List.mem_range.1 hk);rw[if_pos (List.mem_range.2 hi)]at this;exact this
theorem Ah {a0:Act} {Q':Exit→Act→World→Prop} (hok:lI ops=true) (hN:∀(i:Nat) o d,ops[i]? =some o→o.dst=some d→d<a0.tmps.size)
  (hmono:∀(i j:Nat) oj,ops[j]? =some oj→i∉aP oj→i≠j→∀w w' v,G i w w'→V j w v→V j w' v) (steps:∀x (i:Nat) o,ops[i]? =some o→Af P ops V C G i o (bW ops x a0 i))
  (hQ:∀x w,C (fun _=>true) w→(∀(k:Nat) o,ops[k]? =some o→o.dst.isSome=true→V k w (x k))→Q' .normal (bW ops x a0 ops.size) w):
  ∀(fuel:Nat) (listed:Array Bool) (a:Act) (w:World),iW ops.size listed=fuel→Lex ops V C a0 listed a w→wpAny P .any ops Q' fuel listed a w:=by
 have hend:∀(listed:Array Bool) (a:Act) (w:World),(∀i,i<ops.size→listed.getD i true=true)→Lex ops V C a0 listed a w→Q' .normal a w:=by
  intro listed a w hall hl;have hC:=hl.cls
  rw[show(fun k=>listed.getD k true)=fun _=>true from funext fun k=>by
   by_cases hk:k<ops.size
   ·exact hall k hk
   ·rw[Array.getD_eq_getD_getElem?,Array.getElem?_eq_none (by rw[hl.lsize];omega)];rfl]at hC
  have hq:=hQ (valsOf ops a) w hC fun k o hk hs=>by obtain⟨d,hd⟩:=Option.isSome_iff_exists.1 hs;have:=hl.done k _ hk (hall k (Array.getElem?_eq_some_iff.1 hk).1) d hd;unfold valsOf;rw[hk];simp only[Option.bind_some,hd];exact this
  have e:bW ops (valsOf ops a) a0 ops.size=a:=by
   have hsz:(bW ops (valsOf ops a) a0 ops.size).tmps.size=a.tmps.size:=by rw[dZ,hl.size]
   have hd:(bW ops (valsOf ops a) a0 ops.size).defers=a.defers:=by rw[jK,hl.defers]
   have ht:(bW ops (valsOf ops a) a0 ops.size).tmps=a.tmps:=by
    apply Array.ext_getElem?;intro t;apply iZ hsz;by_cases hw:∃j,j<ops.size∧(ops[j]?).bind (·.dst)=some t
    ·exact fU hl.size _ _ hw
    ·rw[dV _ _ _ _ (fun j hj hd=>hw ⟨j,hj,hd⟩)];exact(hl.rest t fun i o hi _ hd=>hw ⟨i,(Array.getElem?_eq_some_iff.1 hi).1,by rw[hi];exact hd⟩).symm
   cases h1:bW ops (valsOf ops a) a0 ops.size;cases a;simp only[h1]at hd ht;rw[hd,ht]
  rw[e]at hq;exact hq
 intro fuel
 induction fuel with
 |zero=>
  intro listed a w hu hl
  have hall:∀i,i<ops.size→listed.getD i true=true:=by intro i hi;have:=List.eq_nil_of_length_eq_zero hu;have h2:=List.filter_eq_nil_iff.1 this i (List.mem_range.2 hi);simpa using h2
  refine⟨?_,hend listed a w hall hl⟩;unfold Region.ready;rw[List.filter_eq_nil_iff];intro i hi;simp[hall i (List.mem_range.1 hi)]
 |succ fuel ih=>
  intro listed a w hu hl;refine⟨fun hr=>hend listed a w ?_ hl,fun i hi=> ?_⟩
  ·have hall:∀n,∀i,i<n→i<ops.size→listed.getD i true=true:=by
    intro n
    induction n with
    |zero=>intro i h;omega
    |succ n ihn=>
     intro i hin hio;by_cases hlt:i<n
     ·exact ihn i hlt hio
     ·obtain rfl:i=n:=by omega
      unfold Region.ready at hr;have h2:=List.filter_eq_nil_iff.1 hr i (List.mem_range.2 hio)
      cases hb:listed.getD i true with
      |true=>rfl
      |false=>
       exfalso;apply h2;have hoi:ops[i]? =some ops[i]:=Array.getElem?_eq_getElem hio;have fP:=(dW hok hoi).1;rw[hb,hoi];simp only[Bool.not_false,Bool.true_and,Option.map_some,Option.getD_some];rw[Array.all_eq_true_iff_forall_mem];intro e he
       cases hbn:Region.binds .any e with
       |false=>rfl
       |true=>
        have hm:e.on∈aP ops[i]:=List.mem_map.2 ⟨e,List.mem_filter.2 ⟨by simpa using he,hbn⟩,rfl⟩;have h3:=ihn e.on (fP _ hm) (by have:=fP _ hm;omega)
        have h4:e.on<listed.size:=by rw[hl.lsize];have:=fP _ hm;omega
        simp only[Array.getD_eq_getD_getElem?,Array.getElem?_eq_getElem h4]at h3⊢;simpa using h3
   exact fun i hi=>hall (i+1) i (by omega) hi
  ·unfold Region.ready at hi;obtain⟨hir,hcond⟩:=List.mem_filter.1 hi;have hio:=List.mem_range.1 hir;have hoi:ops[i]? =some ops[i]:=Array.getElem?_eq_getElem hio;generalize ops[i]=o at hoi;simp only[hoi,Option.map_some,Option.getD_some,Bool.and_eq_true,Bool.not_eq_true']at hcond;obtain⟨hun,hafter⟩:=hcond;obtain⟨rP,hsel,hshape⟩:=dW hok hoi
   have fP:∀j∈aP o,listed.getD j true=true:=by
    intro j hj;obtain⟨e,he,rfl⟩:=List.mem_map.1 hj;obtain⟨he1,he2⟩:=List.mem_filter.1 he;have h3:=(Array.all_eq_true_iff_forall_mem.1 hafter) e (by simpa using he1);rw[he2]at h3;simp only[Bool.not_true,Bool.false_or]at h3
    have h4:e.on<listed.size:=by rw[hl.lsize];have:=rP _ hj;omega
    simp only[Array.getD_eq_getD_getElem?,Array.getElem?_eq_getElem h4]at h3⊢;simpa using h3
   have hnext:∀j oj,ops[j]? =some oj→i∈aP oj→listed.getD j true=false:=by
    intro j oj hj hij
    cases hb:listed.getD j true with
    |false=>rfl
    |true=>
     have:=hl.closed j oj hj hb i hij;rw[hun]at this;cases this
   let x:=valsOf ops a
   have hlook:∀t∈o.looksAt ops,(bW ops x a0 i).tmps.getD t undef=a.tmps.getD t undef:=by
    intro t ht;by_cases hw:∃j,j<i∧(ops[j]?).bind (·.dst)=some t
    ·exact fU hl.size _ _ hw
    ·rw[dV _ _ _ _ (fun j hj hd=>hw ⟨j,hj,hd⟩)];refine(hl.rest t fun k ok hk hlk hdk=> ?_).symm;rcases(hshape k ok t hk hdk).2 ht with h1|h1
     ·exact hw ⟨k,rP k h1,by rw[hk];exact hdk⟩
     ·have:=hl.closed k ok hk hlk i h1;rw[hun]at this;cases this
   have DY:(bW ops x a0 i).tmps.size=a.tmps.size:=by rw[dZ,hl.size]
   have hex:execOp (bW ops x a0 i).eval o=execOp a.eval o:=execOp_congr o hsel fun y hy=>by
    cases y with
    |tmp t=>
     have:t∈o.looksAt ops:=List.mem_append_left _ (List.mem_filterMap.2 ⟨.tmp t,by simpa using hy,rfl⟩);have h5:=hlook t this;simpa[Act.eval]using h5
    |_=>rfl
   have hwt:=oH (ops:=ops) (o:=o) DY hlook
   have xO:∀l:List Nat,(∀j∈l,j∈aP o)→B_ ops V (bW ops x a0 i).tmps w l:=by
    intro l
    induction l with
    |nil=>intro _;trivial
    |cons j l ihl=>
     intro hj;refine⟨?_,ihl fun k hk=>hj k (List.mem_cons_of_mem _ hk)⟩;have hjd:=hj j (List.mem_cons_self ..);have hji:=rP j hjd;have hoj:ops[j]? =some ops[j]:=Array.getElem?_eq_getElem (by omega);have hd:=hl.done j _ hoj (fP j hjd)
     cases hdst:(ops[j]?).bind (·.dst)with
     |none=>trivial
     |some d=>
      show V j w _;rw[hoj]at hdst;simp only[Option.bind_some]at hdst;rw[fU hl.size i d ⟨j,hji,by rw[hoj];exact hdst⟩];exact hd d hdst
   have hst:=steps x i o hoi w (fun k=>listed.getD k true) hl.cls hun fP hnext (xO _ fun _ h=>h);rw[hwt,hex]at hst
   have hset:∀k,(listed.setIfInBounds i true).getD k true=(k==i||listed.getD k true):=by
    intro k;simp only[Array.getD_eq_getD_getElem?,Array.getElem?_setIfInBounds];by_cases e:i=k
    ·subst e;simp[hl.lsize,hio]
    ·rw[if_neg e];simp[Ne.symm e]
   have go:∀v w',C (fun k=>k==i||listed.getD k true) w'→(∀(k:Nat) ok,ops[k]? =some ok→i∉aP ok→i≠k→∀u,V k w u→V k w' u)→V i w' v→wpAny P .any ops Q' fuel (listed.setIfInBounds i true) (a.put o.dst v) w':=by
    intro v w' hC hm hV;apply ih
    ·have:=kQ hl.lsize hio hun;omega
    ·refine⟨?_,by simp[hl.lsize],by rw[nU];exact hl.size,by rw[put_defers];exact hl.defers,?_,?_,?_⟩
     ·rw[show(fun k=>(listed.setIfInBounds i true).getD k true)=fun k=>k==i||listed.getD k true from funext hset];exact hC
     ·intro k ok hk hlk j hj;rw[hset]at hlk⊢;by_cases e:k=i
      ·subst e;rw[hoi]at hk;cases hk;rw[fP j hj];simp
      ·have:listed.getD k true=true:=by simpa[e]using hlk
       rw[hl.closed k ok hk this j hj];simp
     ·intro k ok hk hlk d hdst;rw[hset]at hlk;by_cases e:k=i
      ·subst e;rw[hoi]at hk;cases hk;rw[hdst,fJ,if_pos ⟨rfl,by rw[hl.size];exact hN k o d hoi hdst⟩];exact hV
      ·have xE:listed.getD k true=true:=by simpa[e]using hlk
       have hnd:i∉aP ok:=fun h=>by have:=hl.closed k ok hk xE i h;rw[hun]at this;cases this
       have:=hm k ok hk hnd (Ne.symm e) _ (hl.done k ok hk xE d hdst);have hne:=(hshape k ok d hk hdst).1 (Ne.symm e)
       cases hd2:o.dst with
       |none=>exact this
       |some d2=>
        rw[fJ,if_neg]
        ·exact this
        ·rintro⟨rfl,_⟩;exact hne hd2
     ·intro t ht;have h1:=hl.rest t fun k ok hk hlk=>ht k ok hk (by rw[hset,hlk];simp);have h2:=ht i o hoi (by rw[hset];simp);rw[←h1]
      cases hd2:o.dst with
      |none=>rfl
      |some d2=>
       rw[fJ,if_neg];rintro⟨rfl,_⟩;exact h2 hd2
   unfold wpOp;simp only[hoi];split at hst
   ·rename_i hw;rw[if_pos hw];left;unfold Oper.wp;generalize (execOp a.eval o).run P w=r at hst
    cases r with
    |halt h w'=>exact hst.elim
    |ok n w'=>
     cases n with
     |value v=>exact go v w' hst.1 (fun k ok hk hnd hne u=>hmono i k ok hk hnd hne w w' u hst.2.1) hst.2.2
     |skip=>exact go undef w' hst.1 (fun k ok hk hnd hne u=>hmono i k ok hk hnd hne w w' u hst.2.1) hst.2.2
     |enter f args=>
      refine Calls.mono (show Calls P f args w' _ from hst) ?_;rintro e w'' ⟨v,rfl,h1,h2,h3⟩;exact go v w'' h1 (fun k ok hk hnd hne u=>hmono i k ok hk hnd hne w w'' u h2) h3
     |_=>exact(show False from hst).elim
   ·rename_i hw;rw[if_neg hw];exact go undef w hst.2 (fun _ _ _ _ _ _ h=>h) hst.1
def Ec (ops:Array Oper) (n:Nat):Bool:=ops.toList.all fun o=>match o.dst with|some d=>decide (d<n)|none=>true
theorem B_.get {tmps:Array Value} {w:World} {l:List Nat} (h:B_ ops V tmps w l) {j:Nat} (hj:l.contains j=true) {d:Tmp} (hd:(ops[j]?).bind (·.dst)=some d):V j w (tmps.getD d undef):=by
 induction l with
 |nil=>cases hj
 |cons k l ih=>
  by_cases e:j=k
  ·subst e;have:=h.1;rw[hd]at this;exact this
  ·refine ih h.2 ?_;rw[List.contains_cons]at hj;simpa[e]using hj
theorem aj {A B:World→Prop} {D:World→Value→Prop} {r:Result Next} {v:Value} {w':World} (hr:r= .ok (.value v) w') (h1:A w') (h2:B w') (h3:D w' v):
  fH P (fun v w'=>A w'∧B w'∧D w' v) r:=by
 subst hr;exact⟨h1,h2,h3⟩
theorem dK {A B:World→Prop} {D:World→Value→Prop} {r:Result Next} {w':World} (hr:r= .ok .skip w') (h1:A w') (h2:B w') (h3:D w' undef):
  fH P (fun v w'=>A w'∧B w'∧D w' v) r:=by
 subst hr;exact⟨h1,h2,h3⟩
theorem aF {A B:World→Prop} {D:World→Value→Prop} {r:Result Next} {f:FuncId} {args:Array Value} {w:World} {R:Ending→World→Prop} (hr:r= .ok (.enter f args) w) (hc:Calls P f args w R)
  (h:∀e w',R e w'→∃v,e= .returned v∧A w'∧B w'∧D w' v):fH P (fun v w'=>A w'∧B w'∧D w' v) r:=by
 subst hr;exact hc.mono h
structure Reads where
 reads:List (Tmp×Option Nat)
 guard:Tmp:=0
 next:List Nat:= []
def nI (f:Tmp→Value):Operand→Value
 | .tmp t=>f t
 | .const v=>v
 | .global g=> .pointer (some ⟨g,0,none⟩)
 | .func g=> .func (.func g) #[] #[]
def Facts (V:Nat→World→Value→Prop) (a0:Act) (w:World) (f:Tmp→Value):List (Tmp×Option Nat)→Prop
 | []=>True
 | (t,some j)::r=>V j w (f t)∧Facts V a0 w f r
 | (t,none)::r=>f t=a0.tmps.getD t undef∧Facts V a0 w f r
def ak (o:Oper) (v:Value):Bool:=
 match o.guard with
 |none=>true
 |some (_,want)=>(match v with| .bool b=>some b|_=>none)==some want
def au (P:Program) (V:Nat→World→Value→Prop) (C:(Nat→Bool)→World→Prop) (G:Nat→World→World→Prop) (a0:Act) (i:Nat) (o:Oper) (r:Reads):Prop:=
 ∀w L (f:Tmp→Value),C L w→L i=false→(∀j∈aP o,L j=true)→(∀j∈r.next,L j=false)→Facts V a0 w f r.reads→
  if ak o (f r.guard)=true then fH P (fun v w'=>C (fun k=>k==i||L k) w'∧G i w w'∧V i w' v) ((execOp (nI f) o).run P w)
  else V i w undef∧C (fun k=>k==i||L k) w
def mV (P:Program) (V:Nat→World→Value→Prop) (C:(Nat→Bool)→World→Prop) (G:Nat→World→World→Prop) (a0:Act):Nat→List Oper→List Reads→Prop
 |_,[],_=>True
 |i,o::l,rs=>au P V C G a0 i o (rs.headD ⟨[],0,[]⟩)∧mV P V C G a0 (i+1) l rs.tail
def CP (ops:Array Oper) (R:List Reads):Bool:=
 (List.range ops.size).all fun i=>match ops[i]? with
  |none=>true
  |some o=>
   ((R.drop i).headD ⟨[],0,[]⟩).reads.all (fun p=>match p.2 with
    |some j=>(match ops[j]? with|some oj=>oj.dst==some p.1|none=>false)&&(aP o).contains j
    |none=>(List.range ops.size).all fun j=>match ops[j]? with|some oj=>oj.dst !=some p.1|| (aP oj).contains i|none=>true)&&
   (match o.guard with
    |none=>true
    |some (j,_)=>match ops[j]? with|some oj=>oj.dst==some ((R.drop i).headD ⟨[],0,[]⟩).guard|none=>false)&&
   ((R.drop i).headD ⟨[],0,[]⟩).next.all (fun j=>match ops[j]? with|some oj=>(aP oj).contains i|none=>false)
theorem mV.get {a0:Act} (l:List Oper):∀(R:List Reads) (i k:Nat) (o:Oper),mV P V C G a0 i l R→l[k]? =some o→au P V C G a0 (i+k) o ((R.drop k).headD ⟨[],0,[]⟩):=by
 induction l with
 |nil=>intro R i k o _ hk;simp at hk
 |cons o' l ih=>
  intro R i k o h hk
  cases k with
  |zero=>
   simp at hk;subst hk;exact h.1
  |succ k=>
   have h2:=ih R.tail (i+1) k o h.2 (by simpa using hk);rw[List.drop_tail,Nat.add_assoc,Nat.add_comm 1 k]at h2;exact h2
theorem lS (a:Act):nI (fun t=>a.tmps.getD t undef)=a.eval:=by
 funext x;cases x<;>rfl
theorem Facts.of {a0 a:Act} {w:World} {o:Oper} {i:Nat} (hD:B_ ops V a.tmps w (aP o)) (ha:∀t:Tmp,(∀(j:Nat) (oj:Oper),ops[j]? =some oj→oj.dst=some t→i∈aP oj)→a.tmps.getD t undef=a0.tmps.getD t undef):
  ∀l:List (Tmp×Option Nat),(l.all fun p=>match p.2 with
    |some j=>(match ops[j]? with|some oj=>oj.dst==some p.1|none=>false)&&(aP o).contains j
    |none=>(List.range ops.size).all fun j=>match ops[j]? with|some oj=>oj.dst !=some p.1|| (aP oj).contains i|none=>true)=true→Facts V a0 w (fun t=>a.tmps.getD t undef) l:=by
 intro l
 induction l with
 |nil=>intro _;trivial
 |cons p l ih=>
  intro h;rw[List.all_cons,Bool.and_eq_true]at h;obtain⟨t,s⟩:=p
  cases s with
  |some j=>
   simp only[Bool.and_eq_true]at h;refine⟨?_,ih h.2⟩
   cases hj:ops[j]? with
   |none=>rw[hj]at h;exact absurd h.1.1 (by simp)
   |some oj=>
    rw[hj]at h;exact hD.get h.1.2 (by rw[hj];simpa using h.1.1)
  |none=>
   refine⟨ha t fun j oj hj hd=> ?_,ih h.2⟩;have h3:=List.all_eq_true.1 h.1 j (List.mem_range.2 (Array.getElem?_eq_some_iff.1 hj).1);simp only[hj,hd,bne_self_eq_false,Bool.false_or]at h3;exact List.contains_iff_mem.1 h3
theorem Af.of {a0:Act} {R:List Reads} (hok:lI ops=true) (htab:CP ops R=true) (hall:mV P V C G a0 0 ops.toList R) (x:Nat→Value) (i:Nat) (o:Oper) (hi:ops[i]? =some o):
  Af P ops V C G i o (bW ops x a0 i):=by
 intro w L hC hL hd hn hD;have hilt:=(Array.getElem?_eq_some_iff.1 hi).1;have ht:=List.all_eq_true.1 htab i (List.mem_range.2 hilt);simp only[hi,Bool.and_eq_true]at ht;have h2:=mV.get ops.toList R 0 i o hall (by simpa using hi);rw[Nat.zero_add]at h2;generalize (R.drop i).headD ⟨[],0,[]⟩=r at ht h2
 have hnx:∀j∈r.next,L j=false:=fun j hj=>by
  have:=List.all_eq_true.1 ht.2 j hj
  cases hoj:ops[j]? with
  |none=>rw[hoj]at this;exact absurd this (by simp)
  |some oj=>rw[hoj]at this;exact hn j oj hoj (List.contains_iff_mem.1 this)
 have hf:=Facts.of (a0:=a0) (a:=bW ops x a0 i) hD (fun t h=>dV x a0 i t fun j hj hjd=>by
  cases hoj:ops[j]? with
  |none=>rw[hoj]at hjd;cases hjd
  |some oj=>
   rw[hoj]at hjd;have:=(dW hok hoj).1 i (h j oj hoj hjd)
   omega) r.reads ht.1.1
 have h3:=h2 w L (fun t=>(bW ops x a0 i).tmps.getD t undef) hC hL hd hnx hf;rw[lS]at h3
 have hw:Region.wanted o (yielded ops (bW ops x a0 i).tmps)=ak o ((bW ops x a0 i).tmps.getD r.guard undef):=by
  unfold Region.wanted ak
  cases hg:o.guard with
  |none=>rfl
  |some g=>
   obtain⟨j,want⟩:=g;have h4:=ht.1.2;rw[hg]at h4;simp only at h4⊢
   cases hoj:ops[j]? with
   |none=>rw[hoj]at h4;exact absurd h4 (by simp)
   |some oj=>
    rw[hoj]at h4
    have hdst:oj.dst=some r.guard:=by simpa using h4
    unfold yielded;simp only[hoj,Option.bind_some,hdst];rw[Array.getD_eq_getD_getElem?]
    cases (bW ops x a0 i).tmps[r.guard]? with
    |none=>rfl
    |some v=>cases v<;>rfl
 rw[hw];exact h3
def framed (x:Nat→Value):List (Option Nat)→List Value→List Value
 |d::ds,v::vs=>(match d with|some j=>x j|none=>v)::framed x ds vs
 |_,vs=>vs
theorem jS (x:Nat→Value):∀(ds:List (Option Nat)) (vs:List Value),(framed x ds vs).length=vs.length
 | [],vs=>by cases vs<;>rfl
 |d::ds,[]=>rfl
 |d::ds,v::vs=>by simp[framed,jS x ds vs]
theorem rW (x:Nat→Value):∀(ds:List (Option Nat)) (vs:List Value) (t:Nat),t<vs.length→(framed x ds vs).getD t undef=match ds.getD t none with|some j=>x j|none=>vs.getD t undef
 | [],vs,t,_=>by cases vs<;>rfl
 |d::ds,[],t,h=>by simp at h
 |d::ds,v::vs,0,_=>by cases d<;>rfl
 |d::ds,v::vs,t+1,h=>by have:=rW x ds vs t (by simpa using h);simpa[framed]using this
def oq (ops:Array Oper) (D:List (Option Nat)) (n:Nat):Bool:=
 (List.range n).all fun t=>match D.getD t none with
  |some j=>match ops[j]? with|some oj=>oj.dst==some t|none=>false
  |none=>(List.range ops.size).all fun j=>match ops[j]? with|some oj=>oj.dst !=some t|none=>true
theorem lH {a0:Act} {D:List (Option Nat)} (hok:lI ops=true) (hf:oq ops D a0.tmps.size=true) (x:Nat→Value):bW ops x a0 ops.size=⟨(framed x D a0.tmps.toList).toArray,a0.defers⟩:=by
 have hd:=jK (ops:=ops) x a0 ops.size
 have ht:(bW ops x a0 ops.size).tmps=(framed x D a0.tmps.toList).toArray:=by
  apply Array.ext_getElem?;intro t
  have hsz:(bW ops x a0 ops.size).tmps.size=(framed x D a0.tmps.toList).toArray.size:=by rw[dZ];simp[jS]
  apply iZ hsz;by_cases hlt:t<a0.tmps.size
  ·have h1:=List.all_eq_true.1 hf t (List.mem_range.2 hlt);have h2:=rW x D a0.tmps.toList t (by simpa using hlt)
   have h3:(framed x D a0.tmps.toList).toArray.getD t undef=(framed x D a0.tmps.toList).getD t undef:=by simp[Array.getD_eq_getD_getElem?]
   rw[h3,h2]
   cases hD:D.getD t none with
   |some j=>
    rw[hD]at h1;simp only at h1
    cases hoj:ops[j]? with
    |none=>rw[hoj]at h1;exact absurd h1 (by simp)
    |some oj=>
     rw[hoj]at h1
     have hdst:oj.dst=some t:=by simpa using h1
     have hjl:=(Array.getElem?_eq_some_iff.1 hoj).1;refine EP x a0 ops.size t j hjl (by rw[hoj];exact hdst) (fun k hk hkd=> ?_) hlt
     cases hok2:ops[k]? with
     |none=>rw[hok2]at hkd;cases hkd
     |some ok=>
      rw[hok2]at hkd;by_cases e:j=k
      ·exact e.symm
      ·exact absurd hdst (((dW hok hoj).2.2 k ok t hok2 hkd).1 e)
   |none=>
    rw[hD]at h1;rw[dV]
    ·simp[Array.getD_eq_getD_getElem?]
    ·intro j hj hjd
     cases hoj:ops[j]? with
     |none=>rw[hoj]at hjd;cases hjd
     |some oj=>
      rw[hoj]at hjd;have h4:=List.all_eq_true.1 h1 j (List.mem_range.2 hj);rw[hoj]at h4;simp only[bne_iff_ne]at h4;exact h4 hjd
  ·rw[oh (x:=(bW ops x a0 ops.size).tmps) (t:=t) (by rw[dZ];omega),oh (x:=(framed x D a0.tmps.toList).toArray) (t:=t) (by simp[jS];omega)]
 cases h1:bW ops x a0 ops.size;rw[h1]at hd ht;simp only at hd ht;rw[hd,ht]
def mW (G:Nat→World→World→Prop):Nat→List (World→Value→Prop)→List Reads→Prop
 |_,[],_=>True
 |j,f::r,rs=>(∀i,i≠j→((rs.headD ⟨[],0,[]⟩).reads.all fun p=>p.2 !=some i)=true→∀w w' v,G i w w'→f w v→f w' v)∧mW G (j+1) r rs.tail
theorem mW.get:∀(l:List (World→Value→Prop)) (R:List Reads) (n:Nat),mW G n l R→∀i j,i≠n+j→(((R.drop j).headD ⟨[],0,[]⟩).reads.all fun p=>p.2 !=some i)=true→∀w w' v,G i w w'→(l.getD j fun _ _=>True) w v→(l.getD j fun _ _=>True) w' v
 | [],_,_,_,_,_,_,_=>by intro w w' v _ _;exact trivial
 |f::r,R,n,h,i,0,hne,hr=>h.1 i hne hr
 |f::r,R,n,h,i,j+1,hne,hr=>mW.get r R.tail (n+1) h.2 i j (by omega) (by rw[List.drop_tail];exact hr)
theorem yQ {R:List Reads} (htab:CP ops R=true) {j:Nat} {oj:Oper} (hj:ops[j]? =some oj) {i:Nat} (hi:i∉aP oj):(((R.drop j).headD ⟨[],0,[]⟩).reads.all fun p=>p.2 !=some i)=true:=by
 have ht:=List.all_eq_true.1 htab j (List.mem_range.2 (Array.getElem?_eq_some_iff.1 hj).1);simp only[hj,Bool.and_eq_true]at ht;rw[List.all_eq_true];intro p hp;have h1:=List.all_eq_true.1 ht.1.1 p hp;obtain⟨t,s⟩:=p
 cases s with
 |none=>rfl
 |some k=>
  simp only[Bool.and_eq_true]at h1;have h2:=List.contains_iff_mem.1 h1.2;simp only[bne_iff_ne,ne_eq,Option.some.injEq];rintro rfl;exact hi h2
theorem mY {id:Nat} {a0:Act} {w:World} {Q':Exit→Act→World→Prop} (Vs:List (World→Value→Prop)) (R:List Reads) (D:List (Option Nat)) (C:(Nat→Bool)→World→Prop) (G:Nat→World→World→Prop)
  (hm:P.follows .mixedOrders=true) (hok:lI ops=true) (htab:CP ops R=true) (hfr:oq ops D a0.tmps.size=true) (hN:Ec ops a0.tmps.size=true) (hmono:mW G 0 Vs R)
  (h0:C (fun k=> !decide (k<ops.size)) {w with drawn:=w.drawn+1})
  (each:mV P (fun i=>Vs.getD i fun _ _=>True) C G a0 0 ops.toList R)
  (fin:∀(x:Nat→Value) w',C (fun _=>true) w'→(∀k o,ops[k]? =some o→o.dst.isSome=true→(Vs.getD k fun _ _=>True) w' (x k))→Q' .normal ⟨(framed x D a0.tmps.toList).toArray,a0.defers⟩ w'):
  (Code.region id ops true).wp P Q' a0 w:=by
 refine wp_region_any hm (Ah (V:=fun i=>Vs.getD i fun _ _=>True) (C:=C) (G:=G) (a0:=a0) hok ?_ (fun i j oj hj hi hne=>mW.get Vs R 0 hmono i j (by omega) (yQ htab hj hi)) (fun x i o hi=>Af.of hok htab each x i o hi) ?_ ops.size _ a0 _ ?_ ?_)
 ·intro i o d hi hd;have:=List.all_eq_true.1 hN o (by simpa using Array.mem_of_getElem? hi);rw[hd]at this;simpa using this
 ·intro x w hC hV;rw[lH hok hfr];exact fin x w hC hV
 ·unfold iW;rw[List.filter_eq_self.2]
  ·simp
  ·intro i hi;have:=List.mem_range.1 hi;simp[this]
 ·refine⟨?_,by simp,rfl,rfl,?_,?_,fun _ _=>rfl⟩
  ·rw[show(fun k=>(Array.replicate ops.size false).getD k true)=fun k=> !decide (k<ops.size)from funext fun k=>by
    rw[Array.getD_eq_getD_getElem?,Array.getElem?_replicate]
    by_cases h:k<ops.size<;>simp[h]]
   exact h0
  ·intro i o hi hl;have:=(Array.getElem?_eq_some_iff.1 hi).1;simp[this]at hl
  ·intro i o hi hl;have:=(Array.getElem?_eq_some_iff.1 hi).1;simp[this]at hl
theorem au.live {b:Bool} {X Y:Prop} (hb:b=true) (h:X):if b=true then X else Y:=by rw[if_pos hb];exact h
theorem au.dead {b:Bool} {X A B:Prop} (hb:b=false) (h1:B) (h2:A):if b=true then X else A∧B:=by subst hb;exact⟨h2,h1⟩
end
abbrev eqv {α β:Type} (u:Value):α→β→Value→Prop:=fun _ _ v=>v=u
abbrev eqw {β:Type} (u:Value):β→Value→Prop:=fun _ v=>v=u
abbrev eud {α β:Type}:α→β→Value→Prop:=eqv undef
abbrev ewd {β:Type}:β→Value→Prop:=eqw undef
abbrev rd1 (t o:Nat):Reads:=⟨[(t,some o)],0,[]⟩
abbrev rn1 (t:Nat):Reads:=⟨[(t,none)],0,[]⟩
abbrev no:Option Nat:=none
abbrev so (n:Nat):Option Nat:=some n
abbrev rq1 (t g p:Nat):Reads:=⟨[(t,none),(g,some p)],g,[]⟩
abbrev rg1 (t o g p:Nat):Reads:=⟨[(t,some o),(g,some p)],g,[]⟩
theorem evs (f:Nat→Value):(∀t,nI f (.tmp t)=f t)∧(∀c,nI f (.const c)=c)∧∀g,nI f (.func g)= .func (.func g) #[] #[]:=⟨fun _=>rfl,fun _=>rfl,fun _=>rfl⟩
theorem rU {w w':World} (h:Below w.heap.size w w') (row:Option Nat):w.grownBy w' row:=⟨h.os,h.tape,h.output,h.size,fun k hk _=>h.block k hk⟩
theorem own_below {w w':World} {base:Nat} {e:TypeId} {size:Nat} {v:Value} {n:Nat} {xs:List Value} (h:w.ownsRow base e size v n xs) (hb:Below w.heap.size w w'):w'.ownsRow base e size v n xs:=by
 refine h.kept (rU hb none) ?_;cases v.ownBlock
 ·exact .inl rfl
 ·exact .inr (by simp)
theorem A8 {w w':World} {base base':Nat} {e e':TypeId} {size size':Nat} {v v':Value} {n n':Nat} {xs xs':List Value} (h:w.ownsRow base e size v n xs) (h':w.ownsRow base' e' size' v' n' xs') (hne:e≠e')
  (hg:w.grownBy w' v'.ownBlock):w'.ownsRow base e size v n xs:=by
 refine h.kept hg ?_;rcases h.2 with⟨rfl,_⟩| ⟨g,cap,cur,rfl,_,hh,_⟩
 ·exact .inl rfl
 ·right;rcases h'.2 with⟨rfl,_⟩| ⟨g',cap',cur',rfl,_,hh',_⟩
  ·simp[Value.ownBlock]
  ·intro he
   have:g=g':=by simpa[Value.ownBlock]using he
   subst this;rw[hh]at hh';injection hh' with h1;injection h1 with _ h2;exact hne h2
theorem own_base {w:World} {base base':Nat} {e:TypeId} {size:Nat} {v:Value} {n:Nat} {xs:List Value} (h:w.ownsRow base e size v n xs) (hB:base'≤base):w.ownsRow base' e size v n xs:=by
 refine⟨h.1,?_⟩;rcases h.2 with h2| ⟨g,cap,cur,h3,h4,h5⟩
 ·exact .inl h2
 ·exact .inr ⟨g,cap,cur,h3,by omega,h5⟩
section
variable {P:Program} (w:World)
theorem oP (base:Nat) (t ty e:TypeId) (i:TypeInfo) (size:Nat) (ht:P.underlying t=some (.slice e)) (hi:P.info? e=some i)
  (v:Value) (n:Nat) (xs:List Value) (hown:w.ownsRow base e size v n xs) (c:Nat):(Builtin.append_ #[t,t] ty #[v,.slice none 0 c]).run P w= .ok v w:=by
 rcases hown.2 with⟨rfl,_⟩| ⟨g,cap,cur,rfl,_,_,hnc,_⟩
 ·simp[Builtin.append_,run_underlying ht,sizeOf,typeInfo,hi,Builtin.lenOf,Builtin.firstCells]
 ·simp[Builtin.append_,run_underlying ht,sizeOf,typeInfo,hi,Builtin.lenOf,Builtin.firstCells,hnc,storeCells]
end
theorem Row.one (w:World) (t:TypeId) (x:Value):Row (w.alloc (.cells #[x] t)) (w.alloc (.cells #[x] t)).heap.size (some ⟨w.heap.size,0,none⟩) [x]:=Row.fresh w t [x]
def Keeps (B:Nat) (e:TypeId) (w w':World):Prop:=∀v n xs,w.ownsRow B e 1 v n xs→w'.ownsRow B e 1 v n xs
theorem Keeps.refl (B:Nat) (e:TypeId) (w:World):Keeps B e w w:=fun _ _ _ h=>h
theorem Keeps.below {B:Nat} {e:TypeId} {w w':World} (hb:Below w.heap.size w w'):Keeps B e w w':=fun _ _ _ h=>own_below h hb
theorem Keeps.other {B B':Nat} {e e':TypeId} {w w':World} {v:Value} {n:Nat} {xs:List Value} (h:w.ownsRow B' e' 1 v n xs) (hne:e≠e') (hg:w.grownBy w' v.ownBlock):Keeps B e w w':=fun _ _ _ h'=>A8 h' h hne hg
def mD (b c:Option Nat) (w w':World):Prop:=∀k,k<w.heap.size→some k≠b→some k≠c→w'.heap[k]? =w.heap[k]?
theorem mD.refl (b c:Option Nat) (w:World):mD b c w w:=fun _ _ _ _=>rfl
theorem mD.below {b c:Option Nat} {w w':World} (hb:Below w.heap.size w w'):mD b c w w':=fun k hk _ _=>hb.block k hk
theorem mD.left {b c:Option Nat} {w w':World} (hg:w.grownBy w' b):mD b c w w':=fun k hk h _=>hg.block k hk h
theorem mD.right {b c:Option Nat} {w w':World} (hg:w.grownBy w' c):mD b c w w':=fun k hk _ h=>hg.block k hk h
theorem FM {w:World} {base:Nat} {e:TypeId} {size:Nat} {v:Value} {n:Nat} {xs:List Value} (h:w.ownsRow base e size v n xs) {k:Nat} (hk:w.heap.size≤k):some k≠v.ownBlock:=fun e=>by
 have:=h.lt k e.symm;omega
structure Writes (M:List (Option Nat)) (w w':World):Prop where
 os:w'.os=w.os
 tape:w'.tape=w.tape
 output:w'.output=w.output
 size:w.heap.size≤w'.heap.size
 block:∀k,k<w.heap.size→some k∉M→w'.heap[k]? =w.heap[k]?
section
variable {M M':List (Option Nat)} {w w' w'':World}
theorem Writes.refl (M:List (Option Nat)) (w:World):Writes M w w:=⟨rfl,rfl,rfl,Nat.le_refl _,fun _ _ _=>rfl⟩
theorem Writes.of_below (h:Below w.heap.size w w') (M:List (Option Nat)):Writes M w w':=⟨h.os,h.tape,h.output,h.size,fun k hk _=>h.block k hk⟩
theorem Writes.bG {r:Option Nat} (h:w.grownBy w' r) (hr:r∈M):Writes M w w':=⟨h.os,h.tape,h.output,h.size,fun k hk hn=>h.block k hk (fun e=>hn (by rw[e];exact hr))⟩
theorem Writes.store (w:World) {p:Addr} (hp:some p.block∈M) (u:Value):Writes M w (w.setCell p u):=
 ⟨rfl,rfl,rfl,by simp[World.setCell],fun k _ hn=>Below.heap_setCell w p u k (fun e=>hn (by rw[e];exact hp))⟩
theorem Writes.alloc (M:List (Option Nat)) (w:World) (o:Obj):Writes M w (w.alloc o):= .of_below (aA w o) M
theorem Writes.then_ (h:Writes M w w') (h':Writes M' w' w'') (hM:∀k,k<w.heap.size→some k∈M'→some k∈M):Writes M w w'':=
 ⟨h'.os.trans h.os,h'.tape.trans h.tape,h'.output.trans h.output,Nat.le_trans h.size h'.size,fun k hk hn=>
  (h'.block k (Nat.lt_of_lt_of_le hk h.size) (fun e=>hn (hM k hk e))).trans (h.block k hk hn)⟩
theorem Writes.trans (h:Writes M w w') (h':Writes M w' w''):Writes M w w'':=h.then_ h' fun _ _ e=>e
theorem Writes.more (h:Writes M w w') (hM:∀b∈M,b∈M'):Writes M' w w':=⟨h.os,h.tape,h.output,h.size,fun k hk hn=>h.block k hk (fun e=>hn (hM _ e))⟩
theorem Writes.below {B:Nat} (h:Writes M w w') (hB:B≤w.heap.size) (hM:∀k,some k∈M→B≤k):Below B w w':=
 ⟨h.os,h.tape,h.output,h.size,fun k hk=>h.block k (by omega) (fun e=>by have:=hM k e;omega)⟩
theorem Writes.heap (h:Writes M w w') {g:Nat} {o:Obj} (hg:w.heap[g]? =some o) (hn:some g∉M):w'.heap[g]? =some o:=
 (h.block g (Array.getElem?_eq_some_iff.1 hg).1 hn).trans hg
theorem Writes.holds (h:Writes M w w') {g:Nat} {t:TypeId} {cs:Array Value} (hg:Holds w g t cs) (hn:some g∉M):Holds w' g t cs:=h.heap hg hn
theorem Writes.own (h:Writes M w w') {B:Nat} {e:TypeId} {v:Value} {n:Nat} {xs:List Value} {size:Nat} (ho:w.ownsRow B e size v n xs) (hn:v.ownBlock=none∨v.ownBlock∉M):w'.ownsRow B e size v n xs:=by
 refine⟨ho.1,?_⟩;rcases ho.2 with h1| ⟨g,cap,cur,rfl,hb,hg,r⟩
 ·exact .inl h1
 ·refine .inr ⟨g,cap,cur,rfl,hb,h.heap hg ?_,r⟩;rcases hn with hn|hn
  ·simp[Value.ownBlock]at hn
  ·exact hn
def blk (A:Option Addr):Option Nat:=A.map (·.block)
theorem Writes.row (h:Writes M w w') {B:Nat} {A:Option Addr} {vs:List Value} (hr:Row w B A vs) (hB:B≤w.heap.size) (hn:vs≠[]→blk A∉M):Row w' B A vs:=fun hne=>by
 obtain⟨b,off,rfl,hb,hc⟩:=hr hne;refine⟨b,off,rfl,hb,fun j u hu=> ?_⟩;have:=h.block b (by omega) (hn hne);rw[←hc j u hu];exact World.cell?_of_block this
end
end Go.Proofs.YtpndglghpojjkaaGreat
namespace Go.Proofs.YtpndglghpojjkaaGreat
open Go.RowKit Go.Deep
def Tok.cells (t:Tok):List Value:= [.int .i64 t.k,.string (ay t.t),.int .i64 t.at_]
structure PL where
 g:Nat
 A:Option Addr
 c:Nat
structure PC.Fit (C:PC):Prop where
 len:C.tk.length≤4096
 end_:C.end_≤4096
 at_:∀t∈C.tk,t.at_≤4096
 txt:∀t∈C.tk,t.t.length≤4096∧t.k≤2
structure PS.Ok (C:PC) (s:PS):Prop where
 i:s.i≤C.tk.length
 n:s.n≤1000
 at_:s.at_≤4096
 e:s.e≤100
 deep:s.deep≤40
def PS.cells (C:PC) (L:PL) (s:PS):Array Value:= #[.slice L.A C.tk.length L.c,.int .i64 s.i,.int .i64 C.end_,.int .i64 s.e,.int .i64 s.at_,.int .i64 s.deep,.int .i64 s.n]
structure PAt (C:PC) (L:PL) (s:PS) (w:World):Prop where
 fit:C.Fit
 ok:s.Ok C
 hold:Holds w L.g 70 (s.cells C L)
 row:Row w L.g L.A (C.tk.flatMap Tok.cells)
def PL.v (L:PL):Value:= .pointer (some ⟨L.g,0,none⟩)
section
variable {C:PC} {L:PL} {s s2:PS} {w w':World}
theorem PAt.lt (h:PAt C L s w):L.g<w.heap.size:=h.hold.lt
theorem PAt.below {B:Nat} (h:PAt C L s w) (hb:Below B w w') (hB:L.g<B):PAt C L s w':=
 ⟨h.fit,h.ok,h.hold.below hb hB,h.row.keep fun p hp=>hb.cell (by omega)⟩
theorem PAt.up (h:PAt C L s w) (hb:Below w.heap.size w w'):PAt C L s w':=h.below hb h.lt
theorem PAt.writes {M:List (Option Nat)} (h:PAt C L s w) (hW:Writes M w w') (hM:∀k,some k∈M→L.g<k):PAt C L s w':=
 ⟨h.fit,h.ok,hW.holds h.hold fun e=>by have:=hM _ e;omega,hW.row h.row (Nat.le_of_lt h.lt) fun hn e=>by
  obtain⟨b,off,hA,hb,_⟩:=h.row hn;rw[hA]at e;have:=hM b e
  omega⟩
theorem PAt.store (h:PAt C L s w) (i:Nat) (v:Value) (hc:(s.cells C L).setIfInBounds i v=s2.cells C L) (ho:s2.Ok C):PAt C L s2 (w.setCell ⟨L.g,i,none⟩ v)∧Writes [some L.g] w (w.setCell ⟨L.g,i,none⟩ v):=by
 refine⟨⟨h.fit,ho,?_,h.row.keep fun p hp=> ?_⟩,Writes.store w (by simp) v⟩
 ·rw[←hc];exact h.hold.store i v
 ·exact World.cell?_of_block (Below.heap_setCell w ⟨L.g,i,none⟩ v p.block (by simp only;omega))
theorem PAt.facts (h:PAt C L s w):L.g<w.heap.size∧w.cell? ⟨L.g,0,none⟩=some (.slice L.A C.tk.length L.c)∧w.cell? ⟨L.g,1,none⟩=some (.int .i64 s.i)∧w.cell? ⟨L.g,2,none⟩=some (.int .i64 C.end_)∧w.cell? ⟨L.g,3,none⟩=some (.int .i64 s.e)∧
  w.cell? ⟨L.g,4,none⟩=some (.int .i64 s.at_)∧w.cell? ⟨L.g,5,none⟩=some (.int .i64 s.deep)∧w.cell? ⟨L.g,6,none⟩=some (.int .i64 s.n)∧(∀i,w.frozen? ⟨L.g,i,none⟩=false):=
 ⟨h.lt,by rw[h.hold.cell];rfl,by rw[h.hold.cell];rfl,by rw[h.hold.cell];rfl,by rw[h.hold.cell];rfl,by rw[h.hold.cell];rfl,by rw[h.hold.cell];rfl,by rw[h.hold.cell];rfl,fun i=>h.hold.frozen i⟩
theorem PAt.bounds (h:PAt C L s w):C.tk.length≤4096∧C.end_≤4096∧s.i≤C.tk.length∧s.e≤100∧s.at_≤4096∧s.deep≤40∧s.n≤1000:=⟨h.fit.len,h.fit.end_,h.ok.i,h.ok.e,h.ok.at_,h.ok.deep,h.ok.n⟩
theorem vH (l:List Tok):∀(k:Nat) (hk:k<l.length) (r:Nat) (v:Value),l[k].cells[r]? =some v→(l.flatMap Tok.cells)[k*3+r]? =some v:=by
 induction l with
 |nil=>intro k hk;simp at hk
 |cons a l ih=>
  intro k hk r v h;rw[List.flatMap_cons]
  cases k with
  |zero=>
   have hr:r<a.cells.length:=(List.getElem?_eq_some_iff.1 h).1;rw[Nat.zero_mul,Nat.zero_add,List.getElem?_append_left hr];exact h
  |succ k=>
   have hc:a.cells.length=3:=rfl;rw[List.getElem?_append_right (by rw[hc];omega),hc];have:=ih k (by simpa using hk) r v (by simpa using h);rw[←this];congr 1;omega
theorem PAt.tok (h:PAt C L s w) {k:Nat} (hk:k<C.tk.length):∃b off,L.A=some ⟨b,off,none⟩∧b<L.g∧w.cell? ⟨b,off+k*3,none⟩=some (.int .i64 C.tk[k].k)∧w.cell? ⟨b,off+k*3+1,none⟩=some (.string (ay C.tk[k].t))∧w.cell? ⟨b,off+k*3+2,none⟩=some (.int .i64 C.tk[k].at_):=by
 obtain⟨b,off,e,hb,hc⟩:=h.row (by
  intro e;have:=vH C.tk k hk 0 _ rfl;rw[e]at this
  cases this)
 exact⟨b,off,e,hb,by have:=hc _ _ (vH C.tk k hk 0 _ rfl);simpa[Nat.add_assoc]using this,by have:=hc _ _ (vH C.tk k hk 1 _ rfl);simpa[Nat.add_assoc]using this,by have:=hc _ _ (vH C.tk k hk 2 _ rfl);simpa[Nat.add_assoc]using this⟩
end
theorem below_drewN {B:Nat} {w w':World} (h:Below B w w') (n:Nat):Below B w (w'.drewN n):=⟨h.os,h.tape,h.output,h.size,h.block⟩
theorem aH (l:List UInt8):(ay l).toList=l:=by
 unfold ay;rw[ByteArray.toList_eq]
theorem mJ {C:PC} {L:PL} (w:World) (s:PS) (k:Nat) (hP:PAt C L s w) (hk:k≠0∧k≤100):
  Calls Tryz.prog 35 #[.pointer (some ⟨L.g,0,none⟩),.int .i64 k] w fun e w'=>e= .returned (.tuple #[])∧PAt C L (bT C k s) w'∧Writes [some L.g] w w':=by
 obtain⟨h0,c0,c1,c2,c3,c4,c5,c6,hfz⟩:=hP.facts;obtain⟨b1,b2,b3,b4,b5,b6,b7⟩:=hP.bounds;by_cases he:s.e=0
 ·have he':((s.e:Int)==0)=true:=by simp;omega
  have s1:=hP.store (s2:={s with e:=k}) 3 (.int .i64 k) rfl ⟨hP.ok.i,hP.ok.n,hP.ok.at_,hk.2,hP.ok.deep⟩;have s2:=s1.1.store (s2:={s with e:=k,at_:=C.end_}) 4 (.int .i64 C.end_) rfl ⟨hP.ok.i,hP.ok.n,b2,hk.2,hP.ok.deep⟩;have hW:=Lib.hid (s1.2.trans s2.2);obtain⟨wa,hwa⟩:∃x,x=(w.setCell ⟨L.g,3,none⟩ (.int .i64 k)).setCell ⟨L.g,4,none⟩ (.int .i64 C.end_):=⟨_,rfl⟩
  rw[←hwa]at s2 hW;have hPa:=s2.1;clear s1 s2 hP;obtain⟨a0,d0,d1,d2,d3,d4,d5,d6,dfz⟩:=hPa.facts;by_cases hi:s.i<C.tk.length
  ·have hF:bT C k s={s with e:=k,at_:=C.tk[s.i].at_}:=by unfold bT;rw[if_pos he,List.getElem?_eq_getElem hi]
   rw[hF];clear hF;obtain⟨b,off,hA,hbg,t0,t1,t2⟩:=hPa.tok hi;have hPa:=Lib.hid hPa;go_enter Tryz.func35,Tryz.ntmps35;go_wp2_with fail;rw[←hwa];go_quiet (fail);have hPb:=hPa.out.up (below_drewN (Below.refl _ wa) nq);have hWb:=Lib.hid (hW.out.trans (Writes.of_below (below_drewN (Below.refl _ wa) nq) _));obtain⟨wb,hwb⟩:∃x,x=wa.drewN nq:=⟨_,rfl⟩;rw[←hwb]at hPb hWb⊢
   clear hwb a0 d0 d1 d2 d3 d4 d5 d6 dfz t0 t1 t2 hPa hwa hW;obtain⟨a0,d0,d1,d2,d3,d4,d5,d6,dfz⟩:=hPb.facts;obtain⟨b',off',hA',hbg,t0,t1,t2⟩:=hPb.tok hi;rw[hA]at hA';injection hA' with hA';injection hA' with hb1 hb2;subst hb1 hb2;have hPb:=Lib.hid hPb;go_wp2_with fail
   go_still_tail 14,(by kernel_rfl)
   have hPc:=hPb.out.up (Below.refl _ wb).drew;have hWc:=hWb.out.trans (Writes.of_below (Below.refl _ wb).drew _);change wpList _ _ _ _ _ wb.drew;obtain⟨wc,hwc⟩:∃x,x=wb.drew:=⟨_,rfl⟩;rw[←hwc]at hPc hWc⊢;clear hwc a0 d0 d1 d2 d3 d4 d5 d6 dfz t0 t1 t2 hPb hWb;obtain⟨a0,d0,d1,d2,d3,d4,d5,d6,dfz⟩:=hPc.facts;have hPc:=Lib.hid hPc;have hWc:=Lib.hid hWc;go_wp2_with fail;go_end0
   have s3:=hPc.out.store (s2:={s with e:=k,at_:=C.tk[s.i].at_}) 4 (.int .i64 C.tk[s.i].at_) rfl ⟨hPc.out.ok.i,hPc.out.ok.n,hPc.out.fit.at_ _ (List.getElem_mem hi),hPc.out.ok.e,hPc.out.ok.deep⟩;exact⟨rfl,s3.1,hWc.out.trans s3.2⟩
  ·have hF:bT C k s={s with e:=k,at_:=C.end_}:=by unfold bT;rw[if_pos he,List.getElem?_eq_none (by omega)]
   rw[hF];clear hF;have hPa:=Lib.hid hPa;go_enter Tryz.func35,Tryz.ntmps35;go_wp2_with fail;rw[←hwa];go_quiet (fail);go_wp2_with fail;go_end0;exact⟨rfl,hPa.out.up (below_drewN (Below.refl _ _) _),hW.out.trans (Writes.of_below (below_drewN (Below.refl _ _) _) _)⟩
 ·have he':((s.e:Int)==0)=false:=by simp;omega
  have hF:bT C k s=s:=by unfold bT;rw[if_neg he]
  rw[hF];clear hF;have hP:=Lib.hid hP;go_enter Tryz.func35,Tryz.ntmps35;go_wp2_with fail;go_end0;exact⟨rfl,hP.out,Writes.refl _ _⟩
theorem DW {C:PC} {L:PL} (w:World) (s:PS) (t:List UInt8) (hP:PAt C L s w):
  Calls Tryz.prog 33 #[.pointer (some ⟨L.g,0,none⟩),.string ⟨t.toArray⟩] w fun e w'=>e= .returned (.bool (isF C t s))∧∃n,w'=w.drewN n:=by
 obtain⟨a0,d0,d1,d2,d3,d4,d5,d6,dfz⟩:=hP.facts;obtain⟨b1,b2,b3,b4,b5,b6,b7⟩:=hP.bounds;by_cases he:s.e=0
 ·have he':((s.e:Int)==0)=true:=by simp;omega
  by_cases hi:s.i<C.tk.length
  ·have hi2:decide (s.i<C.tk.length)=true:=by simpa using hi
   obtain⟨b,off,hA,hbg,t0,t1,t2⟩:=hP.tok hi;have hk:=(hP.fit.txt _ (List.getElem_mem hi)).2;obtain⟨x,hx⟩:∃x,x=C.tk[s.i]:=⟨_,rfl⟩
   have hF:isF C t s=(x.k !=1&&x.t==t):=by unfold isF;rw[he,List.getElem?_eq_getElem hi,hx];rfl
   rw[←hx]at t0 t1 t2 hk;rw[hF];clear hF hx hP he;by_cases h1:x.k=1
   ·have h1':((x.k:Int) !=1)=false:=by simp;omega
    have hR:(x.k !=1&&x.t==t)=false:=by simp[h1]
    rw[hR];clear hR h1;go_enter Tryz.func33,Tryz.ntmps33;go_wp2_with fail;go_quiet (fail);go_wp2_with fail;go_ret;exact⟨rfl,_,rfl⟩
   ·have h1':((x.k:Int) !=1)=true:=by simp;omega
    have hst:Hid (((ay x.t).toList==t)=(x.t==t)):=Lib.hid (by rw[aH])
    have hR:(x.k !=1&&x.t==t)=(x.t==t):=by simp[h1]
    rw[hR];clear hR h1;go_enter Tryz.func33,Tryz.ntmps33;go_wp2_with fail;go_quiet (fail);go_wp2_with fail;go_ret;exact⟨Dl hst.out,_,rfl⟩
  ·have hi2:decide (s.i<C.tk.length)=false:=by simpa using hi
   have hF:isF C t s=false:=by unfold isF;rw[List.getElem?_eq_none (by omega)];simp
   rw[hF];clear hF hP he;go_enter Tryz.func33,Tryz.ntmps33;go_wp2_with fail;go_quiet (fail);go_wp2_with fail;go_ret;exact⟨rfl,_,rfl⟩
 ·have he':((s.e:Int)==0)=false:=by simp;omega
  have hF:isF C t s=false:=by unfold isF;rw[show(s.e==0)=false by simpa using he];rfl
  rw[hF];clear hF hP;go_enter Tryz.func33,Tryz.ntmps33;go_wp2_with fail;go_quiet (fail);go_wp2_with fail;go_ret;exact⟨rfl,_,rfl⟩
structure Moved (C:PC) (L:PL) (s2:PS) (w w':World):Prop where
 at_:PAt C L s2 w'
 wr:Writes [some L.g] w w'
section
variable {C:PC} {L:PL} {s s2 s3:PS} {w w' w'':World}
theorem Moved.refl (h:PAt C L s w):Moved C L s w w:=⟨h,Writes.refl _ _⟩
theorem Moved.drewN (h:PAt C L s w) (n:Nat):Moved C L s w (w.drewN n):=⟨h.up (below_drewN (Below.refl _ _) _),Writes.of_below (below_drewN (Below.refl _ _) _) _⟩
theorem Moved.trans (h:Moved C L s w w') (h2:Moved C L s2 w' w''):Moved C L s2 w w'':=⟨h2.at_,h.wr.trans h2.wr⟩
theorem Moved.below (h:Moved C L s w w') (hb:Below w'.heap.size w' w''):Moved C L s w w'':=⟨h.at_.up hb,h.wr.trans (Writes.of_below hb _)⟩
theorem Moved.store (h:Moved C L s w w') (i:Nat) (v:Value) (hc:(s.cells C L).setIfInBounds i v=s2.cells C L) (ho:s2.Ok C):Moved C L s2 w (w'.setCell ⟨L.g,i,none⟩ v):=by
 have:=h.at_.store (s2:=s2) i v hc ho;exact⟨this.1,h.wr.trans this.2⟩
theorem Moved.next (h:Moved C L s w w') (hi:s.i<C.tk.length):Moved C L s.next w (w'.setCell ⟨L.g,1,none⟩ (.int .i64 ((s.i:Int)+1))):=by
 refine h.store 1 _ ?_ ⟨hi,h.at_.ok.n,h.at_.ok.at_,h.at_.ok.e,h.at_.ok.deep⟩;simp[PS.cells,PS.next]
end
theorem take_any {C:PC} {L:PL} (w:World) (s:PS) (t:List UInt8) (hP:PAt C L s w):
  Calls Tryz.prog 31 #[.pointer (some ⟨L.g,0,none⟩),.string ⟨t.toArray⟩] w fun e w'=>e= .returned (.bool (isF C t s))∧Moved C L (if isF C t s then s.next else s) w w':=by
 obtain⟨b1,b2,b3,b4,b5,b6,b7⟩:=hP.bounds;have hc:=DW w s t hP
 cases hi:isF C t s with
 |false=>
  rw[hi]at hc;simp only[Bool.false_eq_true,if_false];have hP:=Lib.hid hP;clear hi;go_enter Tryz.func31,Tryz.ntmps31;go_wp2_with fail;refine hc.mono ?_;rintro e w1 ⟨rfl,n,rfl⟩;go_wp2_with fail;go_ret;exact⟨rfl,Moved.drewN hP.out n⟩
 |true=>
  rw[hi]at hc;simp only[if_true];have hlt:=dD hi;have hP:=Lib.hid hP;clear hi;go_enter Tryz.func31,Tryz.ntmps31;go_wp2_with fail;refine hc.mono ?_;clear hc;rintro e w1 ⟨rfl,n,hw1⟩;have hM:=Moved.drewN hP.out n;rw[←hw1]at hM;clear hw1 hP;obtain⟨a0,d0,d1,d2,d3,d4,d5,d6,dfz⟩:=hM.at_.facts;have hM:=Lib.hid hM;go_wp2_with fail;go_ret;exact⟨rfl,hM.out.next hlt⟩
theorem Ci {C:PC} {L:PL} (w:World) (s:PS) (t:List UInt8) (hP:PAt C L s w):
  Calls Tryz.prog 29 #[.pointer (some ⟨L.g,0,none⟩),.string ⟨t.toArray⟩] w fun e w'=>e= .returned (.tuple #[])∧Moved C L (aY C t s) w w':=by
 have hc:=take_any w s t hP;unfold aY
 cases hi:isF C t s with
 |false=>
  rw[hi]at hc;simp only[Bool.false_eq_true,if_false]at hc⊢;clear hi hP;go_enter Tryz.func29,Tryz.ntmps29;go_wp2_with fail;refine hc.mono ?_;clear hc;rintro e w1 ⟨rfl,hM⟩;have hc:=mJ w1 s 51 hM.at_ (by decide);have hM:=Lib.hid hM;go_wp2_with fail;refine hc.mono ?_;clear hc;rintro e w2 ⟨rfl,hP,hW⟩;have hM2:=Lib.hid (hM.out.trans ⟨hP,hW⟩);clear hP hW hM;go_wp2_with fail;go_end0
  exact⟨rfl,hM2.out⟩
 |true=>
  rw[hi]at hc;simp only[if_true]at hc⊢;clear hi hP;go_enter Tryz.func29,Tryz.ntmps29;go_wp2_with fail;refine hc.mono ?_;clear hc;rintro e w1 ⟨rfl,hM⟩;have hM:=Lib.hid hM;go_wp2_with fail;go_end0;exact⟨rfl,hM.out⟩
def Cc:List Value:=gU.map fun l=> .string (ay l)
theorem EG (k:Nat) (hk:k<11):Cc[k]? =some (.string (ay (gU.getD k []))):=by
 match k,hk with
 |0,_=>rfl
 |1,_=>rfl
 |2,_=>rfl
 |3,_=>rfl
 |4,_=>rfl
 |5,_=>rfl
 |6,_=>rfl
 |7,_=>rfl
 |8,_=>rfl
 |9,_=>rfl
 |10,_=>rfl
theorem tK {α:Type} (l:List α) (p:α→Bool) (k:Nat) (hk:k<l.length):(l.take (k+1)).any p=((l.take k).any p||p l[k]):=by
 rw[List.take_succ_eq_append_getElem hk,List.any_append];simp
theorem Ce (w:World) (t:List UInt8):
  Calls Tryz.prog 116 #[.string (ay t)] w fun e w'=>e= .returned (.bool (qp t))∧Below w.heap.size w w':=by
 obtain⟨wa,hwa⟩:∃x,x=w.alloc (.cells #[.string ⟨#[102,110]⟩,.string ⟨#[118,97,114]⟩,.string ⟨#[112,116,114]⟩,.string ⟨#[105,102]⟩,.string ⟨#[101,108,115,101]⟩,.string ⟨#[119,104,105,108,101]⟩,.string ⟨#[114,101,116,117,114,110]⟩,.string ⟨#[97,115,115,101,114,116]⟩,.string ⟨#[110,117,108,108]⟩,.string ⟨#[99,101,108,108]⟩,.string ⟨#[97,114,114,97,121]⟩] 9):=⟨_,rfl⟩
 have hH:Holds wa w.heap.size 9 Cc.toArray:=by rw[hwa];exact Holds.new w _ _
 have hB:Hid (Below w.heap.size w wa):=Lib.hid (by rw[hwa];exact aA w _);go_enter Tryz.func116,Tryz.ntmps116;go_wp2_with fail;rw[←hwa];clear hwa;obtain⟨g,hg⟩:∃x,x=w.heap.size:=⟨_,rfl⟩;rw[←hg]at hH⊢;clear hg;have hH:=Lib.hid hH
 go_loop [4] (fun i=>∃k:Nat,k≤11∧i= .int .i64 k∧Hid ((gU.take k).any (fun x=>x==t)=false)) (fun i=>11-(intOf i).toNat)
 case atStart=>exact⟨0,by omega,rfl,Lib.hid rfl⟩
 case round=>
  obtain⟨k,hk,rfl,hT⟩:=hrel;by_cases hlt:k<11
  ·have hlt':(k:Int)<11:=by omega
   have hc:wa.cell? ⟨g,k,none⟩=some (.string (ay (gU.getD k []))):=by rw[hH.out.cell];simpa using EG k hlt
   have hs:=tK gU (fun x=>x==t) k hlt
   have hgd:gU.getD k []=gU[k]:=by rw[List.getD_eq_getElem?_getD,List.getElem?_eq_getElem hlt];rfl
   rw[hgd]at hc
   have he:((ay gU[k]).toList==(ay t).toList)=(gU[k]==t):=by rw[aH,aH]
   have hl:=hH.out.lt
   cases hx:(gU[k]==t)with
   |true=>
    rw[hx]at he;have hr:Hid (qp t=true):=Lib.hid (List.any_eq_true.2 ⟨_,List.getElem_mem hlt,hx⟩);clear hs hx hgd;generalize ay gU[k]=sk at hc he;go_wp2_with fail;go_ret;rw[hr.out];exact⟨rfl,hB.out⟩
   |false=>
    rw[hx]at he;have hT2:Hid ((gU.take (k+1)).any (fun x=>x==t)=false):=Lib.hid (by rw[hs,hT.out,hx];rfl);clear hs hx hgd hT;generalize ay gU[k]=sk at hc he;go_wp2_with fail;go_round
    case rel=>exact⟨k+1,by omega,by go_num,hT2⟩
    case measure=>simp[intOf];omega
  ·obtain rfl:k=11:=by omega
   have hr:Hid (qp t=false):=Lib.hid hT.out;clear hT;go_wp2_with fail;go_ret;rw[hr.out];exact⟨rfl,hB.out⟩
theorem uJ {C:PC} {L:PL} (w:World) (s:PS) (hP:PAt C L s w):
  Calls Tryz.prog 64 #[.pointer (some ⟨L.g,0,none⟩)] w fun e w'=>e= .returned (.bool (cu C s))∧Below w.heap.size w w':=by
 obtain⟨a0,d0,d1,d2,d3,d4,d5,d6,dfz⟩:=hP.facts;obtain⟨b1,b2,b3,b4,b5,b6,b7⟩:=hP.bounds;by_cases he:s.e=0
 ·have he':((s.e:Int)==0)=true:=by simp;omega
  by_cases hi:s.i<C.tk.length
  ·have hi2:decide (s.i<C.tk.length)=true:=by simpa using hi
   obtain⟨b,off,hA,hbg,t0,t1,t2⟩:=hP.tok hi;have hk:=(hP.fit.txt _ (List.getElem_mem hi)).2;obtain⟨x,hx⟩:∃x,x=C.tk[s.i]:=⟨_,rfl⟩
   have hF:cu C s=(x.k==0&& !qp x.t):=by unfold cu;rw[he,List.getElem?_eq_getElem hi,hx];rfl
   rw[←hx]at t0 t1 t2 hk;rw[hF];clear hF hx he;by_cases h1:x.k=0
   ·have h1':((x.k:Int)==0)=true:=by simp;omega
    have hR:(x.k==0&& !qp x.t)= !qp x.t:=by simp[h1]
    rw[hR];clear hR h1;have hP:=Lib.hid hP;go_enter Tryz.func64,Tryz.ntmps64;go_wp2_with fail
    go_still_tail 43,(by kernel_rfl)
    have hb:=(Below.refl w.heap.size w).drew;change wpList _ _ _ _ _ w.drew;obtain⟨wb,hwb⟩:∃x,x=w.drew:=⟨_,rfl⟩;rw[←hwb]at hb⊢;clear hwb;have hb:=Lib.hid hb;clear t0 t1 t2 d0 d1 d2 d3 d4 d5 d6 dfz;go_wp2_with fail;refine(Ce wb x.t).mono ?_;rintro e w1 ⟨rfl,hb1⟩;have hb2:=Lib.hid (hb.out.trans (hb1.mono hb.out.size));clear hb1;go_wp2_with fail;go_ret;exact⟨rfl,hb2.out⟩
   ·have h1':((x.k:Int)==0)=false:=by simp;omega
    have hR:(x.k==0&& !qp x.t)=false:=by simp[h1]
    rw[hR];clear hR h1;go_enter Tryz.func64,Tryz.ntmps64;go_wp2_with fail;go_quiet (fail);go_wp2_with fail;go_ret;exact⟨rfl,below_drewN (Below.refl _ _) _⟩
  ·have hi2:decide (s.i<C.tk.length)=false:=by simpa using hi
   have hF:cu C s=false:=by unfold cu;rw[List.getElem?_eq_none (by omega)];simp
   rw[hF];clear hF hP he;go_enter Tryz.func64,Tryz.ntmps64;go_wp2_with fail;go_quiet (fail);go_wp2_with fail;go_ret;exact⟨rfl,below_drewN (Below.refl _ _) _⟩
 ·have he':((s.e:Int)==0)=false:=by simp;omega
  have hF:cu C s=false:=by unfold cu;rw[show(s.e==0)=false by simpa using he];rfl
  rw[hF];clear hF hP;go_enter Tryz.func64,Tryz.ntmps64;go_wp2_with fail;go_quiet (fail);go_wp2_with fail;go_ret;exact⟨rfl,below_drewN (Below.refl _ _) _⟩
theorem name_any {C:PC} {L:PL} (w:World) (s:PS) (hP:PAt C L s w):
  Calls Tryz.prog 30 #[.pointer (some ⟨L.g,0,none⟩)] w fun e w'=>e= .returned (.string (ay (aK C s).1))∧Moved C L (aK C s).2 w w'∧(aK C s).1.length≤4096:=by
 have hc:=uJ w s hP
 cases hi:cu C s with
 |false=>
  have hF:aK C s=([],bT C 51 s):=by unfold aK;rw[hi];rfl
  rw[hF];clear hF;rw[hi]at hc;have hP:=Lib.hid hP;clear hi;go_enter Tryz.func30,Tryz.ntmps30;go_wp2_with fail;refine hc.mono ?_;clear hc;rintro e w1 ⟨rfl,hb⟩;have hM:=(Moved.refl hP.out).below hb;have hc:=mJ w1 s 51 hM.at_ (by decide);have hM:=Lib.hid hM;clear hb;go_wp2_with fail;refine hc.mono ?_;clear hc;rintro e w2 ⟨rfl,hP,hW⟩;have hM2:=Lib.hid (hM.out.trans ⟨hP,hW⟩);clear hP hW hM
  go_wp2_with fail;go_ret;exact⟨rfl,hM2.out,by simp⟩
 |true=>
  have hlt:=uK hi
  have hF:aK C s=(C.tk[s.i].t,s.next):=by unfold aK;rw[hi,List.getElem?_eq_getElem hlt];rfl
  rw[hF];clear hF;rw[hi]at hc;have htx:=(hP.fit.txt _ (List.getElem_mem hlt)).1;obtain⟨b1,b2,b3,b4,b5,b6,b7⟩:=hP.bounds;have hP:=Lib.hid hP;clear hi;go_enter Tryz.func30,Tryz.ntmps30;go_wp2_with fail;refine hc.mono ?_;clear hc;rintro e w1 ⟨rfl,hb⟩;have hM:=(Moved.refl hP.out).below hb;obtain⟨a0,d0,d1,d2,d3,d4,d5,d6,dfz⟩:=hM.at_.facts;have hM2:=hM.next hlt
  obtain⟨wb,hwb⟩:∃x,x=w1.setCell ⟨L.g,1,none⟩ (.int .i64 ((s.i:Int)+1)):=⟨_,rfl⟩;rw[←hwb]at hM2;obtain⟨b,off,hA,hbg,t0,t1,t2⟩:=hM2.at_.tok hlt;have hwr:IntKind.i64.wrap ((s.i:Int)+1)=(s.i:Int)+1:=IntWalk.i64_in _ (by omega)
  have hsub:IntKind.i64.wrap ((s.i:Int)+1-1)=(s.i:Int):=by rw[IntWalk.i64_in _ (by omega)];omega
  clear hb hM hP;go_wp2_with fail;rw[←hwb];clear hwb a0 d0 d1 d2 d3 d4 d5 d6 dfz;obtain⟨a0,d0,d1,d2,d3,d4,d5,d6,dfz⟩:=hM2.at_.facts
  have e1:((s.next.i:Nat):Int)=(s.i:Int)+1:=by simp[PS.next]
  rw[e1]at d1;have hM2:=Lib.hid hM2;clear e1;go_quiet (fail);go_wp2_with fail;go_ret;exact⟨rfl,hM2.out.below (below_drewN (Below.refl _ _) _),htx⟩
theorem open_any {C:PC} {L:PL} (w:World) (s:PS) (hP:PAt C L s w):
  Calls Tryz.prog 34 #[.pointer (some ⟨L.g,0,none⟩)] w fun e w'=>e= .returned (.bool (aV C s).1)∧Moved C L (aV C s).2 w w':=by
 obtain⟨a0,d0,d1,d2,d3,d4,d5,d6,dfz⟩:=hP.facts;obtain⟨b1,b2,b3,b4,b5,b6,b7⟩:=hP.bounds;by_cases he:s.e=0
 ·have he':((s.e:Int) !=0)=false:=by simp;omega
  by_cases hd:40≤s.deep
  ·have hF:aV C s=(false,bT C 52 s):=by unfold aV;rw[if_neg (by omega),if_pos hd]
   rw[hF];have hc:=mJ w s 52 hP (by decide);clear hF hP;go_enter Tryz.func34,Tryz.ntmps34;go_wp2_with fail;refine hc.mono ?_;clear hc;rintro e w1 ⟨rfl,hP,hW⟩;have hM:=Lib.hid (⟨hP,hW⟩:Moved _ _ _ _ _);clear hP hW;go_wp2_with fail;go_ret;exact⟨rfl,hM.out⟩
  ·have hF:aV C s=(true,{s with deep:=s.deep+1}):=by unfold aV;rw[if_neg (by omega),if_neg hd]
   rw[hF];have hP:=Lib.hid hP;clear hF;go_enter Tryz.func34,Tryz.ntmps34;go_wp2_with fail;go_ret;exact⟨rfl,(Moved.refl hP.out).store 5 _ (by simp[PS.cells]) ⟨hP.out.ok.i,hP.out.ok.n,hP.out.ok.at_,hP.out.ok.e,by simp only;omega⟩⟩
 ·have he':((s.e:Int) !=0)=true:=by simp;omega
  have hF:aV C s=(false,s):=by unfold aV;rw[if_pos he]
  rw[hF];have hP:=Lib.hid hP;clear hF;go_enter Tryz.func34,Tryz.ntmps34;go_wp2_with fail;go_ret;exact⟨rfl,Moved.refl hP.out⟩
theorem A_ (l:List UInt8) (c:UInt8) (n:Int):rD (l++ [c]) n=w64 (w64 (10*rD l n)+(c-48).toNat):=by
 induction l generalizing n with
 |nil=>rfl
 |cons a r ih=>exact ih _
theorem Cj (x:Int):w64 x=wrap64 x:=by unfold w64 wrap64;rfl
theorem sub48 (c:UInt8):(((c-48).toNat:Nat):Int)=((c.toNat:Int)-48)%256:=by
 have h:=c.toNat_lt;rw[UInt8.toNat_sub];simp;omega
theorem qO (s:ByteArray) (k:Nat) (h:k<s.size):s.data.toList.take (k+1)=s.data.toList.take k++ [s[k]]:=by
 rw[List.take_succ_eq_append_getElem (by simpa using h)];rfl
theorem yR (w:World) (s:ByteArray) (hs:s.size≤4096):
  Calls Tryz.prog 65 #[.string s] w fun e w'=>e= .returned (.int .i64 (rD s.data.toList 0))∧w'=w:=by
 go_enter Tryz.func65,Tryz.ntmps65;go_wp2_with fail
 go_loop [3,4] (fun n i=>∃k:Nat,k≤s.size∧i= .int .i64 k∧n= .int .i64 (rD (s.data.toList.take k) 0)) (fun _ i=>s.size-(intOf i).toNat)
 case atStart=>exact⟨0,Nat.zero_le _,rfl,rfl⟩
 case round=>
  obtain⟨k,hk,rfl,rfl⟩:=hrel;by_cases hlt:k<s.size
  ·have HS:Hid (rD (s.data.toList.take (k+1)) 0=wrap64 (wrap64 (10*rD (s.data.toList.take k) 0)+((s[k].toNat:Int)-48)%256)):=Lib.hid (by rw[qO s k hlt,A_,Cj,Cj,sub48]);generalize rD (s.data.toList.take k) 0=n0 at HS⊢;go_wp2_with fail;go_round
   case rel=>exact⟨k+1,by omega,by go_num,by rw[HS.out]⟩
   case measure=>simp[intOf];omega
  ·go_wp2_with fail;go_ret;exact⟨EO (by rw[List.take_of_length_le (by simp;omega)]),rfl⟩
def aJ (w:World) (S:Nat→Prop):Ex→Value→Prop
 | .nil,v=>v= .pointer none
 | .mk k n nm a b,v=>∃g va vb,v= .pointer (some ⟨g,0,none⟩)∧S g∧nm.length≤4096∧k≤7∧
   Holds w g 205 #[.int .i64 k,.int .i64 n,.string (ay nm),va,vb]∧aJ w S a va∧aJ w S b vb
theorem aJ.keep {w w':World} {S:Nat→Prop} (hk:∀x,x<w.heap.size→S x→w'.heap[x]? =w.heap[x]?):∀{e:Ex} {v:Value},aJ w S e v→aJ w' S e v
 | .nil,_,h=>h
 | .mk _ _ _ _ _,_,h=>by obtain⟨g,va,vb,e,hS,hn,hk7,hH,ha,hb⟩:=h;exact⟨g,va,vb,e,hS,hn,hk7,(hk g hH.lt hS).trans hH,ha.keep hk,hb.keep hk⟩
theorem aJ.mono {w:World} {S S':Nat→Prop} (hk:∀x,x<w.heap.size→S x→S' x):∀{e:Ex} {v:Value},aJ w S e v→aJ w S' e v
 | .nil,_,h=>h
 | .mk _ _ _ _ _,_,h=>by obtain⟨g,va,vb,e,hS,hn,hk7,hH,ha,hb⟩:=h;exact⟨g,va,vb,e,hk g hH.lt hS,hn,hk7,hH,ha.mono hk,hb.mono hk⟩
theorem aJ.below {w w':World} {S:Nat→Prop} {e:Ex} {v:Value} (h:aJ w S e v) (hb:Below w.heap.size w w'):aJ w' S e v:=h.keep fun x hx _=>hb.block x hx
theorem aJ.writes {w w':World} {M:List (Option Nat)} {S:Nat→Prop} {e:Ex} {v:Value} (h:aJ w S e v) (hW:Writes M w w') (hM:∀k,some k∈M→¬S k):aJ w' S e v:=h.keep fun x hx hS=>hW.block x hx fun e=>hM x e hS
def Ge (B x:Nat):Prop:=B≤x
theorem aJ.ge {w:World} {B B':Nat} {e:Ex} {v:Value} (h:aJ w (Ge B') e v) (hB:B≤B'):aJ w (Ge B) e v:=h.mono fun _ _ h=>Nat.le_trans hB h
theorem aJ.node {w:World} {S:Nat→Prop} {a b:Ex} {va vb:Value} (k:Nat) (n:Int) (nm:List UInt8) (hk:k≤7) (hn:nm.length≤4096) (hS:S w.heap.size) (ha:aJ w S a va) (hb:aJ w S b vb):
  aJ (w.alloc (.cells #[.int .i64 k,.int .i64 n,.string (ay nm),va,vb] 205)) S (.mk k n nm a b) (.pointer (some ⟨w.heap.size,0,none⟩)):=
 ⟨_,va,vb,rfl,hS,hn,hk,Holds.new _ _ _,ha.below (aA w _),hb.below (aA w _)⟩
theorem aJ.new {w:World} {B g:Nat} {a b:Ex} {va vb:Value} (k:Nat) (n:Int) (nm:List UInt8) (hk:k≤7) (hn:nm.length≤4096) (hB:B≤w.heap.size) (hg:g=w.heap.size) (ha:aJ w (Ge B) a va) (hb:aJ w (Ge B) b vb):
  aJ (w.alloc (.cells #[.int .i64 k,.int .i64 n,.string (ay nm),va,vb] 205)) (Ge B) (.mk k n nm a b) (.pointer (some ⟨g,0,none⟩)):=by
 subst hg;exact aJ.node k n nm hk hn hB ha hb
theorem gV (w:World) (p:Addr) (v:Value):(w.setCell p v).heap.size=w.heap.size:=by simp[World.setCell]
theorem aJ.pw {w w':World} {B g:Nat} {e:Ex} {v:Value} (h:aJ w (Ge B) e v) (hW:Writes [some g] w w') (hg:g<B):aJ w' (Ge B) e v:=
 h.writes hW fun k hk hge=>by simp at hk;subst hk;exact absurd hge (Nat.not_le_of_lt hg)
theorem aJ.nil_ (w:World) (S:Nat→Prop):aJ w S .nil (.pointer none):=rfl
theorem aJ.vp {w:World} {S:Nat→Prop} {e:Ex} {v:Value} (h:aJ w S e v):∃p,v= .pointer p:=by
 cases e with
 |nil=>exact⟨_,h⟩
 |mk k n nm a b=>
  obtain⟨g,va,vb,e,_⟩:=h;exact⟨_,e⟩
def fA (C:PC) (L:PL) (r:Ex×PS) (w:World) (e:Ending) (w':World):Prop:=∃p,e= .returned (.pointer p)∧Moved C L r.2 w w'∧aJ w' (Ge w.heap.size) r.1 (.pointer p)
theorem fA.of {C:PC} {L:PL} {r:Ex×PS} {w w':World} {p:Option Addr} (h:Moved C L r.2 w w') (h2:aJ w' (Ge w.heap.size) r.1 (.pointer p)):fA C L r w (.returned (.pointer p)) w':=⟨p,rfl,h,h2⟩
end Go.Proofs.YtpndglghpojjkaaGreat
