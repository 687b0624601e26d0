/-
  14 texts of the proof, in one file: no condition.
-/
import Derived.WalkKit
import Derived.WalkSpells
import Derived.WalkLawsBesides
import Derived.Lib.Hide
import Derived.Deep.Draws
import Derived.Lib.SlBytesConst
import Derived.Test.YtpndglghpojjkaaGreatRows
import Derived.ProofKit
import Derived.OpenShut
import Derived.Deep.Matrix
import Derived.Shelf.Small.Strs
import Derived.Shelf.Sort.Plain
import Derived.Ground.Names2Prog
import Derived.Shelf.Slices.Clone
import Derived.Shelf.Slices.CompactS
import Derived.Shelf.Slices.Cells
import Derived.Shelf.Slices.In.SortNone
import Derived.Test.YtpndglghpojjkaaGreatProg
import Derived.Shelf.SlSortCmp.InsertionK
import Derived.Shelf.SlGeneric
import Derived.Shelf.Lay
import Derived.Ground.SlsfProg
import Derived.Maps.AppendAt
import Derived.Sort.LotA
import Derived.Lib.SlicesCompact
import Derived.Sort.EncStr
import Derived.Sort.OwnSorted
import Derived.Sort.Grow
import Derived.Lib.OwnBridge
set_option maxRecDepth 1000000
set_option maxHeartbeats 8000000
namespace Go.Proofs.YtpndglghpojjkaaGreat
open Go.RowKit
theorem zi {p:Prop} (h:p):Hid p:=Lib.hid h
def Holds (w:World) (g:Nat) (t:TypeId) (cs:Array Value):Prop:=w.heap[g]? =some (.cells cs t (0,0))
section
variable {w w':World} {g:Nat} {t:TypeId} {cs:Array Value}
theorem Holds.lt (h:Holds w g t cs):g<w.heap.size:=(Array.getElem?_eq_some_iff.1 h).1
theorem Holds.cell (h:Holds w g t cs) (i:Nat):w.cell? ⟨g,i,none⟩=cs[i]? :=cell_of_row w g i cs t (0,0) h
theorem Holds.frozen (h:Holds w g t cs) (i:Nat):w.frozen? ⟨g,i,none⟩=false:=by
 unfold Holds at h;simp[World.frozen?,h]
theorem Holds.new (w:World) (t:TypeId) (cs:Array Value):Holds (w.alloc (.cells cs t)) w.heap.size t cs:=heap_alloc_new w _
theorem Holds.alloc (h:Holds w g t cs) (o:Obj):Holds (w.alloc o) g t cs:=(Below.heap_alloc w o g h.lt).trans h
theorem Holds.drewN (h:Holds w g t cs) (n:Nat):Holds (w.drewN n) g t cs:=h
theorem Holds.store (h:Holds w g t cs) (i:Nat) (u:Value):Holds (w.setCell ⟨g,i,none⟩ u) g t (cs.setIfInBounds i u):=by
 unfold Holds at h⊢;simp[World.setCell,Array.getElem?_modify,h]
theorem Holds.apart (h:Holds w g t cs) {p:Addr} (hp:g≠p.block) (u:Value):Holds (w.setCell p u) g t cs:=(Below.heap_setCell w p u g hp).trans h
theorem Holds.below {B:Nat} (h:Holds w g t cs) (hb:Below B w w') (hg:g<B):Holds w' g t cs:=(hb.block g hg).trans h
theorem Holds.grown {row:Option Nat} (h:Holds w g t cs) (hb:w.grownBy w' row) (hg:some g≠row):Holds w' g t cs:=(hb.block g h.lt hg).trans h
theorem Holds.row (h:Holds w g t cs) (cs':Array Value):Holds (w.setRow g cs') g t cs':=by
 unfold Holds at h⊢;simp[World.setRow,Array.getElem?_modify,h]
end
def Row (w:World) (B:Nat) (A:Option Addr) (vs:List Value):Prop:=
 vs≠[]→∃b off,A=some ⟨b,off,none⟩∧b<B∧∀j u,vs[j]? =some u→w.cell? ⟨b,off+j,none⟩=some u
section
variable {w w':World} {B B':Nat} {A:Option Addr} {vs:List Value}
theorem Row.nil_ (w:World) (B:Nat) (A:Option Addr):Row w B A []:=fun h=>absurd rfl h
theorem Row.keep (h:Row w B A vs) (hk:∀p:Addr,p.block<B→w'.cell? p=w.cell? p):Row w' B A vs:=fun hn=>by
 obtain⟨b,off,e,hb,hc⟩:=h hn;exact⟨b,off,e,hb,fun j u hu=>(hk _ hb).trans (hc j u hu)⟩
theorem Row.more (h:Row w B A vs) (hB:B≤B'):Row w B' A vs:=fun hn=>by
 obtain⟨b,off,e,hb,hc⟩:=h hn;exact⟨b,off,e,by omega,hc⟩
theorem Row.below (h:Row w B A vs) (hb:Below B w w'):Row w' B A vs:=h.keep fun _ hp=>hb.cell hp
theorem Row.at_ {k:Nat} (h:Row w B A vs) (hk:k<vs.length):∃b off,A=some ⟨b,off,none⟩∧b<B∧w.cell? ⟨b,off+k,none⟩=some vs[k]:=by
 obtain⟨b,off,e,hb,hc⟩:=h (by intro h;subst h;simp at hk);exact⟨b,off,e,hb,hc k _ (List.getElem?_eq_getElem hk)⟩
theorem Row.take (h:Row w B A vs) (k:Nat):Row w B A (vs.take k):=fun hn=>by
 obtain⟨b,off,e,hb,hc⟩:=h (by rintro rfl;simp at hn);refine⟨b,off,e,hb,fun j u hu=>hc j u ?_⟩;rw[List.getElem?_take]at hu;split at hu
 ·exact hu
 ·cases hu
end
theorem ret_int {k:IntKind} {a b:Int} (h:a=b):Ending.returned (.int k a)= .returned (.int k b):=by rw[h]
theorem ret_bool {a b:Bool} (h:a=b):Ending.returned (.bool a)= .returned (.bool b):=by rw[h]
def byteV (b:UInt8):Value:= .int .u8 b.toNat
def Bytes (w:World) (B:Nat) (A:Option Addr) (l:List UInt8):Prop:=Row w B A (l.map byteV)
theorem Bytes.at_ {w:World} {B:Nat} {A:Option Addr} {l:List UInt8} {k:Nat} (h:Bytes w B A l) (hk:k<l.length):
  ∃b off,A=some ⟨b,off,none⟩∧b<B∧w.cell? ⟨b,off+k,none⟩=some (.int .u8 l[k].toNat):=by
 obtain⟨b,off,e,hb,hc⟩:=Row.at_ h (k:=k) (by simpa using hk);exact⟨b,off,e,hb,by simpa[byteV]using hc⟩
def Slices (w:World) (B:Nat) (A:Option Addr) (ls:List (List UInt8)):Prop:=
 ∃vs:List Value,vs.length=ls.length∧Row w B A vs∧∀i (h:i<ls.length),∃Ai ci,vs[i]? =some (.slice Ai ls[i].length ci)∧Bytes w B Ai ls[i]∧ls[i].length≤maxLen
theorem Slices.below {w w':World} {B:Nat} {A:Option Addr} {ls:List (List UInt8)} (h:Slices w B A ls) (hb:Below B w w'):Slices w' B A ls:=by
 obtain⟨vs,hl,hr,hi⟩:=h
 exact⟨vs,hl,hr.below hb,fun i hlt=>by
  obtain⟨Ai,ci,h1,h2,h3⟩:=hi i hlt
  exact⟨Ai,ci,h1,Row.below h2 hb,h3⟩⟩
theorem Slices.more {w:World} {B B':Nat} {A:Option Addr} {ls:List (List UInt8)} (h:Slices w B A ls) (hB:B≤B'):Slices w B' A ls:=by
 obtain⟨vs,hl,hr,hi⟩:=h
 exact⟨vs,hl,hr.more hB,fun i hlt=>by
  obtain⟨Ai,ci,h1,h2,h3⟩:=hi i hlt
  exact⟨Ai,ci,h1,Row.more h2 hB,h3⟩⟩
theorem Slices.at_ {w:World} {B:Nat} {A:Option Addr} {ls:List (List UInt8)} {k:Nat} (h:Slices w B A ls) (hk:k<ls.length):
  ∃b off Ai ci,A=some ⟨b,off,none⟩∧b<B∧w.cell? ⟨b,off+k,none⟩=some (.slice Ai ls[k].length ci)∧Bytes w B Ai ls[k]∧ls[k].length≤maxLen:=by
 obtain⟨vs,hl,hr,hi⟩:=h;obtain⟨Ai,ci,h1,h2,h3⟩:=hi k hk;obtain⟨b,off,e,hb,hc⟩:=hr.at_ (k:=k) (by omega)
 have:vs[k]'(by omega)= .slice Ai ls[k].length ci:=by have h4:=List.getElem?_eq_getElem (l:=vs) (i:=k) (by omega);rw[h4]at h1;exact Option.some.inj h1
 exact⟨b,off,Ai,ci,e,hb,by rw[hc,this],h2,h3⟩
theorem Row.ofBlock {w:World} {g B:Nat} {t:TypeId} {cs:Array Value} {fr:Nat×Nat} (h:w.heap[g]? =some (.cells cs t fr)) (hB:g<B):Row w B (some ⟨g,0,none⟩) cs.toList:=
 fun _=>⟨g,0,rfl,hB,fun j u hu=>by rw[Nat.zero_add,cell_of_row w g j cs t fr h];simpa using hu⟩
def Strs (w:World) (B:Nat) (A:Option Addr) (ss:List ByteArray):Prop:=Row w B A (ss.map Value.string)
theorem Strs.at_ {w:World} {B:Nat} {A:Option Addr} {ss:List ByteArray} {k:Nat} (h:Strs w B A ss) (hk:k<ss.length):
  ∃b off,A=some ⟨b,off,none⟩∧b<B∧w.cell? ⟨b,off+k,none⟩=some (.string ss[k]):=by
 obtain⟨b,off,e,hb,hc⟩:=Row.at_ h (k:=k) (by simpa using hk);exact⟨b,off,e,hb,by simpa using hc⟩
def strV (l:List UInt8):ByteArray:=⟨l.toArray⟩
theorem strV_size (l:List UInt8):(strV l).size=l.length:=by simp[strV,ByteArray.size]
theorem own_row {w:World} {base:Nat} {e:TypeId} {v:Value} {n:Nat} {xs:List Value} (h:w.ownsRow base e 1 v n xs):∃A c,v= .slice A n c∧Row w w.heap.size A xs∧xs.length=n∧n≤c:=by
 have hl:=h.1;rcases h.2 with⟨rfl,rfl⟩| ⟨g,cap,cur,rfl,hg,hh,hn,_⟩
 ·have:xs= []:=List.eq_nil_of_length_eq_zero (by omega);subst this;exact⟨none,0,rfl,Row.nil_ _ _ _,rfl,Nat.le_refl _⟩
 ·refine⟨_,cap,rfl,fun _=>⟨g,0,rfl,(Array.getElem?_eq_some_iff.1 hh).1,fun j u hu=> ?_⟩,by omega,hn⟩;have:=h.cells (g:=g) rfl j u hu
  have hadd:(⟨g,0,none⟩:Addr).add j=⟨g,0+j,none⟩:=by unfold Addr.add;split<;>simp_all
  rw[←hadd];exact this
theorem Bytes.below {w w':World} {B:Nat} {A:Option Addr} {l:List UInt8} (h:Bytes w B A l) (hb:Below B w w'):Bytes w' B A l:=Row.below h hb
theorem Bytes.more {w:World} {B B':Nat} {A:Option Addr} {l:List UInt8} (h:Bytes w B A l) (hB:B≤B'):Bytes w B' A l:=Row.more h hB
theorem Bytes.up {w w':World} {A:Option Addr} {l:List UInt8} (h:Bytes w w.heap.size A l) (hb:Below w.heap.size w w'):Bytes w' w'.heap.size A l:=(h.below hb).more hb.size
theorem Slices.up {w w':World} {A:Option Addr} {l:List (List UInt8)} (h:Slices w w.heap.size A l) (hb:Below w.heap.size w w'):Slices w' w'.heap.size A l:=(h.below hb).more hb.size
theorem Strs.up {w w':World} {A:Option Addr} {l:List ByteArray} (h:Strs w w.heap.size A l) (hb:Below w.heap.size w w'):Strs w' w'.heap.size A l:=Row.more (Row.below h hb) hb.size
theorem Bytes.take {w:World} {B:Nat} {A:Option Addr} {l:List UInt8} (h:Bytes w B A l) (k:Nat):Bytes w B A (l.take k):=by
 have:=Row.take h k;rw[←List.map_take]at this;exact this
theorem Row.cut {w:World} {B:Nat} {A:Option Addr} {vs:List Value} (h:Row w B A vs) (k:Nat) {c:Nat} (hc:vs.length≤c):Row w B (if c=k then A else A.map (·.add k)) (vs.drop k):=fun hn=>by
 have hk:k<vs.length:=by
  rcases Nat.lt_or_ge k vs.length with h1|h1
  ·exact h1
  ·exact absurd (List.drop_eq_nil_of_le h1) hn
 obtain⟨b,off,rfl,hb,hcell⟩:=h (by rintro rfl;simp at hk);rw[if_neg (by omega)];refine⟨b,off+k,by unfold Addr.add;simp only[Option.map_some];split<;>simp_all,hb,fun j u hu=> ?_⟩;rw[Nat.add_assoc];exact hcell (k+j) u (by rw[←hu,List.getElem?_drop])
theorem Bytes.cut {w:World} {B:Nat} {A:Option Addr} {l:List UInt8} (h:Bytes w B A l) (k:Nat) {c:Nat} (hc:l.length≤c):Bytes w B (if c=k then A else A.map (·.add k)) (l.drop k):=by
 have:=Row.cut h k (c:=c) (by simpa using hc);rw[←List.map_drop]at this;exact this
theorem Row.fresh (w:World) (t:TypeId) (vs:List Value):Row (w.alloc (.cells vs.toArray t)) (w.alloc (.cells vs.toArray t)).heap.size (some ⟨w.heap.size,0,none⟩) vs:=by
 have:=Row.ofBlock (heap_alloc_new w (.cells vs.toArray t)) (B:=(w.alloc (.cells vs.toArray t)).heap.size) (by simp);simpa using this
theorem Slices.one {w:World} (t:TypeId) {A:Option Addr} {n c:Nat} {l:List UInt8} (hn:l.length=n) (hm:n≤maxLen) (h:Bytes w w.heap.size A l):
  Slices (w.alloc (.cells #[.slice A n c] t)) (w.alloc (.cells #[.slice A n c] t)).heap.size (some ⟨w.heap.size,0,none⟩) [l]:=by
 subst hn;refine⟨_,rfl,Row.fresh w t [.slice A l.length c],fun i hi=> ?_⟩
 match i,hi with
 |0,_=>exact⟨A,c,rfl,h.up ((Below.refl _ _).alloc (Nat.le_refl _) _),hm⟩
theorem Slices.two {w:World} (t:TypeId) {A A':Option Addr} {n c n' c':Nat} {l l':List UInt8} (hn:l.length=n) (hm:n≤maxLen) (h:Bytes w w.heap.size A l) (hn':l'.length=n') (hm':n'≤maxLen) (h':Bytes w w.heap.size A' l'):
  Slices (w.alloc (.cells #[.slice A n c,.slice A' n' c'] t)) (w.alloc (.cells #[.slice A n c,.slice A' n' c'] t)).heap.size (some ⟨w.heap.size,0,none⟩) [l,l']:=by
 subst hn hn';refine⟨_,rfl,Row.fresh w t [.slice A l.length c,.slice A' l'.length c'],fun i hi=> ?_⟩
 match i,hi with
 |0,_=>exact⟨A,c,rfl,h.up ((Below.refl _ _).alloc (Nat.le_refl _) _),hm⟩
 |1,_=>exact⟨A',c',rfl,h'.up ((Below.refl _ _).alloc (Nat.le_refl _) _),hm'⟩
theorem Strs.new (w:World) (t:TypeId) (ss:List ByteArray):Strs (w.alloc (.cells (ss.map Value.string).toArray t)) (w.alloc (.cells (ss.map Value.string).toArray t)).heap.size (some ⟨w.heap.size,0,none⟩) ss:=Row.fresh w t _
theorem below_new (w:World) (o:Obj):Below w.heap.size w (w.alloc o):=(Below.refl _ _).alloc (Nat.le_refl _) _
end Go.Proofs.YtpndglghpojjkaaGreat
namespace Go.Proofs.YtpndglghpojjkaaGreat
open Go.RowKit Go.ChangeShapes Go.WideShapes Go.Deep
open Go.ChangeMaps (open_string)
theorem Tryz.own:ownKnob Tryz.prog.godebug=none:=by kernel_rfl
theorem Tryz.laidOut:laidOutB Tryz.prog=true:=by kernel_rfl
def ArgOk (t:TypeId) (W:World) (v:Value):Prop:=
 ∃(H:Type) (enc:TypeId×Value→H) (d:DataW H) (p:List MemPlace) (base:Nat),Value.okWide Tryz.prog W .any base t v∧DataW.Trod enc Tryz.prog W 0 (fun _=>true) true t v d p
theorem arg_lt {H:Type} {enc:TypeId×Value→H} {W:World} {t:TypeId} {v:Value} {d:DataW H} {p:List MemPlace} (h:DataW.Trod enc Tryz.prog W 0 (fun _=>true) true t v d p):∀x∈p,x.block<W.heap.size:=by
 obtain⟨m,hm⟩:=h;exact DataW.trod_lt m _ _ _ hm
theorem bytes_of_cells {W:World} {A:Option Addr} {n c:Nat} {Z:List Int} (hZ:Z.length=c) (hn:n≤c) (hwf:∀n∈Z,(Lit.int .u8 n).wf=true)
  (hc:∀a',A=some a'→∀j,j<c→W.cell? (a'.add j)=some (.int .u8 (Z.getD j 0))) (h0:A=none→c=0):
  ∃l:List UInt8,l.length=n∧Bytes W W.heap.size A l:=by
 refine⟨(Z.take n).map fun z=>UInt8.ofNat z.toNat,by simp;omega,fun hne=> ?_⟩
 have hn0:0<n:=by
  rcases Nat.eq_zero_or_pos n with h|h
  ·subst h;simp at hne
  ·exact h
 rcases A with _|a
 ·have:=h0 rfl;omega
 ·obtain⟨b,off,rfl,hc2⟩:=ints_at (k:= .u8) (zs:=Z) (fun i hi=>hc a rfl i (by omega)) (by omega);refine⟨b,off,rfl,?_,fun j u hu=> ?_⟩
  ·have:=hc2 0 (by omega);exact block_lt_of_cell this
  ·have hj:j<n:=by
    rcases Nat.lt_or_ge j n with h|h
    ·exact h
    ·rw[List.getElem?_eq_none (by simp;omega)]at hu;cases hu
   rw[hc2 j (by omega)]
   have hjZ:j<Z.length:=by omega
   have hz:=bounds_u8 (hwf Z[j] (List.getElem_mem hjZ));simp[hj,hjZ]at hu;subst hu;simp only[byteV,List.getD_eq_getElem?_getD,List.getElem?_eq_getElem hjZ,Option.getD_some];congr 2;rw[UInt8.toNat_ofNat_of_lt' (show Z[j].toNat<256 by omega)];omega
theorem ArgOk.bytes {W:World} {v:Value} (h:ArgOk 37 W v):∃A n c l,v= .slice A n c∧l.length=n∧n≤c∧c≤maxLen∧Bytes W W.heap.size A l:=by
 obtain⟨H,enc,d,p,base,hok,fuel,hf⟩:=h;obtain⟨a0,len0,cap0,rfl⟩:=okWide_slice Tryz.underlying37 hok;rcases open_ints Tryz.underlying37 Tryz.underlying5 (by kernel_rfl) hf with⟨hcs,_⟩| ⟨x,l,c,zs,hcs,_,hl,hm,hz,_,hcell,hwz⟩
 ·simp[Value.cells]at hcs;obtain⟨rfl,rfl,rfl⟩:=hcs;exact⟨_,_,_,[],rfl,rfl,Nat.le_refl _,by simp,Row.nil_ _ _ _⟩
 ·simp[Value.cells]at hcs;obtain⟨rfl,rfl,rfl⟩:=hcs;simp only[if_true]at hz;obtain⟨l,hl2,hb⟩:=bytes_of_cells (W:=W) (A:=some x) hz hl hwz (fun a' e j hj=>by cases e;exact hcell j (by omega)) (fun e=>by cases e);exact⟨_,_,_,l,rfl,hl2,hl,hm,hb⟩
theorem ArgOk.int {W:World} {v:Value} (h:ArgOk 3 W v):∃n:Int,v= .int .i64 n∧-9223372036854775808≤n∧n≤9223372036854775807:=by
 obtain⟨H,enc,d,p,base,hok,hf⟩:=h;obtain⟨n,rfl,_,_,hw⟩:=open_int Tryz.underlying3 hok hf;refine⟨n,rfl,?_⟩;simp[Lit.wf,IntKind.min,IntKind.max,IntKind.signed,IntKind.bits]at hw;omega
theorem ArgOk.u8 {W:World} {v:Value} (h:ArgOk 5 W v):∃n:Nat,v= .int .u8 n∧n<256:=by
 obtain⟨H,enc,d,p,base,hok,hf⟩:=h;obtain⟨n,rfl,_,_,hw⟩:=open_int Tryz.underlying5 hok hf;have:=bounds_u8 hw;exact⟨n.toNat,by rw[Int.toNat_of_nonneg this.1],by omega⟩
end Go.Proofs.YtpndglghpojjkaaGreat
namespace Go.Proofs
open Go.Shelf
def Tryz.lays213_ren:Go.Shelf.Ren:=⟨fun|213=>164|265=>188|n=>n,fun|9=>9|3=>3|n=>n,fun|n=>n⟩
theorem Tryz.lays213:Go.Proofs.Lays.n213 Tryz.prog Tryz.lays213_ren:={
 mixed:=by kernel_rfl
 f213:=Tryz.func164.trans (congrArg some (by kernel_rfl))
 f265:=Tryz.func188.trans (congrArg some (by kernel_rfl))
 t3:=Tryz.underlying3
 a3:=Tryz.isAgg3
 z3:=Tryz.sizeOf3
 v3:=Tryz.zeroValue3
 t9:=Tryz.underlying9
 a9:=Tryz.isAgg9
 z9:=Tryz.sizeOf9
 v9:=Tryz.zeroValue9}
open Go.RowKit in
theorem Tryz.bytealg_CompareString (a b:ByteArray) (w:World):
  Calls Tryz.prog 164 #[.string a,.string b] w fun e w'=>e= .returned (.int .i64 (Lib.compareBytes a.data.toList b.data.toList))∧w'=w:=Any.bytealg_CompareString Tryz.lays213 a b w
def Tryz.lays106_ren:Go.Shelf.Ren:=⟨fun|106=>121|213=>164|265=>188|n=>n,fun|9=>9|3=>3|n=>n,fun|n=>n⟩
theorem Tryz.lays106:Go.Proofs.Lays.n106 Tryz.prog Tryz.lays106_ren:={
 mixed:=by kernel_rfl
 f106:=Tryz.func121.trans (congrArg some (by kernel_rfl))
 f213:=Tryz.func164.trans (congrArg some (by kernel_rfl))
 f265:=Tryz.func188.trans (congrArg some (by kernel_rfl))
 t3:=Tryz.underlying3
 a3:=Tryz.isAgg3
 z3:=Tryz.sizeOf3
 v3:=Tryz.zeroValue3
 t9:=Tryz.underlying9
 a9:=Tryz.isAgg9
 z9:=Tryz.sizeOf9
 v9:=Tryz.zeroValue9}
open Go.RowKit in
theorem Tryz.strings_Compare (a b:ByteArray) (w:World):
  Calls Tryz.prog 121 #[.string a,.string b] w fun e w'=>e= .returned (.int .i64 (Lib.compareBytes a.data.toList b.data.toList))∧w'=w:=Any.strings_Compare Tryz.lays106 a b w
def Tryz.lays190_ren:Go.Shelf.Ren:=⟨fun|190=>83|125=>137|258=>136|128=>177|129=>178|302=>168|303=>169|304=>170|305=>171|306=>172|307=>173|308=>174|309=>175|310=>176|333=>193|329=>194|330=>195|334=>196|335=>197|336=>198|344=>202|n=>n,fun|31=>35|9=>9|3=>3|46=>203|0=>0|51=>234|53=>144|4=>4|183=>228|182=>227|131=>177|5=>5|218=>246|222=>250|228=>254|229=>255|n=>n,fun|n=>n⟩
theorem Tryz.lays190:Go.Proofs.Lays.n190 Tryz.prog Tryz.lays190_ren:={
 mixed:=by kernel_rfl
 f125:=Tryz.func137.trans (congrArg some (by kernel_rfl))
 f128:=Tryz.func177.trans (congrArg some (by kernel_rfl))
 f129:=Tryz.func178.trans (congrArg some (by kernel_rfl))
 f190:=Tryz.func83.trans (congrArg some (by kernel_rfl))
 f258:=Tryz.func136.trans (congrArg some (by kernel_rfl))
 f302:=Tryz.func168.trans (congrArg some (by kernel_rfl))
 f303:=Tryz.func169.trans (congrArg some (by kernel_rfl))
 f304:=Tryz.func170.trans (congrArg some (by kernel_rfl))
 f305:=Tryz.func171.trans (congrArg some (by kernel_rfl))
 f306:=Tryz.func172.trans (congrArg some (by kernel_rfl))
 f307:=Tryz.func173.trans (congrArg some (by kernel_rfl))
 f308:=Tryz.func174.trans (congrArg some (by kernel_rfl))
 f309:=Tryz.func175.trans (congrArg some (by kernel_rfl))
 f310:=Tryz.func176.trans (congrArg some (by kernel_rfl))
 f329:=Tryz.func194.trans (congrArg some (by kernel_rfl))
 f330:=Tryz.func195.trans (congrArg some (by kernel_rfl))
 f333:=Tryz.func193.trans (congrArg some (by kernel_rfl))
 f334:=Tryz.func196.trans (congrArg some (by kernel_rfl))
 f335:=Tryz.func197.trans (congrArg some (by kernel_rfl))
 f336:=Tryz.func198.trans (congrArg some (by kernel_rfl))
 f344:=Tryz.func202.trans (congrArg some (by kernel_rfl))
 t0:=Tryz.underlying0
 a0:=Tryz.isAgg0
 z0:=Tryz.sizeOf0
 v0:=Tryz.zeroValue0
 t3:=Tryz.underlying3
 a3:=Tryz.isAgg3
 z3:=Tryz.sizeOf3
 v3:=Tryz.zeroValue3
 t4:=Tryz.underlying4
 a4:=Tryz.isAgg4
 z4:=Tryz.sizeOf4
 v4:=Tryz.zeroValue4
 t5:=Tryz.underlying5
 a5:=Tryz.isAgg5
 z5:=Tryz.sizeOf5
 v5:=Tryz.zeroValue5
 t9:=Tryz.underlying9
 a9:=Tryz.isAgg9
 z9:=Tryz.sizeOf9
 v9:=Tryz.zeroValue9
 t31:=Tryz.underlying35
 a31:=Tryz.isAgg35
 z31:=Tryz.sizeOf35
 v31:=Tryz.zeroValue35
 t46:=Tryz.underlying203
 a46:=Tryz.isAgg203
 z46:=Tryz.sizeOf203
 v46:=Tryz.zeroValue203
 t51:=Tryz.underlying234
 a51:=Tryz.isAgg234
 z51:=Tryz.sizeOf234
 v51:=Tryz.zeroValue234
 t53:=Tryz.underlying144
 a53:=Tryz.isAgg144
 z53:=Tryz.sizeOf144
 v53:=Tryz.zeroValue144
 t131:=Tryz.underlying177
 a131:=Tryz.isAgg177
 z131:=Tryz.sizeOf177
 v131:=Tryz.zeroValue177
 t182:=Tryz.underlying227
 a182:=Tryz.isAgg227
 z182:=Tryz.sizeOf227
 v182:=Tryz.zeroValue227
 t183:=Tryz.underlying228
 a183:=Tryz.isAgg228
 z183:=Tryz.sizeOf228
 v183:=Tryz.zeroValue228
 t218:=Tryz.underlying246
 a218:=Tryz.isAgg246
 z218:=Tryz.sizeOf246
 v218:=Tryz.zeroValue246
 t222:=Tryz.underlying250
 a222:=Tryz.isAgg250
 z222:=Tryz.sizeOf250
 v222:=Tryz.zeroValue250
 t228:=Tryz.underlying254
 a228:=Tryz.isAgg254
 z228:=Tryz.sizeOf254
 v228:=Tryz.zeroValue254
 t229:=Tryz.underlying255
 a229:=Tryz.isAgg255
 z229:=Tryz.sizeOf255
 v229:=Tryz.zeroValue255}
open Go.Sort Go.RowKit in
theorem Tryz.slices_Sort_string (blk off cap:Nat) (ss:List (List UInt8)) (w:World) (hH:Holds encStr w blk off ss.toArray) (hblk:blk<w.heap.size) (hsz:ss.length<4611686018427387904):
  Calls Tryz.prog 83 #[.slice (some ⟨blk,off,none⟩) ss.length cap] w fun e w'=>
   e= .returned (.tuple #[])∧∃n os,w'=grow (putRow encStr (Sort.ahead w n) blk off (ss.mergeSort fun x y=>decide (x≤y)).toArray) os:=Any.slices_Sort_string Tryz.lays190 blk off cap ss w hH hblk hsz
def Tryz.laysNm216_ren:Go.Shelf.Ren:=⟨fun|16=>77|n=>n,fun|24=>35|9=>9|4=>4|n=>n,fun|n=>n⟩
theorem Tryz.laysNm216:Go.Proofs.Lays2.n16 Tryz.prog Tryz.laysNm216_ren:={
 mixed:=by kernel_rfl
 f16:=Tryz.func77.trans (congrArg some (by kernel_rfl))
 t4:=Tryz.underlying4
 a4:=Tryz.isAgg4
 z4:=Tryz.sizeOf4
 v4:=Tryz.zeroValue4
 t9:=Tryz.underlying9
 a9:=Tryz.isAgg9
 z9:=Tryz.sizeOf9
 v9:=Tryz.zeroValue9
 t24:=Tryz.underlying35
 a24:=Tryz.isAgg35
 z24:=Tryz.sizeOf35
 v24:=Tryz.zeroValue35
 i9:=by kernel_rfl}
open Go.RowKit Go.Lib in
theorem Tryz.slices_Clone_string (b off n c:Nat) (zs:List ByteArray) (w:World) (hz:n≤zs.length) (hbig:n*16≤140737488355328) (hc:∀j,j<zs.length→w.cell? ⟨b,off+j,none⟩=some (.string (zs.getD j ByteArray.empty))):
  Calls Tryz.prog 77 #[.slice (some ⟨b,off,none⟩) n c] w fun e w'=>∃v',e= .returned v'∧w'.ownsRow w.heap.size 9 1 v' n ((zs.take n).map (Value.string))∧v'≠.slice none 0 0∧Below w.heap.size w w':=Any.slices_Clone_string Tryz.laysNm216 b off n c zs w hz hbig hc
open Go.RowKit Go.Lib in
theorem Tryz.slices_Clone_string_nil (n c:Nat) (w:World):
  Calls Tryz.prog 77 #[.slice none n c] w fun e w'=>e= .returned (.slice none 0 0)∧w'=w:=Any.slices_Clone_string_nil Tryz.laysNm216 n c w
open Go.RowKit Go.Lib in
theorem Tryz.slices_Clone_string_zero (a:Addr) (c:Nat) (w:World):
  Calls Tryz.prog 77 #[.slice (some a) 0 c] w fun e w'=>∃v',e= .returned v'∧w'.ownsRow w.heap.size 9 1 v' 0 []∧v'≠.slice none 0 0∧Below w.heap.size w w':=Any.slices_Clone_string_zero Tryz.laysNm216 a c w
def Tryz.lays194_ren:Go.Shelf.Ren:=⟨fun|194=>84|n=>n,fun|31=>35|9=>9|3=>3|4=>4|0=>0|n=>n,fun|n=>n⟩
theorem Tryz.lays194:Go.Proofs.Lays.n194 Tryz.prog Tryz.lays194_ren:={
 mixed:=by kernel_rfl
 f194:=Tryz.func84.trans (congrArg some (by kernel_rfl))
 t0:=Tryz.underlying0
 a0:=Tryz.isAgg0
 z0:=Tryz.sizeOf0
 v0:=Tryz.zeroValue0
 t3:=Tryz.underlying3
 a3:=Tryz.isAgg3
 z3:=Tryz.sizeOf3
 v3:=Tryz.zeroValue3
 t4:=Tryz.underlying4
 a4:=Tryz.isAgg4
 z4:=Tryz.sizeOf4
 v4:=Tryz.zeroValue4
 t9:=Tryz.underlying9
 a9:=Tryz.isAgg9
 z9:=Tryz.sizeOf9
 v9:=Tryz.zeroValue9
 t31:=Tryz.underlying35
 a31:=Tryz.isAgg35
 z31:=Tryz.sizeOf35
 v31:=Tryz.zeroValue35}
open Go.RowKit Go.Lib Go.Sort in
theorem Tryz.slices_Compact_string_arr (blk off cap:Nat) (d:Array (List UInt8)) (w:World) (hH:Holds encStr w blk off d) (hsz:d.size≤9223372036854775807) (hcap:d.size≤cap):
  Calls Tryz.prog 84 #[.slice (some ⟨blk,off,none⟩) d.size cap] w fun e w'=>e= .returned (.slice (some ⟨blk,off,none⟩) (compactUpTo d d.size).length cap)∧∃q,w'=putRow encStr (Sort.ahead w q) blk off (compactUpTo d d.size++List.replicate (d.size-(compactUpTo d d.size).length) []).toArray:=Any.slices_Compact_string_arr Tryz.lays194 blk off cap d w hH hsz hcap
open Go.RowKit Go.Lib Go.Sort in
theorem Tryz.slices_Compact_string (blk off cap:Nat) (zs:List (List UInt8)) (w:World) (hH:Holds encStr w blk off zs.toArray) (hsz:zs.length≤9223372036854775807) (hcap:zs.length≤cap):
  Calls Tryz.prog 84 #[.slice (some ⟨blk,off,none⟩) zs.length cap] w fun e w'=>e= .returned (.slice (some ⟨blk,off,none⟩) (Lib.compact zs).length cap)∧∃q,w'=putRow encStr (Sort.ahead w q) blk off (Lib.compact zs++List.replicate (zs.length-(Lib.compact zs).length) []).toArray:=Any.slices_Compact_string Tryz.lays194 blk off cap zs w hH hsz hcap
open Go.RowKit Go.Lib Go.Sort in
theorem Tryz.slices_Compact_string_empty (a:Option Addr) (cap:Nat) (w:World):
  Calls Tryz.prog 84 #[.slice a 0 cap] w fun e w'=>e= .returned (.slice a 0 cap)∧w'=w:=Any.slices_Compact_string_empty Tryz.lays194 a cap w
open Go.RowKit Go.Lib Go.Sort in
theorem Tryz.slices_Compact_string_cells (b off n c:Nat) (Sx:Nat→ByteArray) (w:World) (hbig:n≤9223372036854775807) (hcap:n≤c) (hc:∀i,i<n→w.cell? ⟨b,off+i,none⟩=some (.string (Sx i))) (hf:∀j,j<n→w.frozen? ⟨b,off+j,none⟩=false):
  Calls Tryz.prog 84 #[.slice (some ⟨b,off,none⟩) n c] w fun e w'=>e= .returned (.slice (some ⟨b,off,none⟩) (Lib.compact (Lib.strsOf Sx n)).length c)∧∃q,w'=(w.drewN q).setCells b off ((Lib.compact (Lib.strsOf Sx n)++List.replicate (n-(Lib.compact (Lib.strsOf Sx n)).length) []).map encStr):=Any.slices_Compact_string_cells Tryz.lays194 b off n c Sx w hbig hcap hc hf
open Go.RowKit Go.Sort in
theorem Tryz.slices_Sort_string_none (p:Option Addr) (cap:Nat) (w:World):
  Calls Tryz.prog 83 #[.slice p 0 cap] w fun e w'=>e= .returned (.tuple #[])∧w'=w:=Any.slices_Sort_string_none Tryz.lays190 p cap w
end Go.Proofs
namespace Go.Proofs.YtpndglghpojjkaaGreat
open Go.RowKit Go.Sort Go.Shelf
structure NRw where
 nm:ByteArray
 so:Bool
 lo:Int
 hi:Int
 deriving Inhabited
structure PRw where
 nm:ByteArray
 nul:Bool
 A:Option Addr
 n:Nat
 c:Nat
 deriving Inhabited
def encN (x:NRw):List Value:= [.string x.nm,.bool x.so,.int .i64 x.lo,.int .i64 x.hi]
def encP (x:PRw):List Value:= [.string x.nm,.bool x.nul,.slice x.A x.n x.c]
theorem encN_one (x:NRw):∀v∈encN x,v.oneCell'=true:=fun v hv=>by simp[encN]at hv;rcases hv with rfl|rfl|rfl|rfl<;>rfl
theorem encP_one (x:PRw):∀v∈encP x,v.oneCell'=true:=fun v hv=>by simp[encP]at hv;rcases hv with rfl|rfl|rfl<;>rfl
def nmB (s:ByteArray):List UInt8:=s.data.toList
def cfN (x y:NRw):Int:=Lib.compareBytes (nmB x.nm) (nmB y.nm)
def cfP (x y:PRw):Int:=Lib.compareBytes (nmB x.nm) (nmB y.nm)
def Tryz.insN_ren : Go.Shelf.Ren:=⟨fun | 20 => 186 | n => n, fun | 24 => 128 | 22 => 53 | 3 => 3 | 25 => 186 | 4 => 4 | 0 => 0 | n => n, fun | n => n⟩
theorem Tryz.insN : Go.Proofs.SlLaysF0.n20 Tryz.prog Tryz.insN_ren:={
 mixed:=by kernel_rfl
 f20:=⟨Tryz.f186.name, by decide, Tryz.func186.trans (congrArg some (by kernel_rfl))⟩
 t0:=Tryz.underlying0
 a0:=Tryz.isAgg0
 z0:=Tryz.sizeOf0
 v0:=Tryz.zeroValue0
 t3:=Tryz.underlying3
 a3:=Tryz.isAgg3
 z3:=Tryz.sizeOf3
 v3:=Tryz.zeroValue3
 t4:=Tryz.underlying4
 a4:=Tryz.isAgg4
 z4:=Tryz.sizeOf4
 v4:=Tryz.zeroValue4
 t22:=Tryz.underlying53
 a22:=Tryz.isAgg53
 z22:=Tryz.sizeOf53
 v22:=Tryz.zeroValue53
 t25:=Tryz.underlying186
 a25:=Tryz.isAgg186
 z25:=Tryz.sizeOf186
 v25:=Tryz.zeroValue186 }
def Tryz.insP_ren : Go.Shelf.Ren:=⟨fun | 20 => 189 | n => n, fun | 24 => 132 | 22 => 54 | 3 => 3 | 25 => 190 | 4 => 4 | 0 => 0 | n => n, fun | n => n⟩
theorem Tryz.insP : Go.Proofs.SlLaysF0.n20 Tryz.prog Tryz.insP_ren:={
 mixed:=by kernel_rfl
 f20:=⟨Tryz.f189.name, by decide, Tryz.func189.trans (congrArg some (by kernel_rfl))⟩
 t0:=Tryz.underlying0
 a0:=Tryz.isAgg0
 z0:=Tryz.sizeOf0
 v0:=Tryz.zeroValue0
 t3:=Tryz.underlying3
 a3:=Tryz.isAgg3
 z3:=Tryz.sizeOf3
 v3:=Tryz.zeroValue3
 t4:=Tryz.underlying4
 a4:=Tryz.isAgg4
 z4:=Tryz.sizeOf4
 v4:=Tryz.zeroValue4
 t22:=Tryz.underlying54
 a22:=Tryz.isAgg54
 z22:=Tryz.sizeOf54
 v22:=Tryz.zeroValue54
 t25:=Tryz.underlying190
 a25:=Tryz.isAgg190
 z25:=Tryz.sizeOf190
 v25:=Tryz.zeroValue190 }
def Box (w:World) (b f:Nat):Prop:=b<w.heap.size∧w.cell? ⟨b,0,none⟩=some (.func (.func f) #[] #[])
theorem Box.grow {w:World} {b f:Nat} (h:Box w b f) (n:Nat) (os:Array Obj):Box (Sort.grow (w.drewN n) os) b f:=by
 refine⟨?_,cell_grown (a:=⟨b,0,none⟩) h.1 h.2 n os⟩;rw[size_grow];exact Nat.lt_of_lt_of_le h.1 (Nat.le_add_right _ _)
theorem strcmp_grown (a b:ByteArray) (w:World):Calls Tryz.prog 121 #[.string a,.string b] w fun e w'=>e= .returned (.int .i64 (Lib.compareBytes (nmB a) (nmB b)))∧∃q os',w'=grow (w.drewN q) os':=
 (Tryz.strings_Compare a b w).mono fun _ _ ⟨h,h2⟩=>⟨h,0,#[],by rw[h2,grow_empty];rfl⟩
theorem nameN_any (x:NRw) (w:World):Calls Tryz.prog 72 #[.agg #[.string x.nm,.bool x.so,.int .i64 x.lo,.int .i64 x.hi]] w fun e w'=>e= .returned (.string x.nm)∧∃q os,w'=grow (w.drewN q) os:=by
 go_enter Tryz.func72,Tryz.ntmps72
 go_wp2
 go_ret;exact⟨rfl,0,_,by rw[alloc_eq_grow];rfl⟩
theorem cmpN_any (x y:NRw) (b:Nat) (w:World) (hb:Box w b 72):Calls Tryz.prog 120 #[.agg #[.string x.nm,.bool x.so,.int .i64 x.lo,.int .i64 x.hi],.agg #[.string y.nm,.bool y.so,.int .i64 y.lo,.int .i64 y.hi],.pointer (some ⟨b,0,none⟩)] w fun e w'=>e= .returned (.int .i64 (cfN x y))∧∃q os,w'=grow (w.drewN q) os:=by
 have hw1:=zi (show(w.alloc (.cells #[.string x.nm,.bool x.so,.int .i64 x.lo,.int .i64 x.hi] 128)).alloc (.cells #[.string y.nm,.bool y.so,.int .i64 y.lo,.int .i64 y.hi] 128)=grow (w.drewN 0) #[(.cells #[.string x.nm,.bool x.so,.int .i64 x.lo,.int .i64 x.hi] 128),(.cells #[.string y.nm,.bool y.so,.int .i64 y.lo,.int .i64 y.hi] 128)]by rw[alloc_eq_grow,alloc_eq_grow,grow_grow];rfl);have hx:=(Holds.new w 128 #[.string x.nm,.bool x.so,.int .i64 x.lo,.int .i64 x.hi]).alloc (.cells #[.string y.nm,.bool y.so,.int .i64 y.lo,.int .i64 y.hi] 128);have hy:=Holds.new (w.alloc (.cells #[.string x.nm,.bool x.so,.int .i64 x.lo,.int .i64 x.hi] 128)) 128 #[.string y.nm,.bool y.so,.int .i64 y.lo,.int .i64 y.hi];rw[show(w.alloc (.cells #[.string x.nm,.bool x.so,.int .i64 x.lo,.int .i64 x.hi] 128)).heap.size=w.heap.size+1 by simp]at hy;have hbx:=hb.grow 0 #[(.cells #[.string x.nm,.bool x.so,.int .i64 x.lo,.int .i64 x.hi] 128),(.cells #[.string y.nm,.bool y.so,.int .i64 y.lo,.int .i64 y.hi] 128)];rw[←hw1.out]at hbx;go_enter Tryz.func120,Tryz.ntmps120;go_wp2_with fail
 generalize (w.alloc (.cells #[.string x.nm,.bool x.so,.int .i64 x.lo,.int .i64 x.hi] 128)).alloc (.cells #[.string y.nm,.bool y.so,.int .i64 y.lo,.int .i64 y.hi] 128)=w1 at hw1 hx hy hbx⊢;have f0:=cell_grown hbx.1 hbx.2;have x0:∀n os,(grow (w1.drewN n) os).cell? ⟨w.heap.size,0,none⟩=some (.string x.nm):=cell_grown hx.lt (hx.cell 0);have x1:∀n os,(grow (w1.drewN n) os).cell? ⟨w.heap.size,1,none⟩=some (.bool x.so):=cell_grown hx.lt (hx.cell 1);have x2:∀n os,(grow (w1.drewN n) os).cell? ⟨w.heap.size,2,none⟩=some (.int .i64 x.lo):=cell_grown hx.lt (hx.cell 2);have x3:∀n os,(grow (w1.drewN n) os).cell? ⟨w.heap.size,3,none⟩=some (.int .i64 x.hi):=cell_grown hx.lt (hx.cell 3);have y0:∀n os,(grow (w1.drewN n) os).cell? ⟨w.heap.size+1,0,none⟩=some (.string y.nm):=cell_grown hy.lt (hy.cell 0);have y1:∀n os,(grow (w1.drewN n) os).cell? ⟨w.heap.size+1,1,none⟩=some (.bool y.so):=cell_grown hy.lt (hy.cell 1);have y2:∀n os,(grow (w1.drewN n) os).cell? ⟨w.heap.size+1,2,none⟩=some (.int .i64 y.lo):=cell_grown hy.lt (hy.cell 2)
 have y3:∀n os,(grow (w1.drewN n) os).cell? ⟨w.heap.size+1,3,none⟩=some (.int .i64 y.hi):=cell_grown hy.lt (hy.cell 3);clear hx hy hbx
 have hm:Tryz.prog.follows .mixedOrders=true:=by kernel_rfl
 go_quiet_grown (first| (go_at_call 72;first|exact Calls.grown_of (nameN_any x _)|exact Calls.grown_of (nameN_any y _))| (go_at_call 121;exact Calls.grown_of (strcmp_grown x.nm y.nm _)))
 go_wp2_with fail;go_ret;exact⟨rfl,nq,_,by rw[hw1.out];show grow (grow (w.drewN nq) _) osq=_;rw[grow_grow]⟩
theorem nameP_any (x:PRw) (w:World):Calls Tryz.prog 74 #[.agg #[.string x.nm,.bool x.nul,.slice x.A x.n x.c]] w fun e w'=>e= .returned (.string x.nm)∧∃q os,w'=grow (w.drewN q) os:=by
 go_enter Tryz.func74,Tryz.ntmps74
 go_wp2
 go_ret;exact⟨rfl,0,_,by rw[alloc_eq_grow];rfl⟩
theorem cmpP_any (x y:PRw) (b:Nat) (w:World) (hb:Box w b 74):Calls Tryz.prog 125 #[.agg #[.string x.nm,.bool x.nul,.slice x.A x.n x.c],.agg #[.string y.nm,.bool y.nul,.slice y.A y.n y.c],.pointer (some ⟨b,0,none⟩)] w fun e w'=>e= .returned (.int .i64 (cfP x y))∧∃q os,w'=grow (w.drewN q) os:=by
 have hw1:=zi (show(w.alloc (.cells #[.string x.nm,.bool x.nul,.slice x.A x.n x.c] 132)).alloc (.cells #[.string y.nm,.bool y.nul,.slice y.A y.n y.c] 132)=grow (w.drewN 0) #[(.cells #[.string x.nm,.bool x.nul,.slice x.A x.n x.c] 132),(.cells #[.string y.nm,.bool y.nul,.slice y.A y.n y.c] 132)]by rw[alloc_eq_grow,alloc_eq_grow,grow_grow];rfl);have hx:=(Holds.new w 132 #[.string x.nm,.bool x.nul,.slice x.A x.n x.c]).alloc (.cells #[.string y.nm,.bool y.nul,.slice y.A y.n y.c] 132);have hy:=Holds.new (w.alloc (.cells #[.string x.nm,.bool x.nul,.slice x.A x.n x.c] 132)) 132 #[.string y.nm,.bool y.nul,.slice y.A y.n y.c];rw[show(w.alloc (.cells #[.string x.nm,.bool x.nul,.slice x.A x.n x.c] 132)).heap.size=w.heap.size+1 by simp]at hy;have hbx:=hb.grow 0 #[(.cells #[.string x.nm,.bool x.nul,.slice x.A x.n x.c] 132),(.cells #[.string y.nm,.bool y.nul,.slice y.A y.n y.c] 132)];rw[←hw1.out]at hbx;go_enter Tryz.func125,Tryz.ntmps125;go_wp2_with fail;generalize (w.alloc (.cells #[.string x.nm,.bool x.nul,.slice x.A x.n x.c] 132)).alloc (.cells #[.string y.nm,.bool y.nul,.slice y.A y.n y.c] 132)=w1 at hw1 hx hy hbx⊢
 have f0:=cell_grown hbx.1 hbx.2;have x0:∀n os,(grow (w1.drewN n) os).cell? ⟨w.heap.size,0,none⟩=some (.string x.nm):=cell_grown hx.lt (hx.cell 0);have x1:∀n os,(grow (w1.drewN n) os).cell? ⟨w.heap.size,1,none⟩=some (.bool x.nul):=cell_grown hx.lt (hx.cell 1);have x2:∀n os,(grow (w1.drewN n) os).cell? ⟨w.heap.size,2,none⟩=some (.slice x.A x.n x.c):=cell_grown hx.lt (hx.cell 2);have y0:∀n os,(grow (w1.drewN n) os).cell? ⟨w.heap.size+1,0,none⟩=some (.string y.nm):=cell_grown hy.lt (hy.cell 0);have y1:∀n os,(grow (w1.drewN n) os).cell? ⟨w.heap.size+1,1,none⟩=some (.bool y.nul):=cell_grown hy.lt (hy.cell 1);have y2:∀n os,(grow (w1.drewN n) os).cell? ⟨w.heap.size+1,2,none⟩=some (.slice y.A y.n y.c):=cell_grown hy.lt (hy.cell 2);clear hx hy hbx
 have hm:Tryz.prog.follows .mixedOrders=true:=by kernel_rfl
 go_quiet_grown (first| (go_at_call 74;first|exact Calls.grown_of (nameP_any x _)|exact Calls.grown_of (nameP_any y _))| (go_at_call 121;exact Calls.grown_of (strcmp_grown x.nm y.nm _)))
 go_wp2_with fail;go_ret;exact⟨rfl,nq,_,by rw[hw1.out];show grow (grow (w.drewN nq) _) osq=_;rw[grow_grow]⟩
theorem Box.sorted {α:Type} [Inhabited α] {enc:α→List Value} {k:Nat} {w:World} {b f blk off:Nat} (h:Box w b f) (hne:b≠blk) (m:Nat) (dk:Array α) (os:Array Obj):Box (sortWorldK enc k w blk off m dk os) b f:=by
 unfold sortWorldK;refine⟨?_,?_⟩
 ·rw[size_grow,size_putRowK];exact Nat.lt_of_lt_of_le h.1 (Nat.le_add_right _ _)
 ·rw[cell?_grow _ _ _ (by rw[size_putRowK];exact h.1),cell?_putRowK_other enc k _ blk off dk _ hne];exact h.2
def ArgN (b:Nat):Value:= .func (.func 120) #[] #[.pointer (some ⟨b,0,none⟩)]
theorem insN_any (blk off cap b:Nat) (d:Array NRw) (w:World) (hb:Box w b 72) (hne:b≠blk) (hH:HoldsK encN 4 w blk off d) (hblk:blk<w.heap.size) (hd:d.size<20):
  Calls Tryz.prog 186 #[.slice (some ⟨blk,off,none⟩) d.size cap,.int .i64 0,.int .i64 d.size,ArgN b] w fun e w'=>e= .returned (.tuple #[])∧∃n os,w'=sortWorldK encN 4 w blk off n (Sort.insertionSort (ltOf cfN) d 0 d.size) os:=by
 have h:=AnyQ.insertionSortCmpFunc Tryz.insN 4 Tryz.isAgg128 Tryz.sizeOf128 encN (fun _=>rfl) encN_one cfN 120 #[.pointer (some ⟨b,0,none⟩)] blk off cap 0 d.size d w (enters_of Tryz.func120 (by kernel_rfl) rfl)
  (fun m os dk _ x y=>cmpN_any x y b _ (hb.sorted hne m dk os)) hH hblk (Nat.zero_le _) (Nat.le_refl _) (by omega)
 exact h
theorem stableN_any (blk off cap b:Nat) (d:Array NRw) (w:World) (hb:Box w b 72) (hne:b≠blk) (hH:HoldsK encN 4 w blk off d) (hblk:blk<w.heap.size) (hd:d.size<20):
  Calls Tryz.prog 163 #[.slice (some ⟨blk,off,none⟩) d.size cap,.int .i64 d.size,ArgN b] w fun e w'=>e= .returned (.tuple #[])∧∃n os,w'=sortWorldK encN 4 w blk off n (Sort.insertionSort (ltOf cfN) d 0 d.size) os:=by
 have hcon:=insN_any blk off cap b d w hb hne hH hblk hd
 have h1:¬(20:Int)≤(d.size:Int):=by omega
 have h2:¬(20:Int)<(d.size:Int):=by omega
 clear hb hH hblk;generalize Sort.insertionSort (ltOf cfN) d 0 d.size=r at hcon⊢;generalize d.size=n at hcon h1 h2 hd⊢;generalize ArgN b=av at hcon⊢;have hcon:=zi hcon;go_enter Tryz.func163,Tryz.ntmps163;go_wp2_with fail;go_loopw [7,8] (fun va vb wr=>va= .int .i64 0∧vb= .int .i64 20∧Hid (wr=w)) (fun _ _ _=>0)
 case atStart=>exact⟨rfl,rfl,zi rfl⟩
 obtain⟨rfl,rfl,hwr⟩:=hrel;obtain rfl:=hwr.out;go_wp2_with fail;refine hcon.out.mono ?_;rintro e w2 ⟨rfl,hw2⟩;have hw2:=zi hw2;go_wp2_with fail;go_loopw [6,7,8,9] (fun va _ _ _ w3=>va= .int .i64 20∧Hid (w3=w2)) (fun _ _ _ _ _=>0)
 case atStart=>exact⟨rfl,zi rfl⟩
 obtain⟨rfl,hwr⟩:=hrel;obtain rfl:=hwr.out;go_wp2_with fail;go_end0;exact⟨rfl,hw2.out⟩
theorem sortN_any (blk off cap b:Nat) (d:Array NRw) (w:World) (hb:Box w b 72) (hne:b≠blk) (hH:HoldsK encN 4 w blk off d) (hblk:blk<w.heap.size) (hd:d.size<20):
  Calls Tryz.prog 119 #[.slice (some ⟨blk,off,none⟩) d.size cap,ArgN b] w fun e w'=>e= .returned (.tuple #[])∧∃n os,w'=sortWorldK encN 4 w blk off n (Sort.insertionSort (ltOf cfN) d 0 d.size) os:=by
 have hcon:=zi (stableN_any blk off cap b d w hb hne hH hblk hd);clear hb hH hblk;generalize Sort.insertionSort (ltOf cfN) d 0 d.size=r at hcon⊢;generalize d.size=n at hcon hd⊢;generalize ArgN b=av at hcon⊢;go_enter Tryz.func119,Tryz.ntmps119;go_wp2_with fail;refine hcon.out.mono ?_;rintro e w2 ⟨rfl,hw2⟩;have hw2:=zi hw2;go_wp2_with fail;go_end0;exact⟨rfl,hw2.out⟩
def ArgP (b:Nat):Value:= .func (.func 125) #[] #[.pointer (some ⟨b,0,none⟩)]
theorem insP_any (blk off cap b:Nat) (d:Array PRw) (w:World) (hb:Box w b 74) (hne:b≠blk) (hH:HoldsK encP 3 w blk off d) (hblk:blk<w.heap.size) (hd:d.size<20):
  Calls Tryz.prog 189 #[.slice (some ⟨blk,off,none⟩) d.size cap,.int .i64 0,.int .i64 d.size,ArgP b] w fun e w'=>e= .returned (.tuple #[])∧∃n os,w'=sortWorldK encP 3 w blk off n (Sort.insertionSort (ltOf cfP) d 0 d.size) os:=by
 have h:=AnyQ.insertionSortCmpFunc Tryz.insP 3 Tryz.isAgg132 Tryz.sizeOf132 encP (fun _=>rfl) encP_one cfP 125 #[.pointer (some ⟨b,0,none⟩)] blk off cap 0 d.size d w (enters_of Tryz.func125 (by kernel_rfl) rfl)
  (fun m os dk _ x y=>cmpP_any x y b _ (hb.sorted hne m dk os)) hH hblk (Nat.zero_le _) (Nat.le_refl _) (by omega)
 exact h
theorem stableP_any (blk off cap b:Nat) (d:Array PRw) (w:World) (hb:Box w b 74) (hne:b≠blk) (hH:HoldsK encP 3 w blk off d) (hblk:blk<w.heap.size) (hd:d.size<20):
  Calls Tryz.prog 165 #[.slice (some ⟨blk,off,none⟩) d.size cap,.int .i64 d.size,ArgP b] w fun e w'=>e= .returned (.tuple #[])∧∃n os,w'=sortWorldK encP 3 w blk off n (Sort.insertionSort (ltOf cfP) d 0 d.size) os:=by
 have hcon:=insP_any blk off cap b d w hb hne hH hblk hd
 have h1:¬(20:Int)≤(d.size:Int):=by omega
 have h2:¬(20:Int)<(d.size:Int):=by omega
 clear hb hH hblk;generalize Sort.insertionSort (ltOf cfP) d 0 d.size=r at hcon⊢;generalize d.size=n at hcon h1 h2 hd⊢;generalize ArgP b=av at hcon⊢;have hcon:=zi hcon;go_enter Tryz.func165,Tryz.ntmps165;go_wp2_with fail;go_loopw [7,8] (fun va vb wr=>va= .int .i64 0∧vb= .int .i64 20∧Hid (wr=w)) (fun _ _ _=>0)
 case atStart=>exact⟨rfl,rfl,zi rfl⟩
 obtain⟨rfl,rfl,hwr⟩:=hrel;obtain rfl:=hwr.out;go_wp2_with fail;refine hcon.out.mono ?_;rintro e w2 ⟨rfl,hw2⟩;have hw2:=zi hw2;go_wp2_with fail;go_loopw [6,7,8,9] (fun va _ _ _ w3=>va= .int .i64 20∧Hid (w3=w2)) (fun _ _ _ _ _=>0)
 case atStart=>exact⟨rfl,zi rfl⟩
 obtain⟨rfl,hwr⟩:=hrel;obtain rfl:=hwr.out;go_wp2_with fail;go_end0;exact⟨rfl,hw2.out⟩
theorem sortP_any (blk off cap b:Nat) (d:Array PRw) (w:World) (hb:Box w b 74) (hne:b≠blk) (hH:HoldsK encP 3 w blk off d) (hblk:blk<w.heap.size) (hd:d.size<20):
  Calls Tryz.prog 124 #[.slice (some ⟨blk,off,none⟩) d.size cap,ArgP b] w fun e w'=>e= .returned (.tuple #[])∧∃n os,w'=sortWorldK encP 3 w blk off n (Sort.insertionSort (ltOf cfP) d 0 d.size) os:=by
 have hcon:=zi (stableP_any blk off cap b d w hb hne hH hblk hd);clear hb hH hblk;generalize Sort.insertionSort (ltOf cfP) d 0 d.size=r at hcon⊢;generalize d.size=n at hcon hd⊢;generalize ArgP b=av at hcon⊢;go_enter Tryz.func124,Tryz.ntmps124;go_wp2_with fail;refine hcon.out.mono ?_;rintro e w2 ⟨rfl,hw2⟩;have hw2:=zi hw2;go_wp2_with fail;go_end0;exact⟨rfl,hw2.out⟩
theorem eqN_any (x y:NRw) (b:Nat) (w:World) (hb:Box w b 72) (hxy:x.nm≠y.nm):Calls Tryz.prog 123 #[.agg #[.string x.nm,.bool x.so,.int .i64 x.lo,.int .i64 x.hi],.agg #[.string y.nm,.bool y.so,.int .i64 y.lo,.int .i64 y.hi],.pointer (some ⟨b,0,none⟩)] w fun e w'=>e= .returned (.bool false)∧∃q os,w'=grow (w.drewN q) os:=by
 have hw1:=zi (show(w.alloc (.cells #[.string x.nm,.bool x.so,.int .i64 x.lo,.int .i64 x.hi] 128)).alloc (.cells #[.string y.nm,.bool y.so,.int .i64 y.lo,.int .i64 y.hi] 128)=grow (w.drewN 0) #[(.cells #[.string x.nm,.bool x.so,.int .i64 x.lo,.int .i64 x.hi] 128),(.cells #[.string y.nm,.bool y.so,.int .i64 y.lo,.int .i64 y.hi] 128)]by rw[alloc_eq_grow,alloc_eq_grow,grow_grow];rfl);have hx:=(Holds.new w 128 #[.string x.nm,.bool x.so,.int .i64 x.lo,.int .i64 x.hi]).alloc (.cells #[.string y.nm,.bool y.so,.int .i64 y.lo,.int .i64 y.hi] 128);have hy:=Holds.new (w.alloc (.cells #[.string x.nm,.bool x.so,.int .i64 x.lo,.int .i64 x.hi] 128)) 128 #[.string y.nm,.bool y.so,.int .i64 y.lo,.int .i64 y.hi];rw[show(w.alloc (.cells #[.string x.nm,.bool x.so,.int .i64 x.lo,.int .i64 x.hi] 128)).heap.size=w.heap.size+1 by simp]at hy;have hbx:=hb.grow 0 #[(.cells #[.string x.nm,.bool x.so,.int .i64 x.lo,.int .i64 x.hi] 128),(.cells #[.string y.nm,.bool y.so,.int .i64 y.lo,.int .i64 y.hi] 128)];rw[←hw1.out]at hbx;have hxy2:=(Lib.bytes_beq_false_iff x.nm y.nm).2 hxy;go_enter Tryz.func123,Tryz.ntmps123;go_wp2_with fail
 generalize (w.alloc (.cells #[.string x.nm,.bool x.so,.int .i64 x.lo,.int .i64 x.hi] 128)).alloc (.cells #[.string y.nm,.bool y.so,.int .i64 y.lo,.int .i64 y.hi] 128)=w1 at hw1 hx hy hbx⊢;have f0:=cell_grown hbx.1 hbx.2;have x0:∀n os,(grow (w1.drewN n) os).cell? ⟨w.heap.size,0,none⟩=some (.string x.nm):=cell_grown hx.lt (hx.cell 0);have x1:∀n os,(grow (w1.drewN n) os).cell? ⟨w.heap.size,1,none⟩=some (.bool x.so):=cell_grown hx.lt (hx.cell 1);have x2:∀n os,(grow (w1.drewN n) os).cell? ⟨w.heap.size,2,none⟩=some (.int .i64 x.lo):=cell_grown hx.lt (hx.cell 2);have x3:∀n os,(grow (w1.drewN n) os).cell? ⟨w.heap.size,3,none⟩=some (.int .i64 x.hi):=cell_grown hx.lt (hx.cell 3);have y0:∀n os,(grow (w1.drewN n) os).cell? ⟨w.heap.size+1,0,none⟩=some (.string y.nm):=cell_grown hy.lt (hy.cell 0);have y1:∀n os,(grow (w1.drewN n) os).cell? ⟨w.heap.size+1,1,none⟩=some (.bool y.so):=cell_grown hy.lt (hy.cell 1);have y2:∀n os,(grow (w1.drewN n) os).cell? ⟨w.heap.size+1,2,none⟩=some (.int .i64 y.lo):=cell_grown hy.lt (hy.cell 2)
 have y3:∀n os,(grow (w1.drewN n) os).cell? ⟨w.heap.size+1,3,none⟩=some (.int .i64 y.hi):=cell_grown hy.lt (hy.cell 3);clear hx hy hbx
 have hm:Tryz.prog.follows .mixedOrders=true:=by kernel_rfl
 go_quiet_grown (first| (go_at_call 72;first|exact Calls.grown_of (nameN_any x _)|exact Calls.grown_of (nameN_any y _)))
 go_wp2_with fail;go_ret;exact⟨by simp,nq,_,by rw[hw1.out];show grow (grow (w.drewN nq) _) osq=_;rw[grow_grow]⟩
theorem cpN_cells {w:World} {blk off k:Nat} {d:Array NRw} (hH:HoldsK encN 4 w blk off d) (hk:k<d.size):w.cell? ⟨blk,off+k*4,none⟩=some (.string d[k]!.nm)∧w.cell? ⟨blk,off+k*4+1,none⟩=some (.bool d[k]!.so)∧w.cell? ⟨blk,off+k*4+2,none⟩=some (.int .i64 d[k]!.lo)∧w.cell? ⟨blk,off+k*4+3,none⟩=some (.int .i64 d[k]!.hi):=by
 have h:=HoldsK.cells (k:=4) (enc:=encN) hH (fun _=>rfl) hk;exact⟨by have:=h 0 _ rfl;rw[Addr.add_lit]at this;exact this,by have:=h 1 _ rfl;rw[Addr.add_lit]at this;exact this,by have:=h 2 _ rfl;rw[Addr.add_lit]at this;exact this,by have:=h 3 _ rfl;rw[Addr.add_lit]at this;exact this⟩
theorem compactN_any (blk off cap b:Nat) (d:Array NRw) (w:World) (hb:Box w b 72) (hH:HoldsK encN 4 w blk off d) (hblk:blk<w.heap.size) (hd:d.size<20)
  (hdis:∀i,i+1<d.size→d[i+1]!.nm≠d[i]!.nm):
  Calls Tryz.prog 122 #[.slice (some ⟨blk,off,none⟩) d.size cap,.func (.func 123) #[] #[.pointer (some ⟨b,0,none⟩)]] w fun e w'=>e= .returned (.slice (some ⟨blk,off,none⟩) d.size cap)∧∃n os,w'=grow (w.drewN n) os:=by
 have hm:Tryz.prog.follows .mixedOrders=true:=by kernel_rfl
 have hb:=zi hb;have hH:=zi hH;have hdis:=zi hdis;by_cases h2:d.size<2
 ·have h2z:(d.size:Int)<2:=by omega
  go_enter Tryz.func122,Tryz.ntmps122;go_wp2_with fail;go_ret;exact⟨rfl,0,#[],(grow_empty _).symm⟩
 ·have h2z:¬(d.size:Int)<2:=by omega
  go_enter Tryz.func122,Tryz.ntmps122;go_wp2_with fail;go_loopw [5] (fun vk wr=>∃(k n:Nat) (os:Array Obj),vk= .int .i64 k∧1≤k∧k≤d.size∧Hid (wr=grow (w.drewN n) os)) (fun v _=>d.size-(intOf v).toNat)
  case atStart=>exact⟨1,0,#[],rfl,by omega,by omega,zi (grow_empty _).symm⟩
  obtain⟨k,n,os,rfl,hk1,hk2,hwr⟩:=hrel;by_cases hlt:k<d.size
  ·obtain⟨j,rfl⟩:∃j,k=j+1:=⟨k-1,by omega⟩;obtain⟨x,hx⟩:∃x,x=d[j+1]! :=⟨_,rfl⟩;obtain⟨y,hy⟩:∃y,y=d[j]! :=⟨_,rfl⟩
   have hlz:(j:Int)+1<(d.size:Int):=by omega
   have hlz2:(j:Int)<(d.size:Int):=by omega
   have hwp:IntKind.i64.wrap (j:Int)=(j:Int):=by rw[IntKind.wrap_i64];omega
   have p0:(0:Int)≤(j:Int)+1:=by omega
   have e0:((j:Int)+1).toNat=j+1:=by omega
   have hsz:Hid (w.heap.size≤wr.heap.size):=zi (by rw[hwr.out,size_grow];exact Nat.le_add_right _ _);have hbr:Hid (blk<wr.heap.size):=zi (Nat.lt_of_lt_of_le hblk hsz.out)
   have hHr:HoldsK encN 4 wr blk off d:=by rw[hwr.out];exact holdsK_grow encN 4 _ os blk off d hblk (holdsK_ahead encN 4 w n blk off d hH.out)
   have hbx:Hid (Box wr b 72):=zi (by rw[hwr.out];exact hb.out.grow n os);have hcx:=cpN_cells (k:=j+1) hHr hlt;have hcy:=cpN_cells (k:=j) hHr (by omega);have hxy:Hid (x.nm≠y.nm):=zi (by rw[hx,hy];exact hdis.out j hlt);rw[←hx]at hcx;rw[←hy]at hcy;have x0:∀n os,(grow (wr.drewN n) os).cell? ⟨blk,off+(j+1)*4,none⟩=some (.string x.nm):=cell_grown hbr.out (hcx.1);have x1:∀n os,(grow (wr.drewN n) os).cell? ⟨blk,off+(j+1)*4+1,none⟩=some (.bool x.so):=cell_grown hbr.out (hcx.2.1);have x2:∀n os,(grow (wr.drewN n) os).cell? ⟨blk,off+(j+1)*4+2,none⟩=some (.int .i64 x.lo):=cell_grown hbr.out (hcx.2.2.1);have x3:∀n os,(grow (wr.drewN n) os).cell? ⟨blk,off+(j+1)*4+3,none⟩=some (.int .i64 x.hi):=cell_grown hbr.out (hcx.2.2.2);have y0:∀n os,(grow (wr.drewN n) os).cell? ⟨blk,off+j*4,none⟩=some (.string y.nm):=cell_grown hbr.out (hcy.1);have y1:∀n os,(grow (wr.drewN n) os).cell? ⟨blk,off+j*4+1,none⟩=some (.bool y.so):=cell_grown hbr.out (hcy.2.1)
   have y2:∀n os,(grow (wr.drewN n) os).cell? ⟨blk,off+j*4+2,none⟩=some (.int .i64 y.lo):=cell_grown hbr.out (hcy.2.2.1);have y3:∀n os,(grow (wr.drewN n) os).cell? ⟨blk,off+j*4+3,none⟩=some (.int .i64 y.hi):=cell_grown hbr.out (hcy.2.2.2);clear hcx hcy hHr hx hy;go_wp2_with fail
   go_quiet_grown (first| (go_at_call 123;exact Calls.grown_of (eqN_any x y b _ (hbx.out.grow _ _) hxy.out)))
   go_wp2_with fail;refine⟨⟨j+2,n+nq,os++osq,by go_num,by omega,by omega,zi (by rw[hwr.out];show grow (grow ((w.drewN n).drewN nq) os) osq=_;rw[grow_grow,World.drewN_drewN])⟩,?_⟩;simp[intOf];omega
  ·obtain rfl:k=d.size:=by omega
   go_wp2_with fail;go_ret;exact⟨rfl,n,os,hwr.out⟩
theorem eqP_any (x y:PRw) (b:Nat) (w:World) (hb:Box w b 74) (hxy:x.nm≠y.nm):Calls Tryz.prog 127 #[.agg #[.string x.nm,.bool x.nul,.slice x.A x.n x.c],.agg #[.string y.nm,.bool y.nul,.slice y.A y.n y.c],.pointer (some ⟨b,0,none⟩)] w fun e w'=>e= .returned (.bool false)∧∃q os,w'=grow (w.drewN q) os:=by
 have hw1:=zi (show(w.alloc (.cells #[.string x.nm,.bool x.nul,.slice x.A x.n x.c] 132)).alloc (.cells #[.string y.nm,.bool y.nul,.slice y.A y.n y.c] 132)=grow (w.drewN 0) #[(.cells #[.string x.nm,.bool x.nul,.slice x.A x.n x.c] 132),(.cells #[.string y.nm,.bool y.nul,.slice y.A y.n y.c] 132)]by rw[alloc_eq_grow,alloc_eq_grow,grow_grow];rfl);have hx:=(Holds.new w 132 #[.string x.nm,.bool x.nul,.slice x.A x.n x.c]).alloc (.cells #[.string y.nm,.bool y.nul,.slice y.A y.n y.c] 132);have hy:=Holds.new (w.alloc (.cells #[.string x.nm,.bool x.nul,.slice x.A x.n x.c] 132)) 132 #[.string y.nm,.bool y.nul,.slice y.A y.n y.c];rw[show(w.alloc (.cells #[.string x.nm,.bool x.nul,.slice x.A x.n x.c] 132)).heap.size=w.heap.size+1 by simp]at hy;have hbx:=hb.grow 0 #[(.cells #[.string x.nm,.bool x.nul,.slice x.A x.n x.c] 132),(.cells #[.string y.nm,.bool y.nul,.slice y.A y.n y.c] 132)];rw[←hw1.out]at hbx;have hxy2:=(Lib.bytes_beq_false_iff x.nm y.nm).2 hxy;go_enter Tryz.func127,Tryz.ntmps127;go_wp2_with fail
 generalize (w.alloc (.cells #[.string x.nm,.bool x.nul,.slice x.A x.n x.c] 132)).alloc (.cells #[.string y.nm,.bool y.nul,.slice y.A y.n y.c] 132)=w1 at hw1 hx hy hbx⊢;have f0:=cell_grown hbx.1 hbx.2;have x0:∀n os,(grow (w1.drewN n) os).cell? ⟨w.heap.size,0,none⟩=some (.string x.nm):=cell_grown hx.lt (hx.cell 0);have x1:∀n os,(grow (w1.drewN n) os).cell? ⟨w.heap.size,1,none⟩=some (.bool x.nul):=cell_grown hx.lt (hx.cell 1);have x2:∀n os,(grow (w1.drewN n) os).cell? ⟨w.heap.size,2,none⟩=some (.slice x.A x.n x.c):=cell_grown hx.lt (hx.cell 2);have y0:∀n os,(grow (w1.drewN n) os).cell? ⟨w.heap.size+1,0,none⟩=some (.string y.nm):=cell_grown hy.lt (hy.cell 0);have y1:∀n os,(grow (w1.drewN n) os).cell? ⟨w.heap.size+1,1,none⟩=some (.bool y.nul):=cell_grown hy.lt (hy.cell 1);have y2:∀n os,(grow (w1.drewN n) os).cell? ⟨w.heap.size+1,2,none⟩=some (.slice y.A y.n y.c):=cell_grown hy.lt (hy.cell 2);clear hx hy hbx
 have hm:Tryz.prog.follows .mixedOrders=true:=by kernel_rfl
 go_quiet_grown (first| (go_at_call 74;first|exact Calls.grown_of (nameP_any x _)|exact Calls.grown_of (nameP_any y _)))
 go_wp2_with fail;go_ret;exact⟨by simp,nq,_,by rw[hw1.out];show grow (grow (w.drewN nq) _) osq=_;rw[grow_grow]⟩
theorem cpP_cells {w:World} {blk off k:Nat} {d:Array PRw} (hH:HoldsK encP 3 w blk off d) (hk:k<d.size):w.cell? ⟨blk,off+k*3,none⟩=some (.string d[k]!.nm)∧w.cell? ⟨blk,off+k*3+1,none⟩=some (.bool d[k]!.nul)∧w.cell? ⟨blk,off+k*3+2,none⟩=some (.slice d[k]!.A d[k]!.n d[k]!.c):=by
 have h:=HoldsK.cells (k:=3) (enc:=encP) hH (fun _=>rfl) hk;exact⟨by have:=h 0 _ rfl;rw[Addr.add_lit]at this;exact this,by have:=h 1 _ rfl;rw[Addr.add_lit]at this;exact this,by have:=h 2 _ rfl;rw[Addr.add_lit]at this;exact this⟩
theorem compactP_any (blk off cap b:Nat) (d:Array PRw) (w:World) (hb:Box w b 74) (hH:HoldsK encP 3 w blk off d) (hblk:blk<w.heap.size) (hd:d.size<20)
  (hdis:∀i,i+1<d.size→d[i+1]!.nm≠d[i]!.nm):
  Calls Tryz.prog 126 #[.slice (some ⟨blk,off,none⟩) d.size cap,.func (.func 127) #[] #[.pointer (some ⟨b,0,none⟩)]] w fun e w'=>e= .returned (.slice (some ⟨blk,off,none⟩) d.size cap)∧∃n os,w'=grow (w.drewN n) os:=by
 have hm:Tryz.prog.follows .mixedOrders=true:=by kernel_rfl
 have hb:=zi hb;have hH:=zi hH;have hdis:=zi hdis;by_cases h2:d.size<2
 ·have h2z:(d.size:Int)<2:=by omega
  go_enter Tryz.func126,Tryz.ntmps126;go_wp2_with fail;go_ret;exact⟨rfl,0,#[],(grow_empty _).symm⟩
 ·have h2z:¬(d.size:Int)<2:=by omega
  go_enter Tryz.func126,Tryz.ntmps126;go_wp2_with fail;go_loopw [5] (fun vk wr=>∃(k n:Nat) (os:Array Obj),vk= .int .i64 k∧1≤k∧k≤d.size∧Hid (wr=grow (w.drewN n) os)) (fun v _=>d.size-(intOf v).toNat)
  case atStart=>exact⟨1,0,#[],rfl,by omega,by omega,zi (grow_empty _).symm⟩
  obtain⟨k,n,os,rfl,hk1,hk2,hwr⟩:=hrel;by_cases hlt:k<d.size
  ·obtain⟨j,rfl⟩:∃j,k=j+1:=⟨k-1,by omega⟩;obtain⟨x,hx⟩:∃x,x=d[j+1]! :=⟨_,rfl⟩;obtain⟨y,hy⟩:∃y,y=d[j]! :=⟨_,rfl⟩
   have hlz:(j:Int)+1<(d.size:Int):=by omega
   have hlz2:(j:Int)<(d.size:Int):=by omega
   have hwp:IntKind.i64.wrap (j:Int)=(j:Int):=by rw[IntKind.wrap_i64];omega
   have p0:(0:Int)≤(j:Int)+1:=by omega
   have e0:((j:Int)+1).toNat=j+1:=by omega
   have hsz:Hid (w.heap.size≤wr.heap.size):=zi (by rw[hwr.out,size_grow];exact Nat.le_add_right _ _);have hbr:Hid (blk<wr.heap.size):=zi (Nat.lt_of_lt_of_le hblk hsz.out)
   have hHr:HoldsK encP 3 wr blk off d:=by rw[hwr.out];exact holdsK_grow encP 3 _ os blk off d hblk (holdsK_ahead encP 3 w n blk off d hH.out)
   have hbx:Hid (Box wr b 74):=zi (by rw[hwr.out];exact hb.out.grow n os);have hcx:=cpP_cells (k:=j+1) hHr hlt;have hcy:=cpP_cells (k:=j) hHr (by omega);have hxy:Hid (x.nm≠y.nm):=zi (by rw[hx,hy];exact hdis.out j hlt);rw[←hx]at hcx;rw[←hy]at hcy;have x0:∀n os,(grow (wr.drewN n) os).cell? ⟨blk,off+(j+1)*3,none⟩=some (.string x.nm):=cell_grown hbr.out (hcx.1);have x1:∀n os,(grow (wr.drewN n) os).cell? ⟨blk,off+(j+1)*3+1,none⟩=some (.bool x.nul):=cell_grown hbr.out (hcx.2.1);have x2:∀n os,(grow (wr.drewN n) os).cell? ⟨blk,off+(j+1)*3+2,none⟩=some (.slice x.A x.n x.c):=cell_grown hbr.out (hcx.2.2);have y0:∀n os,(grow (wr.drewN n) os).cell? ⟨blk,off+j*3,none⟩=some (.string y.nm):=cell_grown hbr.out (hcy.1);have y1:∀n os,(grow (wr.drewN n) os).cell? ⟨blk,off+j*3+1,none⟩=some (.bool y.nul):=cell_grown hbr.out (hcy.2.1);have y2:∀n os,(grow (wr.drewN n) os).cell? ⟨blk,off+j*3+2,none⟩=some (.slice y.A y.n y.c):=cell_grown hbr.out (hcy.2.2);clear hcx hcy hHr hx hy;go_wp2_with fail
   go_quiet_grown (first| (go_at_call 127;exact Calls.grown_of (eqP_any x y b _ (hbx.out.grow _ _) hxy.out)))
   go_wp2_with fail;refine⟨⟨j+2,n+nq,os++osq,by go_num,by omega,by omega,zi (by rw[hwr.out];show grow (grow ((w.drewN n).drewN nq) os) osq=_;rw[grow_grow,World.drewN_drewN])⟩,?_⟩;simp[intOf];omega
  ·obtain rfl:k=d.size:=by omega
   go_wp2_with fail;go_ret;exact⟨rfl,n,os,hwr.out⟩
end Go.Proofs.YtpndglghpojjkaaGreat
namespace Go.Proofs.YtpndglghpojjkaaGreat
open Go.RowKit
def depsOf (o:Oper):List Nat:=(o.after.toList.filter fun e=>Region.binds .any e).map (·.on)
def DepF (ops:Array Oper) (V:Nat→World→Value→Prop) (tmps:Array Value) (w:World):List Nat→Prop
 | []=>True
 |j::r=>(match (ops[j]?).bind (·.dst)with|some d=>V j w (tmps.getD d undef)|none=>True)∧DepF ops V tmps w r
def relUpon (P:Program) (R:Value→World→Prop):Result Next→Prop
 | .ok (.value v) w'=>R v w'
 | .ok .skip w'=>R undef w'
 | .ok (.enter f args) w'=>Calls P f args w' fun e w''=>∃v,e= .returned v∧R v w''
 |_=>False
def Step1 (P:Program) (ops:Array Oper) (V:Nat→World→Value→Prop) (C:(Nat→Bool)→World→Prop) (G:Nat→World→World→Prop) (i:Nat) (o:Oper) (a:Act):Prop:=
 ∀w L,C L w→L i=false→(∀j∈depsOf o,L j=true)→(∀j oj,ops[j]? =some oj→i∈depsOf oj→L j=false)→DepF ops V a.tmps w (depsOf o)→
  if Region.wanted o (yielded ops a.tmps)then relUpon P (fun v w'=>C (fun k=>k==i||L k) w'∧G i w w'∧V i w' v) ((execOp a.eval o).run P w)
  else V i w undef∧C (fun k=>k==i||L k) w
def lexOk (ops:Array Oper):Bool:=
 (List.range ops.size).all fun i=>match ops[i]? with
  |none=>true
  |some o=>(depsOf o).all (·<i)&&(match o.op with| .select .. =>false|_=>true)&&
   (List.range ops.size).all fun j=>match ops[j]? with
    |none=>true
    |some oj=>match oj.dst with
     |none=>true
     |some d=>(i==j||o.dst !=some d)&&(!(o.looksAt ops).contains d|| (depsOf o).contains j|| (depsOf oj).contains i)
section
variable {P:Program} {ops:Array Oper} {V:Nat→World→Value→Prop} {C:(Nat→Bool)→World→Prop} {G:Nat→World→World→Prop} {Q:Act→World→Prop}
theorem lexOk_spec (h:lexOk ops=true) {i:Nat} {o:Oper} (hi:ops[i]? =some o):
  (∀j∈depsOf o,j<i)∧(∀cs b,o.op≠.select cs b)∧∀j oj d,ops[j]? =some oj→oj.dst=some d→(i≠j→o.dst≠some d)∧(d∈o.looksAt ops→j∈depsOf o∨i∈depsOf oj):=by
 have hlt:i<ops.size:=(Array.getElem?_eq_some_iff.1 hi).1;have h1:=List.all_eq_true.1 h i (List.mem_range.2 hlt);simp only[hi,Bool.and_eq_true]at h1;obtain⟨⟨ha,hb⟩,hc⟩:=h1;refine⟨fun j hj=>by simpa using List.all_eq_true.1 ha j hj,fun cs b e=>by rw[e]at hb;simp at hb,fun j oj d hj hd=> ?_⟩;have hjl:j<ops.size:=(Array.getElem?_eq_some_iff.1 hj).1;have h2:=List.all_eq_true.1 hc j (List.mem_range.2 hjl);simp only[hj,hd,Bool.and_eq_true,Bool.or_eq_true,beq_iff_eq,bne_iff_ne,Bool.not_eq_true']at h2;refine⟨fun hne=>(h2.1.resolve_left hne),fun hm=> ?_⟩;rcases h2.2 with(h3|h3)|h3
 ·rw[List.contains_iff_mem.2 hm]at h3;cases h3
 ·exact .inl (List.contains_iff_mem.1 h3)
 ·exact .inr (List.contains_iff_mem.1 h3)
def putN (ops:Array Oper) (x:Nat→Value) (a0:Act):Nat→Act
 |0=>a0
 |n+1=>(putN ops x a0 n).put ((ops[n]?).bind (·.dst)) (x n)
theorem put_size (a:Act) (d:Option Tmp) (v:Value):(a.put d v).tmps.size=a.tmps.size:=by cases d<;>simp[Act.put]
theorem put_defers (a:Act) (d:Option Tmp) (v:Value):(a.put d v).defers=a.defers:=by cases d<;>rfl
theorem putN_size (x:Nat→Value) (a0:Act) (n:Nat):(putN ops x a0 n).tmps.size=a0.tmps.size:=by
 induction n with
 |zero=>rfl
 |succ n ih=>show((putN ops x a0 n).put _ _).tmps.size=_;rw[put_size,ih]
theorem putN_defers (x:Nat→Value) (a0:Act) (n:Nat):(putN ops x a0 n).defers=a0.defers:=by
 induction n with
 |zero=>rfl
 |succ n ih=>show((putN ops x a0 n).put _ _).defers=_;rw[put_defers,ih]
theorem put_get (a:Act) (d:Tmp) (v:Value) (t:Tmp):(a.put (some d) v).tmps.getD t undef=if t=d∧t<a.tmps.size then v else a.tmps.getD t undef:=by
 simp only[Act.put,Array.getD_eq_getD_getElem?,Array.getElem?_setIfInBounds];by_cases h:d=t
 ·subst h;by_cases h2:d<a.tmps.size
  ·simp[h2]
  ·simp[h2]
 ·rw[if_neg h,if_neg (fun e=>h e.1.symm)]
theorem putN_other (x:Nat→Value) (a0:Act) (n:Nat) (t:Tmp) (h:∀j,j<n→(ops[j]?).bind (·.dst)≠some t):(putN ops x a0 n).tmps.getD t undef=a0.tmps.getD t undef:=by
 induction n with
 |zero=>rfl
 |succ n ih=>
  show((putN ops x a0 n).put _ _).tmps.getD t undef=_;rw[←ih fun j hj=>h j (by omega)];have hn:=h n (by omega)
  cases hd:(ops[n]?).bind (·.dst)with
  |none=>rfl
  |some d=>
   rw[put_get,if_neg];rintro⟨rfl,_⟩;exact hn hd
theorem putN_at (x:Nat→Value) (a0:Act) (n:Nat) (t:Tmp) (j:Nat) (hj:j<n) (hd:(ops[j]?).bind (·.dst)=some t) (huniq:∀k,k<n→(ops[k]?).bind (·.dst)=some t→k=j) (ht:t<a0.tmps.size):
  (putN ops x a0 n).tmps.getD t undef=x j:=by
 induction n with
 |zero=>omega
 |succ n ih=>
  show((putN ops x a0 n).put _ _).tmps.getD t undef=_;by_cases e:j=n
  ·subst e;rw[hd,put_get,if_pos ⟨rfl,by rw[putN_size];exact ht⟩]
  ·have:=ih (by omega) (fun k hk hkd=>huniq k (by omega) hkd);rw[←this]
   cases hd2:(ops[n]?).bind (·.dst)with
   |none=>rfl
   |some d=>
    rw[put_get,if_neg];rintro⟨rfl,_⟩;exact e (huniq n (by omega) hd2).symm
structure Lex (ops:Array Oper) (V:Nat→World→Value→Prop) (C:(Nat→Bool)→World→Prop) (a0:Act) (listed:Array Bool) (a:Act) (w:World):Prop where
 cls:C (fun k=>listed.getD k true) w
 lsize:listed.size=ops.size
 size:a.tmps.size=a0.tmps.size
 defers:a.defers=a0.defers
 closed:∀(i:Nat) o,ops[i]? =some o→listed.getD i true=true→∀j∈depsOf o,listed.getD j true=true
 done:∀(i:Nat) o,ops[i]? =some o→listed.getD i true=true→∀d,o.dst=some d→V i w (a.tmps.getD d undef)
 rest:∀t,(∀(i:Nat) o,ops[i]? =some o→listed.getD i true=true→o.dst≠some t)→a.tmps.getD t undef=a0.tmps.getD t undef
theorem getD_out {x:Array Value} {t:Nat} (h:x.size≤t):x.getD t undef=undef:=by
 rw[Array.getD_eq_getD_getElem?,Array.getElem?_eq_none h];rfl
def valsOf (ops:Array Oper) (a:Act) (k:Nat):Value:=match (ops[k]?).bind (·.dst)with|some d=>a.tmps.getD d undef|none=>undef
theorem putN_self {a a0:Act} (hs:a.tmps.size=a0.tmps.size) (n:Nat) (t:Tmp) (h:∃j,j<n∧(ops[j]?).bind (·.dst)=some t):(putN ops (valsOf ops a) a0 n).tmps.getD t undef=a.tmps.getD t undef:=by
 induction n with
 |zero=>obtain⟨j,hj,_⟩:=h;omega
 |succ n ih=>
  show((putN ops _ a0 n).put _ (valsOf ops a n)).tmps.getD t undef=_;by_cases e:(ops[n]?).bind (·.dst)=some t
  ·have hv:valsOf ops a n=a.tmps.getD t undef:=by unfold valsOf;rw[e]
   rw[e,put_get,hv,putN_size];by_cases ht:t<a0.tmps.size
   ·rw[if_pos ⟨rfl,ht⟩]
   ·rw[if_neg (fun h=>ht h.2),getD_out (x:=(putN ops (valsOf ops a) a0 n).tmps) (t:=t) (by rw[putN_size];exact Nat.le_of_not_lt ht),getD_out (x:=a.tmps) (t:=t) (by rw[hs];exact Nat.le_of_not_lt ht)]
  ·have h':∃j,j<n∧(ops[j]?).bind (·.dst)=some t:=by
    obtain⟨j,hj,hd⟩:=h;refine⟨j,?_,hd⟩;rcases Nat.lt_or_ge j n with hl|hl
    ·exact hl
    ·obtain rfl:j=n:=by omega
     exact absurd hd e
   rw[←ih h']
   cases hd:(ops[n]?).bind (·.dst)with
   |none=>rfl
   |some d=>
    rw[put_get,if_neg];rintro⟨rfl,_⟩;exact e hd
theorem get_of_getD {x y:Array Value} (hs:x.size=y.size) {t:Nat} (h:x.getD t undef=y.getD t undef):x[t]? =y[t]? :=by
 rw[Array.getD_eq_getD_getElem?,Array.getD_eq_getD_getElem?]at h;by_cases ht:t<x.size
 ·rw[Array.getElem?_eq_getElem ht,Array.getElem?_eq_getElem (by omega)]at h⊢;simpa using h
 ·rw[Array.getElem?_eq_none (by omega),Array.getElem?_eq_none (by omega)]
theorem wanted_of {o:Oper} {a b:Act} (hs:a.tmps.size=b.tmps.size) (h:∀t∈o.looksAt ops,a.tmps.getD t undef=b.tmps.getD t undef):
  Region.wanted o (yielded ops a.tmps)=Region.wanted o (yielded ops b.tmps):=by
 unfold Region.wanted
 cases hg:o.guard with
 |none=>rfl
 |some g=>
  obtain⟨j,want⟩:=g;simp only;congr 1;unfold yielded
  cases hd:(ops[j]?).bind (·.dst)with
  |none=>rfl
  |some d=>
   simp only[Option.bind_some];rw[get_of_getD hs (h d ?_)];unfold Oper.looksAt;simp only[hg];refine List.mem_append_right _ ?_
   first
    | (rw[hd];simp;done)
    | (simp[hd];done)
    |simp_all
def unlisted (n:Nat) (listed:Array Bool):Nat:=((List.range n).filter fun i=> !listed.getD i true).length
theorem unlisted_set {n:Nat} {listed:Array Bool} (hs:listed.size=n) {i:Nat} (hi:i<n) (hu:listed.getD i true=false):unlisted n (listed.setIfInBounds i true)+1=unlisted n listed:=by
 have key:∀l:List Nat,l.Nodup→(∀k∈l,k<n)→((l.filter fun k=> !(listed.setIfInBounds i true).getD k true).length+(if i∈l then 1 else 0)=(l.filter fun k=> !listed.getD k true).length):=by
  intro l
  induction l with
  |nil=>simp
  |cons k l ih=>
   intro hn hl;rw[List.nodup_cons]at hn;have:=ih hn.2 fun j hj=>hl j (List.mem_cons_of_mem _ hj)
   have hg:(listed.setIfInBounds i true).getD k true=if k=i then true else listed.getD k true:=by
    simp only[Array.getD_eq_getD_getElem?,Array.getElem?_setIfInBounds];by_cases e:i=k
    ·subst e;simp[hs,hi]
    ·rw[if_neg e,if_neg (fun h=>e h.symm)]
   rw[List.filter_cons,List.filter_cons,hg];by_cases e:k=i
   ·subst e;simp only[if_true,Bool.not_true,Bool.false_eq_true,if_false,hu,Bool.not_false,List.length_cons,List.mem_cons,true_or];rw[if_neg hn.1]at this;omega
   ·rw[if_neg e]
    have hm:(i∈k::l)↔i∈l:=by simp[Ne.symm e]
    by_cases hk:listed.getD k true=true
    ·simp only[hk,Bool.not_true,Bool.false_eq_true,if_false,hm];exact this
    ·simp only[hk,Bool.not_false,if_true,List.length_cons,hm];omega
 have:=key (List.range n) List.nodup_range (fun k hk=>List.mem_range.1 hk);rw[if_pos (List.mem_range.2 hi)]at this;exact this
theorem wpAny_lex {a0:Act} {Q':Exit→Act→World→Prop} (hok:lexOk ops=true) (hN:∀(i:Nat) o d,ops[i]? =some o→o.dst=some d→d<a0.tmps.size)
  (hmono:∀(i j:Nat) oj,ops[j]? =some oj→i∉depsOf oj→i≠j→∀w w' v,G i w w'→V j w v→V j w' v) (steps:∀x (i:Nat) o,ops[i]? =some o→Step1 P ops V C G i o (putN ops x a0 i))
  (hQ:∀x w,C (fun _=>true) w→(∀(k:Nat) o,ops[k]? =some o→o.dst.isSome=true→V k w (x k))→Q' .normal (putN ops x a0 ops.size) w):
  ∀(fuel:Nat) (listed:Array Bool) (a:Act) (w:World),unlisted ops.size listed=fuel→Lex ops V C a0 listed a w→wpAny P .any ops Q' fuel listed a w:=by
 have hend:∀(listed:Array Bool) (a:Act) (w:World),(∀i,i<ops.size→listed.getD i true=true)→Lex ops V C a0 listed a w→Q' .normal a w:=by
  intro listed a w hall hl;have hC:=hl.cls
  rw[show(fun k=>listed.getD k true)=fun _=>true from funext fun k=>by
   by_cases hk:k<ops.size
   ·exact hall k hk
   ·rw[Array.getD_eq_getD_getElem?,Array.getElem?_eq_none (by rw[hl.lsize];omega)];rfl]at hC
  have hq:=hQ (valsOf ops a) w hC fun k o hk hs=>by obtain⟨d,hd⟩:=Option.isSome_iff_exists.1 hs;have:=hl.done k _ hk (hall k (Array.getElem?_eq_some_iff.1 hk).1) d hd;unfold valsOf;rw[hk];simp only[Option.bind_some,hd];exact this
  have e:putN ops (valsOf ops a) a0 ops.size=a:=by
   have hsz:(putN ops (valsOf ops a) a0 ops.size).tmps.size=a.tmps.size:=by rw[putN_size,hl.size]
   have hd:(putN ops (valsOf ops a) a0 ops.size).defers=a.defers:=by rw[putN_defers,hl.defers]
   have ht:(putN ops (valsOf ops a) a0 ops.size).tmps=a.tmps:=by
    apply Array.ext_getElem?;intro t;apply get_of_getD hsz;by_cases hw:∃j,j<ops.size∧(ops[j]?).bind (·.dst)=some t
    ·exact putN_self hl.size _ _ hw
    ·rw[putN_other _ _ _ _ (fun j hj hd=>hw ⟨j,hj,hd⟩)];exact(hl.rest t fun i o hi _ hd=>hw ⟨i,(Array.getElem?_eq_some_iff.1 hi).1,by rw[hi];exact hd⟩).symm
   cases h1:putN ops (valsOf ops a) a0 ops.size;cases a;simp only[h1]at hd ht;rw[hd,ht]
  rw[e]at hq;exact hq
 intro fuel
 induction fuel with
 |zero=>
  intro listed a w hu hl
  have hall:∀i,i<ops.size→listed.getD i true=true:=by intro i hi;have:=List.eq_nil_of_length_eq_zero hu;have h2:=List.filter_eq_nil_iff.1 this i (List.mem_range.2 hi);simpa using h2
  refine⟨?_,hend listed a w hall hl⟩;unfold Region.ready;rw[List.filter_eq_nil_iff];intro i hi;simp[hall i (List.mem_range.1 hi)]
 |succ fuel ih=>
  intro listed a w hu hl;refine⟨fun hr=>hend listed a w ?_ hl,fun i hi=> ?_⟩
  ·have hall:∀n,∀i,i<n→i<ops.size→listed.getD i true=true:=by
    intro n
    induction n with
    |zero=>intro i h;omega
    |succ n ihn=>
     intro i hin hio;by_cases hlt:i<n
     ·exact ihn i hlt hio
     ·obtain rfl:i=n:=by omega
      unfold Region.ready at hr;have h2:=List.filter_eq_nil_iff.1 hr i (List.mem_range.2 hio)
      cases hb:listed.getD i true with
      |true=>rfl
      |false=>
       exfalso;apply h2;have hoi:ops[i]? =some ops[i]:=Array.getElem?_eq_getElem hio;have hdeps:=(lexOk_spec hok hoi).1;rw[hb,hoi];simp only[Bool.not_false,Bool.true_and,Option.map_some,Option.getD_some];rw[Array.all_eq_true_iff_forall_mem];intro e he
       cases hbn:Region.binds .any e with
       |false=>rfl
       |true=>
        have hm:e.on∈depsOf ops[i]:=List.mem_map.2 ⟨e,List.mem_filter.2 ⟨by simpa using he,hbn⟩,rfl⟩;have h3:=ihn e.on (hdeps _ hm) (by have:=hdeps _ hm;omega)
        have h4:e.on<listed.size:=by rw[hl.lsize];have:=hdeps _ hm;omega
        simp only[Array.getD_eq_getD_getElem?,Array.getElem?_eq_getElem h4]at h3⊢;simpa using h3
   exact fun i hi=>hall (i+1) i (by omega) hi
  ·unfold Region.ready at hi;obtain⟨hir,hcond⟩:=List.mem_filter.1 hi;have hio:=List.mem_range.1 hir;have hoi:ops[i]? =some ops[i]:=Array.getElem?_eq_getElem hio;generalize ops[i]=o at hoi;simp only[hoi,Option.map_some,Option.getD_some,Bool.and_eq_true,Bool.not_eq_true']at hcond;obtain⟨hun,hafter⟩:=hcond;obtain⟨hdlt,hsel,hshape⟩:=lexOk_spec hok hoi
   have hdeps:∀j∈depsOf o,listed.getD j true=true:=by
    intro j hj;obtain⟨e,he,rfl⟩:=List.mem_map.1 hj;obtain⟨he1,he2⟩:=List.mem_filter.1 he;have h3:=(Array.all_eq_true_iff_forall_mem.1 hafter) e (by simpa using he1);rw[he2]at h3;simp only[Bool.not_true,Bool.false_or]at h3
    have h4:e.on<listed.size:=by rw[hl.lsize];have:=hdlt _ hj;omega
    simp only[Array.getD_eq_getD_getElem?,Array.getElem?_eq_getElem h4]at h3⊢;simpa using h3
   have hnext:∀j oj,ops[j]? =some oj→i∈depsOf oj→listed.getD j true=false:=by
    intro j oj hj hij
    cases hb:listed.getD j true with
    |false=>rfl
    |true=>
     have:=hl.closed j oj hj hb i hij;rw[hun]at this;cases this
   let x:=valsOf ops a
   have hlook:∀t∈o.looksAt ops,(putN ops x a0 i).tmps.getD t undef=a.tmps.getD t undef:=by
    intro t ht;by_cases hw:∃j,j<i∧(ops[j]?).bind (·.dst)=some t
    ·exact putN_self hl.size _ _ hw
    ·rw[putN_other _ _ _ _ (fun j hj hd=>hw ⟨j,hj,hd⟩)];refine(hl.rest t fun k ok hk hlk hdk=> ?_).symm;rcases(hshape k ok t hk hdk).2 ht with h1|h1
     ·exact hw ⟨k,hdlt k h1,by rw[hk];exact hdk⟩
     ·have:=hl.closed k ok hk hlk i h1;rw[hun]at this;cases this
   have hssz:(putN ops x a0 i).tmps.size=a.tmps.size:=by rw[putN_size,hl.size]
   have hex:execOp (putN ops x a0 i).eval o=execOp a.eval o:=execOp_congr o hsel fun y hy=>by
    cases y with
    |tmp t=>
     have:t∈o.looksAt ops:=List.mem_append_left _ (List.mem_filterMap.2 ⟨.tmp t,by simpa using hy,rfl⟩);have h5:=hlook t this;simpa[Act.eval]using h5
    |_=>rfl
   have hwt:=wanted_of (ops:=ops) (o:=o) hssz hlook
   have hdepF:∀l:List Nat,(∀j∈l,j∈depsOf o)→DepF ops V (putN ops x a0 i).tmps w l:=by
    intro l
    induction l with
    |nil=>intro _;trivial
    |cons j l ihl=>
     intro hj;refine⟨?_,ihl fun k hk=>hj k (List.mem_cons_of_mem _ hk)⟩;have hjd:=hj j (List.mem_cons_self ..);have hji:=hdlt j hjd;have hoj:ops[j]? =some ops[j]:=Array.getElem?_eq_getElem (by omega);have hd:=hl.done j _ hoj (hdeps j hjd)
     cases hdst:(ops[j]?).bind (·.dst)with
     |none=>trivial
     |some d=>
      show V j w _;rw[hoj]at hdst;simp only[Option.bind_some]at hdst;rw[putN_self hl.size i d ⟨j,hji,by rw[hoj];exact hdst⟩];exact hd d hdst
   have hst:=steps x i o hoi w (fun k=>listed.getD k true) hl.cls hun hdeps hnext (hdepF _ fun _ h=>h);rw[hwt,hex]at hst
   have hset:∀k,(listed.setIfInBounds i true).getD k true=(k==i||listed.getD k true):=by
    intro k;simp only[Array.getD_eq_getD_getElem?,Array.getElem?_setIfInBounds];by_cases e:i=k
    ·subst e;simp[hl.lsize,hio]
    ·rw[if_neg e];simp[Ne.symm e]
   have go:∀v w',C (fun k=>k==i||listed.getD k true) w'→(∀(k:Nat) ok,ops[k]? =some ok→i∉depsOf ok→i≠k→∀u,V k w u→V k w' u)→V i w' v→wpAny P .any ops Q' fuel (listed.setIfInBounds i true) (a.put o.dst v) w':=by
    intro v w' hC hm hV;apply ih
    ·have:=unlisted_set hl.lsize hio hun;omega
    ·refine⟨?_,by simp[hl.lsize],by rw[put_size];exact hl.size,by rw[put_defers];exact hl.defers,?_,?_,?_⟩
     ·rw[show(fun k=>(listed.setIfInBounds i true).getD k true)=fun k=>k==i||listed.getD k true from funext hset];exact hC
     ·intro k ok hk hlk j hj;rw[hset]at hlk⊢;by_cases e:k=i
      ·subst e;rw[hoi]at hk;cases hk;rw[hdeps j hj];simp
      ·have:listed.getD k true=true:=by simpa[e]using hlk
       rw[hl.closed k ok hk this j hj];simp
     ·intro k ok hk hlk d hdst;rw[hset]at hlk;by_cases e:k=i
      ·subst e;rw[hoi]at hk;cases hk;rw[hdst,put_get,if_pos ⟨rfl,by rw[hl.size];exact hN k o d hoi hdst⟩];exact hV
      ·have hlk':listed.getD k true=true:=by simpa[e]using hlk
       have hnd:i∉depsOf ok:=fun h=>by have:=hl.closed k ok hk hlk' i h;rw[hun]at this;cases this
       have:=hm k ok hk hnd (Ne.symm e) _ (hl.done k ok hk hlk' d hdst);have hne:=(hshape k ok d hk hdst).1 (Ne.symm e)
       cases hd2:o.dst with
       |none=>exact this
       |some d2=>
        rw[put_get,if_neg]
        ·exact this
        ·rintro⟨rfl,_⟩;exact hne hd2
     ·intro t ht;have h1:=hl.rest t fun k ok hk hlk=>ht k ok hk (by rw[hset,hlk];simp);have h2:=ht i o hoi (by rw[hset];simp);rw[←h1]
      cases hd2:o.dst with
      |none=>rfl
      |some d2=>
       rw[put_get,if_neg];rintro⟨rfl,_⟩;exact h2 hd2
   unfold wpOp;simp only[hoi];split at hst
   ·rename_i hw;rw[if_pos hw];left;unfold Oper.wp;generalize (execOp a.eval o).run P w=r at hst
    cases r with
    |halt h w'=>exact hst.elim
    |ok n w'=>
     cases n with
     |value v=>exact go v w' hst.1 (fun k ok hk hnd hne u=>hmono i k ok hk hnd hne w w' u hst.2.1) hst.2.2
     |skip=>exact go undef w' hst.1 (fun k ok hk hnd hne u=>hmono i k ok hk hnd hne w w' u hst.2.1) hst.2.2
     |enter f args=>
      refine Calls.mono (show Calls P f args w' _ from hst) ?_;rintro e w'' ⟨v,rfl,h1,h2,h3⟩;exact go v w'' h1 (fun k ok hk hnd hne u=>hmono i k ok hk hnd hne w w'' u h2) h3
     |_=>exact(show False from hst).elim
   ·rename_i hw;rw[if_neg hw];exact go undef w hst.2 (fun _ _ _ _ _ _ h=>h) hst.1
def dstIn (ops:Array Oper) (n:Nat):Bool:=ops.toList.all fun o=>match o.dst with|some d=>decide (d<n)|none=>true
theorem DepF.get {tmps:Array Value} {w:World} {l:List Nat} (h:DepF ops V tmps w l) {j:Nat} (hj:l.contains j=true) {d:Tmp} (hd:(ops[j]?).bind (·.dst)=some d):V j w (tmps.getD d undef):=by
 induction l with
 |nil=>cases hj
 |cons k l ih=>
  by_cases e:j=k
  ·subst e;have:=h.1;rw[hd]at this;exact this
  ·refine ih h.2 ?_;rw[List.contains_cons]at hj;simpa[e]using hj
theorem relUpon_value {A B:World→Prop} {D:World→Value→Prop} {r:Result Next} {v:Value} {w':World} (hr:r= .ok (.value v) w') (h1:A w') (h2:B w') (h3:D w' v):
  relUpon P (fun v w'=>A w'∧B w'∧D w' v) r:=by
 subst hr;exact⟨h1,h2,h3⟩
theorem relUpon_skip {A B:World→Prop} {D:World→Value→Prop} {r:Result Next} {w':World} (hr:r= .ok .skip w') (h1:A w') (h2:B w') (h3:D w' undef):
  relUpon P (fun v w'=>A w'∧B w'∧D w' v) r:=by
 subst hr;exact⟨h1,h2,h3⟩
theorem relUpon_call {A B:World→Prop} {D:World→Value→Prop} {r:Result Next} {f:FuncId} {args:Array Value} {w:World} {R:Ending→World→Prop} (hr:r= .ok (.enter f args) w) (hc:Calls P f args w R)
  (h:∀e w',R e w'→∃v,e= .returned v∧A w'∧B w'∧D w' v):relUpon P (fun v w'=>A w'∧B w'∧D w' v) r:=by
 subst hr;exact hc.mono h
structure Reads where
 reads:List (Tmp×Option Nat)
 guard:Tmp:=0
 next:List Nat:= []
def evalOf (f:Tmp→Value):Operand→Value
 | .tmp t=>f t
 | .const v=>v
 | .global g=> .pointer (some ⟨g,0,none⟩)
 | .func g=> .func (.func g) #[] #[]
def Facts (V:Nat→World→Value→Prop) (a0:Act) (w:World) (f:Tmp→Value):List (Tmp×Option Nat)→Prop
 | []=>True
 | (t,some j)::r=>V j w (f t)∧Facts V a0 w f r
 | (t,none)::r=>f t=a0.tmps.getD t undef∧Facts V a0 w f r
def wantedBy (o:Oper) (v:Value):Bool:=
 match o.guard with
 |none=>true
 |some (_,want)=>(match v with| .bool b=>some b|_=>none)==some want
def Step2 (P:Program) (V:Nat→World→Value→Prop) (C:(Nat→Bool)→World→Prop) (G:Nat→World→World→Prop) (a0:Act) (i:Nat) (o:Oper) (r:Reads):Prop:=
 ∀w L (f:Tmp→Value),C L w→L i=false→(∀j∈depsOf o,L j=true)→(∀j∈r.next,L j=false)→Facts V a0 w f r.reads→
  if wantedBy o (f r.guard)=true then relUpon P (fun v w'=>C (fun k=>k==i||L k) w'∧G i w w'∧V i w' v) ((execOp (evalOf f) o).run P w)
  else V i w undef∧C (fun k=>k==i||L k) w
def StepAll (P:Program) (V:Nat→World→Value→Prop) (C:(Nat→Bool)→World→Prop) (G:Nat→World→World→Prop) (a0:Act):Nat→List Oper→List Reads→Prop
 |_,[],_=>True
 |i,o::l,rs=>Step2 P V C G a0 i o (rs.headD ⟨[],0,[]⟩)∧StepAll P V C G a0 (i+1) l rs.tail
def tabOk (ops:Array Oper) (R:List Reads):Bool:=
 (List.range ops.size).all fun i=>match ops[i]? with
  |none=>true
  |some o=>
   ((R.drop i).headD ⟨[],0,[]⟩).reads.all (fun p=>match p.2 with
    |some j=>(match ops[j]? with|some oj=>oj.dst==some p.1|none=>false)&&(depsOf o).contains j
    |none=>(List.range ops.size).all fun j=>match ops[j]? with|some oj=>oj.dst !=some p.1|| (depsOf oj).contains i|none=>true)&&
   (match o.guard with
    |none=>true
    |some (j,_)=>match ops[j]? with|some oj=>oj.dst==some ((R.drop i).headD ⟨[],0,[]⟩).guard|none=>false)&&
   ((R.drop i).headD ⟨[],0,[]⟩).next.all (fun j=>match ops[j]? with|some oj=>(depsOf oj).contains i|none=>false)
theorem StepAll.get {a0:Act} (l:List Oper):∀(R:List Reads) (i k:Nat) (o:Oper),StepAll P V C G a0 i l R→l[k]? =some o→Step2 P V C G a0 (i+k) o ((R.drop k).headD ⟨[],0,[]⟩):=by
 induction l with
 |nil=>intro R i k o _ hk;simp at hk
 |cons o' l ih=>
  intro R i k o h hk
  cases k with
  |zero=>
   simp at hk;subst hk;exact h.1
  |succ k=>
   have h2:=ih R.tail (i+1) k o h.2 (by simpa using hk);rw[List.drop_tail,Nat.add_assoc,Nat.add_comm 1 k]at h2;exact h2
theorem evalOf_tmps (a:Act):evalOf (fun t=>a.tmps.getD t undef)=a.eval:=by
 funext x;cases x<;>rfl
theorem Facts.of {a0 a:Act} {w:World} {o:Oper} {i:Nat} (hD:DepF ops V a.tmps w (depsOf o)) (ha:∀t:Tmp,(∀(j:Nat) (oj:Oper),ops[j]? =some oj→oj.dst=some t→i∈depsOf oj)→a.tmps.getD t undef=a0.tmps.getD t undef):
  ∀l:List (Tmp×Option Nat),(l.all fun p=>match p.2 with
    |some j=>(match ops[j]? with|some oj=>oj.dst==some p.1|none=>false)&&(depsOf o).contains j
    |none=>(List.range ops.size).all fun j=>match ops[j]? with|some oj=>oj.dst !=some p.1|| (depsOf oj).contains i|none=>true)=true→Facts V a0 w (fun t=>a.tmps.getD t undef) l:=by
 intro l
 induction l with
 |nil=>intro _;trivial
 |cons p l ih=>
  intro h;rw[List.all_cons,Bool.and_eq_true]at h;obtain⟨t,s⟩:=p
  cases s with
  |some j=>
   simp only[Bool.and_eq_true]at h;refine⟨?_,ih h.2⟩
   cases hj:ops[j]? with
   |none=>rw[hj]at h;exact absurd h.1.1 (by simp)
   |some oj=>
    rw[hj]at h;exact hD.get h.1.2 (by rw[hj];simpa using h.1.1)
  |none=>
   refine⟨ha t fun j oj hj hd=> ?_,ih h.2⟩;have h3:=List.all_eq_true.1 h.1 j (List.mem_range.2 (Array.getElem?_eq_some_iff.1 hj).1);simp only[hj,hd,bne_self_eq_false,Bool.false_or]at h3;exact List.contains_iff_mem.1 h3
theorem Step1.of {a0:Act} {R:List Reads} (hok:lexOk ops=true) (htab:tabOk ops R=true) (hall:StepAll P V C G a0 0 ops.toList R) (x:Nat→Value) (i:Nat) (o:Oper) (hi:ops[i]? =some o):
  Step1 P ops V C G i o (putN ops x a0 i):=by
 intro w L hC hL hd hn hD;have hilt:=(Array.getElem?_eq_some_iff.1 hi).1;have ht:=List.all_eq_true.1 htab i (List.mem_range.2 hilt);simp only[hi,Bool.and_eq_true]at ht;have h2:=StepAll.get ops.toList R 0 i o hall (by simpa using hi);rw[Nat.zero_add]at h2;generalize (R.drop i).headD ⟨[],0,[]⟩=r at ht h2
 have hnx:∀j∈r.next,L j=false:=fun j hj=>by
  have:=List.all_eq_true.1 ht.2 j hj
  cases hoj:ops[j]? with
  |none=>rw[hoj]at this;exact absurd this (by simp)
  |some oj=>rw[hoj]at this;exact hn j oj hoj (List.contains_iff_mem.1 this)
 have hf:=Facts.of (a0:=a0) (a:=putN ops x a0 i) hD (fun t h=>putN_other x a0 i t fun j hj hjd=>by
  cases hoj:ops[j]? with
  |none=>rw[hoj]at hjd;cases hjd
  |some oj=>
   rw[hoj]at hjd;have:=(lexOk_spec hok hoj).1 i (h j oj hoj hjd)
   omega) r.reads ht.1.1
 have h3:=h2 w L (fun t=>(putN ops x a0 i).tmps.getD t undef) hC hL hd hnx hf;rw[evalOf_tmps]at h3
 have hw:Region.wanted o (yielded ops (putN ops x a0 i).tmps)=wantedBy o ((putN ops x a0 i).tmps.getD r.guard undef):=by
  unfold Region.wanted wantedBy
  cases hg:o.guard with
  |none=>rfl
  |some g=>
   obtain⟨j,want⟩:=g;have h4:=ht.1.2;rw[hg]at h4;simp only at h4⊢
   cases hoj:ops[j]? with
   |none=>rw[hoj]at h4;exact absurd h4 (by simp)
   |some oj=>
    rw[hoj]at h4
    have hdst:oj.dst=some r.guard:=by simpa using h4
    unfold yielded;simp only[hoj,Option.bind_some,hdst];rw[Array.getD_eq_getD_getElem?]
    cases (putN ops x a0 i).tmps[r.guard]? with
    |none=>rfl
    |some v=>cases v<;>rfl
 rw[hw];exact h3
def framed (x:Nat→Value):List (Option Nat)→List Value→List Value
 |d::ds,v::vs=>(match d with|some j=>x j|none=>v)::framed x ds vs
 |_,vs=>vs
theorem framed_length (x:Nat→Value):∀(ds:List (Option Nat)) (vs:List Value),(framed x ds vs).length=vs.length
 | [],vs=>by cases vs<;>rfl
 |d::ds,[]=>rfl
 |d::ds,v::vs=>by simp[framed,framed_length x ds vs]
theorem framed_get (x:Nat→Value):∀(ds:List (Option Nat)) (vs:List Value) (t:Nat),t<vs.length→(framed x ds vs).getD t undef=match ds.getD t none with|some j=>x j|none=>vs.getD t undef
 | [],vs,t,_=>by cases vs<;>rfl
 |d::ds,[],t,h=>by simp at h
 |d::ds,v::vs,0,_=>by cases d<;>rfl
 |d::ds,v::vs,t+1,h=>by have:=framed_get x ds vs t (by simpa using h);simpa[framed]using this
def framedOk (ops:Array Oper) (D:List (Option Nat)) (n:Nat):Bool:=
 (List.range n).all fun t=>match D.getD t none with
  |some j=>match ops[j]? with|some oj=>oj.dst==some t|none=>false
  |none=>(List.range ops.size).all fun j=>match ops[j]? with|some oj=>oj.dst !=some t|none=>true
theorem putN_framed {a0:Act} {D:List (Option Nat)} (hok:lexOk ops=true) (hf:framedOk ops D a0.tmps.size=true) (x:Nat→Value):putN ops x a0 ops.size=⟨(framed x D a0.tmps.toList).toArray,a0.defers⟩:=by
 have hd:=putN_defers (ops:=ops) x a0 ops.size
 have ht:(putN ops x a0 ops.size).tmps=(framed x D a0.tmps.toList).toArray:=by
  apply Array.ext_getElem?;intro t
  have hsz:(putN ops x a0 ops.size).tmps.size=(framed x D a0.tmps.toList).toArray.size:=by rw[putN_size];simp[framed_length]
  apply get_of_getD hsz;by_cases hlt:t<a0.tmps.size
  ·have h1:=List.all_eq_true.1 hf t (List.mem_range.2 hlt);have h2:=framed_get x D a0.tmps.toList t (by simpa using hlt)
   have h3:(framed x D a0.tmps.toList).toArray.getD t undef=(framed x D a0.tmps.toList).getD t undef:=by simp[Array.getD_eq_getD_getElem?]
   rw[h3,h2]
   cases hD:D.getD t none with
   |some j=>
    rw[hD]at h1;simp only at h1
    cases hoj:ops[j]? with
    |none=>rw[hoj]at h1;exact absurd h1 (by simp)
    |some oj=>
     rw[hoj]at h1
     have hdst:oj.dst=some t:=by simpa using h1
     have hjl:=(Array.getElem?_eq_some_iff.1 hoj).1;refine putN_at x a0 ops.size t j hjl (by rw[hoj];exact hdst) (fun k hk hkd=> ?_) hlt
     cases hok2:ops[k]? with
     |none=>rw[hok2]at hkd;cases hkd
     |some ok=>
      rw[hok2]at hkd;by_cases e:j=k
      ·exact e.symm
      ·exact absurd hdst (((lexOk_spec hok hoj).2.2 k ok t hok2 hkd).1 e)
   |none=>
    rw[hD]at h1;rw[putN_other]
    ·simp[Array.getD_eq_getD_getElem?]
    ·intro j hj hjd
     cases hoj:ops[j]? with
     |none=>rw[hoj]at hjd;cases hjd
     |some oj=>
      rw[hoj]at hjd;have h4:=List.all_eq_true.1 h1 j (List.mem_range.2 hj);rw[hoj]at h4;simp only[bne_iff_ne]at h4;exact h4 hjd
  ·rw[getD_out (x:=(putN ops x a0 ops.size).tmps) (t:=t) (by rw[putN_size];omega),getD_out (x:=(framed x D a0.tmps.toList).toArray) (t:=t) (by simp[framed_length];omega)]
 cases h1:putN ops x a0 ops.size;rw[h1]at hd ht;simp only at hd ht;rw[hd,ht]
def AllKept (G:Nat→World→World→Prop):Nat→List (World→Value→Prop)→List Reads→Prop
 |_,[],_=>True
 |j,f::r,rs=>(∀i,i≠j→((rs.headD ⟨[],0,[]⟩).reads.all fun p=>p.2 !=some i)=true→∀w w' v,G i w w'→f w v→f w' v)∧AllKept G (j+1) r rs.tail
theorem AllKept.get:∀(l:List (World→Value→Prop)) (R:List Reads) (n:Nat),AllKept G n l R→∀i j,i≠n+j→(((R.drop j).headD ⟨[],0,[]⟩).reads.all fun p=>p.2 !=some i)=true→∀w w' v,G i w w'→(l.getD j fun _ _=>True) w v→(l.getD j fun _ _=>True) w' v
 | [],_,_,_,_,_,_,_=>by intro w w' v _ _;exact trivial
 |f::r,R,n,h,i,0,hne,hr=>h.1 i hne hr
 |f::r,R,n,h,i,j+1,hne,hr=>AllKept.get r R.tail (n+1) h.2 i j (by omega) (by rw[List.drop_tail];exact hr)
theorem reads_deps {R:List Reads} (htab:tabOk ops R=true) {j:Nat} {oj:Oper} (hj:ops[j]? =some oj) {i:Nat} (hi:i∉depsOf oj):(((R.drop j).headD ⟨[],0,[]⟩).reads.all fun p=>p.2 !=some i)=true:=by
 have ht:=List.all_eq_true.1 htab j (List.mem_range.2 (Array.getElem?_eq_some_iff.1 hj).1);simp only[hj,Bool.and_eq_true]at ht;rw[List.all_eq_true];intro p hp;have h1:=List.all_eq_true.1 ht.1.1 p hp;obtain⟨t,s⟩:=p
 cases s with
 |none=>rfl
 |some k=>
  simp only[Bool.and_eq_true]at h1;have h2:=List.contains_iff_mem.1 h1.2;simp only[bne_iff_ne,ne_eq,Option.some.injEq];rintro rfl;exact hi h2
theorem wp_region_tab {id:Nat} {a0:Act} {w:World} {Q':Exit→Act→World→Prop} (Vs:List (World→Value→Prop)) (R:List Reads) (D:List (Option Nat)) (C:(Nat→Bool)→World→Prop) (G:Nat→World→World→Prop)
  (hm:P.follows .mixedOrders=true) (hok:lexOk ops=true) (htab:tabOk ops R=true) (hfr:framedOk ops D a0.tmps.size=true) (hN:dstIn ops a0.tmps.size=true) (hmono:AllKept G 0 Vs R)
  (h0:C (fun k=> !decide (k<ops.size)) {w with drawn:=w.drawn+1})
  (each:StepAll P (fun i=>Vs.getD i fun _ _=>True) C G a0 0 ops.toList R)
  (fin:∀(x:Nat→Value) w',C (fun _=>true) w'→(∀k o,ops[k]? =some o→o.dst.isSome=true→(Vs.getD k fun _ _=>True) w' (x k))→Q' .normal ⟨(framed x D a0.tmps.toList).toArray,a0.defers⟩ w'):
  (Code.region id ops true).wp P Q' a0 w:=by
 refine wp_region_any hm (wpAny_lex (V:=fun i=>Vs.getD i fun _ _=>True) (C:=C) (G:=G) (a0:=a0) hok ?_ (fun i j oj hj hi hne=>AllKept.get Vs R 0 hmono i j (by omega) (reads_deps htab hj hi)) (fun x i o hi=>Step1.of hok htab each x i o hi) ?_ ops.size _ a0 _ ?_ ?_)
 ·intro i o d hi hd;have:=List.all_eq_true.1 hN o (by simpa using Array.mem_of_getElem? hi);rw[hd]at this;simpa using this
 ·intro x w hC hV;rw[putN_framed hok hfr];exact fin x w hC hV
 ·unfold unlisted;rw[List.filter_eq_self.2]
  ·simp
  ·intro i hi;have:=List.mem_range.1 hi;simp[this]
 ·refine⟨?_,by simp,rfl,rfl,?_,?_,fun _ _=>rfl⟩
  ·rw[show(fun k=>(Array.replicate ops.size false).getD k true)=fun k=> !decide (k<ops.size)from funext fun k=>by
    rw[Array.getD_eq_getD_getElem?,Array.getElem?_replicate]
    by_cases h:k<ops.size<;>simp[h]]
   exact h0
  ·intro i o hi hl;have:=(Array.getElem?_eq_some_iff.1 hi).1;simp[this]at hl
  ·intro i o hi hl;have:=(Array.getElem?_eq_some_iff.1 hi).1;simp[this]at hl
theorem Step2.live {b:Bool} {X Y:Prop} (hb:b=true) (h:X):if b=true then X else Y:=by rw[if_pos hb];exact h
theorem Step2.dead {b:Bool} {X A B:Prop} (hb:b=false) (h1:B) (h2:A):if b=true then X else A∧B:=by subst hb;exact⟨h2,h1⟩
end
abbrev eqv {α β:Type} (u:Value):α→β→Value→Prop:=fun _ _ v=>v=u
abbrev eqw {β:Type} (u:Value):β→Value→Prop:=fun _ v=>v=u
abbrev eud {α β:Type}:α→β→Value→Prop:=eqv undef
abbrev ewd {β:Type}:β→Value→Prop:=eqw undef
abbrev rd1 (t o:Nat):Reads:=⟨[(t,some o)],0,[]⟩
abbrev rn1 (t:Nat):Reads:=⟨[(t,none)],0,[]⟩
abbrev no:Option Nat:=none
abbrev so (n:Nat):Option Nat:=some n
abbrev rq1 (t g p:Nat):Reads:=⟨[(t,none),(g,some p)],g,[]⟩
abbrev rg1 (t o g p:Nat):Reads:=⟨[(t,some o),(g,some p)],g,[]⟩
theorem evs (f:Nat→Value):(∀t,evalOf f (.tmp t)=f t)∧(∀c,evalOf f (.const c)=c)∧∀g,evalOf f (.func g)= .func (.func g) #[] #[]:=⟨fun _=>rfl,fun _=>rfl,fun _=>rfl⟩
theorem grown_of_below {w w':World} (h:Below w.heap.size w w') (row:Option Nat):w.grownBy w' row:=⟨h.os,h.tape,h.output,h.size,fun k hk _=>h.block k hk⟩
theorem own_below {w w':World} {base:Nat} {e:TypeId} {size:Nat} {v:Value} {n:Nat} {xs:List Value} (h:w.ownsRow base e size v n xs) (hb:Below w.heap.size w w'):w'.ownsRow base e size v n xs:=by
 refine h.kept (grown_of_below hb none) ?_;cases v.ownBlock
 ·exact .inl rfl
 ·exact .inr (by simp)
theorem own_other {w w':World} {base base':Nat} {e e':TypeId} {size size':Nat} {v v':Value} {n n':Nat} {xs xs':List Value} (h:w.ownsRow base e size v n xs) (h':w.ownsRow base' e' size' v' n' xs') (hne:e≠e')
  (hg:w.grownBy w' v'.ownBlock):w'.ownsRow base e size v n xs:=by
 refine h.kept hg ?_;rcases h.2 with⟨rfl,_⟩| ⟨g,cap,cur,rfl,_,hh,_⟩
 ·exact .inl rfl
 ·right;rcases h'.2 with⟨rfl,_⟩| ⟨g',cap',cur',rfl,_,hh',_⟩
  ·simp[Value.ownBlock]
  ·intro he
   have:g=g':=by simpa[Value.ownBlock]using he
   subst this;rw[hh]at hh';injection hh' with h1;injection h1 with _ h2;exact hne h2
theorem own_base {w:World} {base base':Nat} {e:TypeId} {size:Nat} {v:Value} {n:Nat} {xs:List Value} (h:w.ownsRow base e size v n xs) (hB:base'≤base):w.ownsRow base' e size v n xs:=by
 refine⟨h.1,?_⟩;rcases h.2 with h2| ⟨g,cap,cur,h3,h4,h5⟩
 ·exact .inl h2
 ·exact .inr ⟨g,cap,cur,h3,by omega,h5⟩
section
variable {P:Program} (w:World)
theorem run_append_empty (base:Nat) (t ty e:TypeId) (i:TypeInfo) (size:Nat) (ht:P.underlying t=some (.slice e)) (hi:P.info? e=some i)
  (v:Value) (n:Nat) (xs:List Value) (hown:w.ownsRow base e size v n xs) (c:Nat):(Builtin.append_ #[t,t] ty #[v,.slice none 0 c]).run P w= .ok v w:=by
 rcases hown.2 with⟨rfl,_⟩| ⟨g,cap,cur,rfl,_,_,hnc,_⟩
 ·simp[Builtin.append_,run_underlying ht,sizeOf,typeInfo,hi,Builtin.lenOf,Builtin.firstCells]
 ·simp[Builtin.append_,run_underlying ht,sizeOf,typeInfo,hi,Builtin.lenOf,Builtin.firstCells,hnc,storeCells]
end
theorem Row.one (w:World) (t:TypeId) (x:Value):Row (w.alloc (.cells #[x] t)) (w.alloc (.cells #[x] t)).heap.size (some ⟨w.heap.size,0,none⟩) [x]:=Row.fresh w t [x]
def Keeps (B:Nat) (e:TypeId) (w w':World):Prop:=∀v n xs,w.ownsRow B e 1 v n xs→w'.ownsRow B e 1 v n xs
theorem Keeps.refl (B:Nat) (e:TypeId) (w:World):Keeps B e w w:=fun _ _ _ h=>h
theorem Keeps.below {B:Nat} {e:TypeId} {w w':World} (hb:Below w.heap.size w w'):Keeps B e w w':=fun _ _ _ h=>own_below h hb
theorem Keeps.other {B B':Nat} {e e':TypeId} {w w':World} {v:Value} {n:Nat} {xs:List Value} (h:w.ownsRow B' e' 1 v n xs) (hne:e≠e') (hg:w.grownBy w' v.ownBlock):Keeps B e w w':=fun _ _ _ h'=>own_other h' h hne hg
def Apart2 (b c:Option Nat) (w w':World):Prop:=∀k,k<w.heap.size→some k≠b→some k≠c→w'.heap[k]? =w.heap[k]?
theorem Apart2.refl (b c:Option Nat) (w:World):Apart2 b c w w:=fun _ _ _ _=>rfl
theorem Apart2.below {b c:Option Nat} {w w':World} (hb:Below w.heap.size w w'):Apart2 b c w w':=fun k hk _ _=>hb.block k hk
theorem Apart2.left {b c:Option Nat} {w w':World} (hg:w.grownBy w' b):Apart2 b c w w':=fun k hk h _=>hg.block k hk h
theorem Apart2.right {b c:Option Nat} {w w':World} (hg:w.grownBy w' c):Apart2 b c w w':=fun k hk _ h=>hg.block k hk h
theorem own_lt {w:World} {base:Nat} {e:TypeId} {size:Nat} {v:Value} {n:Nat} {xs:List Value} (h:w.ownsRow base e size v n xs) {k:Nat} (hk:w.heap.size≤k):some k≠v.ownBlock:=fun e=>by
 have:=h.lt k e.symm;omega
structure Writes (M:List (Option Nat)) (w w':World):Prop where
 os:w'.os=w.os
 tape:w'.tape=w.tape
 output:w'.output=w.output
 size:w.heap.size≤w'.heap.size
 block:∀k,k<w.heap.size→some k∉M→w'.heap[k]? =w.heap[k]?
section
variable {M M':List (Option Nat)} {w w' w'':World}
theorem Writes.refl (M:List (Option Nat)) (w:World):Writes M w w:=⟨rfl,rfl,rfl,Nat.le_refl _,fun _ _ _=>rfl⟩
theorem Writes.of_below (h:Below w.heap.size w w') (M:List (Option Nat)):Writes M w w':=⟨h.os,h.tape,h.output,h.size,fun k hk _=>h.block k hk⟩
theorem Writes.of_grown {r:Option Nat} (h:w.grownBy w' r) (hr:r∈M):Writes M w w':=⟨h.os,h.tape,h.output,h.size,fun k hk hn=>h.block k hk (fun e=>hn (by rw[e];exact hr))⟩
theorem Writes.store (w:World) {p:Addr} (hp:some p.block∈M) (u:Value):Writes M w (w.setCell p u):=
 ⟨rfl,rfl,rfl,by simp[World.setCell],fun k _ hn=>Below.heap_setCell w p u k (fun e=>hn (by rw[e];exact hp))⟩
theorem Writes.alloc (M:List (Option Nat)) (w:World) (o:Obj):Writes M w (w.alloc o):= .of_below (below_new w o) M
theorem Writes.then_ (h:Writes M w w') (h':Writes M' w' w'') (hM:∀k,k<w.heap.size→some k∈M'→some k∈M):Writes M w w'':=
 ⟨h'.os.trans h.os,h'.tape.trans h.tape,h'.output.trans h.output,Nat.le_trans h.size h'.size,fun k hk hn=>
  (h'.block k (Nat.lt_of_lt_of_le hk h.size) (fun e=>hn (hM k hk e))).trans (h.block k hk hn)⟩
theorem Writes.trans (h:Writes M w w') (h':Writes M w' w''):Writes M w w'':=h.then_ h' fun _ _ e=>e
theorem Writes.more (h:Writes M w w') (hM:∀b∈M,b∈M'):Writes M' w w':=⟨h.os,h.tape,h.output,h.size,fun k hk hn=>h.block k hk (fun e=>hn (hM _ e))⟩
theorem Writes.below {B:Nat} (h:Writes M w w') (hB:B≤w.heap.size) (hM:∀k,some k∈M→B≤k):Below B w w':=
 ⟨h.os,h.tape,h.output,h.size,fun k hk=>h.block k (by omega) (fun e=>by have:=hM k e;omega)⟩
theorem Writes.heap (h:Writes M w w') {g:Nat} {o:Obj} (hg:w.heap[g]? =some o) (hn:some g∉M):w'.heap[g]? =some o:=
 (h.block g (Array.getElem?_eq_some_iff.1 hg).1 hn).trans hg
theorem Writes.holds (h:Writes M w w') {g:Nat} {t:TypeId} {cs:Array Value} (hg:Holds w g t cs) (hn:some g∉M):Holds w' g t cs:=h.heap hg hn
theorem Writes.own (h:Writes M w w') {B:Nat} {e:TypeId} {v:Value} {n:Nat} {xs:List Value} {size:Nat} (ho:w.ownsRow B e size v n xs) (hn:v.ownBlock=none∨v.ownBlock∉M):w'.ownsRow B e size v n xs:=by
 refine⟨ho.1,?_⟩;rcases ho.2 with h1| ⟨g,cap,cur,rfl,hb,hg,r⟩
 ·exact .inl h1
 ·refine .inr ⟨g,cap,cur,rfl,hb,h.heap hg ?_,r⟩;rcases hn with hn|hn
  ·simp[Value.ownBlock]at hn
  ·exact hn
def blk (A:Option Addr):Option Nat:=A.map (·.block)
theorem Writes.row (h:Writes M w w') {B:Nat} {A:Option Addr} {vs:List Value} (hr:Row w B A vs) (hB:B≤w.heap.size) (hn:vs≠[]→blk A∉M):Row w' B A vs:=fun hne=>by
 obtain⟨b,off,rfl,hb,hc⟩:=hr hne;refine⟨b,off,rfl,hb,fun j u hu=> ?_⟩;have:=h.block b (by omega) (hn hne);rw[←hc j u hu];exact World.cell?_of_block this
end
end Go.Proofs.YtpndglghpojjkaaGreat
namespace Go.Proofs.YtpndglghpojjkaaGreat
open Go.RowKit Go.Sort
section
variable {α:Type} [Inhabited α] {enc:α→List Value} {k:Nat}
theorem flatE_get (hk:∀x,(enc x).length=k) (k0:0<k):∀(l:List α) (j:Nat),j<l.length*k→(l.flatMap enc)[j]? =some (enc l.toArray[j/k]!)[j%k]!
 | [],j,h=>by simp at h
 |x::r,j,h=>by
  rw[List.flatMap_cons];rcases Nat.lt_or_ge j k with h1|h1
  ·rw[List.getElem?_append_left (by rw[hk];exact h1),Nat.div_eq_of_lt h1,Nat.mod_eq_of_lt h1,List.getElem?_eq_getElem (by rw[hk];exact h1)];simp[hk,h1]
  ·obtain⟨i,rfl⟩:∃i,j=i+k:=⟨j-k,by omega⟩
   have hi:i<r.length*k:=by rw[List.length_cons,Nat.add_mul,Nat.one_mul]at h;omega
   rw[List.getElem?_append_right (by rw[hk];exact h1),hk,Nat.add_sub_cancel,flatE_get hk k0 r i hi,Nat.add_div_right _ k0,Nat.add_mod_right];have hd:i/k<r.length:=(Nat.div_lt_iff_lt_mul k0).2 hi;simp[hd]
omit [Inhabited α]in
theorem flatE_len (hk:∀x,(enc x).length=k) (l:List α):(l.flatMap enc).length=l.length*k:=by
 induction l with
 |nil=>simp
 |cons x r ih=>rw[List.flatMap_cons,List.length_append,ih,hk,List.length_cons,Nat.add_mul,Nat.one_mul,Nat.add_comm]
theorem flatK_list (hk:∀x,(enc x).length=k) (k0:0<k) (d:Array α):(flatK enc k d).toList=d.toList.flatMap enc:=by
 have hl:(d.toList.flatMap enc).length=d.size*k:=by rw[flatE_len hk];simp
 refine List.ext_getElem? fun j=> ?_;by_cases hj:j<d.size*k
 ·rw[flatE_get hk k0 d.toList j (by simpa using hj)];have:=get_flatK enc k d j hj;rw[Array.getElem?_toList,Array.getElem?_eq_getElem (by simpa using hj)];rw[getElem!_pos _ j (by simpa using hj)]at this;rw[this]
 ·rw[List.getElem?_eq_none (by simp;omega),List.getElem?_eq_none (by omega)]
theorem own_holdsK (hk:∀x,(enc x).length=k) (k0:0<k) {w:World} {B:Nat} {e:TypeId} {v:Value} {n:Nat} {l:List α} (h:w.ownsRow B e k v n (l.flatMap enc)) (hv:v≠.slice none 0 0):
  ∃g cap,v= .slice (some ⟨g,0,none⟩) n cap∧B≤g∧g<w.heap.size∧n≤cap∧l.length=n∧HoldsK enc k w g 0 l.toArray:=by
 have hl:l.length=n:=by have h1:=h.1;rw[flatE_len hk]at h1;exact Nat.eq_of_mul_eq_mul_right k0 h1
 rcases h.2 with⟨e0,_⟩| ⟨g,cap,cur,rfl,hb,hg,hn,hm,hs,ht⟩
 ·exact absurd e0 hv
 ·refine⟨g,cap,rfl,hb,(Array.getElem?_eq_some_iff.1 hg).1,hn,hl,fun j hj=>⟨?_,by simp[World.frozen?,hg]⟩⟩
  have hj2:j<l.length*k:=by simpa using hj
  have e1:(cur.toList.take (n*k))[j]? =(l.flatMap enc)[j]? :=by rw[ht]
  rw[List.getElem?_take,if_pos (by rw[←hl];exact hj2),flatE_get hk k0 l j hj2,Array.getElem?_toList]at e1;simp only[World.cell?,hg,Nat.zero_add,id];simp only[Option.isSome_none,Bool.false_eq_true,if_false];rw[e1,get_flatK _ _ _ _ (by simpa using hj2)]
theorem holdsK_row (hk:∀x,(enc x).length=k) (k0:0<k) {w:World} {g:Nat} {d:Array α} (h:HoldsK enc k w g 0 d) (hg:g<w.heap.size):Row w w.heap.size (some ⟨g,0,none⟩) (d.toList.flatMap enc):=fun _=>by
 refine⟨g,0,rfl,hg,fun j u hu=> ?_⟩;rw[←flatK_list hk k0 d,Array.getElem?_toList]at hu;obtain⟨hj,e⟩:=Array.getElem?_eq_some_iff.1 hu;have:=(h j hj).1;rw[getElem!_pos _ j hj,e]at this;exact this
theorem sorted_writes (w:World) (g m:Nat) (d:Array α) (os:Array Obj):Writes [some g] w (sortWorldK enc k w g 0 m d os):=by
 refine⟨rfl,rfl,rfl,?_,fun j hj hn=> ?_⟩
 ·unfold sortWorldK;rw[size_grow,size_putRowK];exact Nat.le_add_right _ _
 ·unfold sortWorldK;rw[heap_grow_old _ _ (by rw[size_putRowK];exact hj)];have hne:g≠j:=fun e=>hn (by simp[e]);simp only[putRowK,putRow,mapBlock,Array.getElem?_modify];rw[if_neg hne];rfl
theorem grown_writes (M:List (Option Nat)) (w:World) (n:Nat) (os:Array Obj):Writes M w (grow (w.drewN n) os):=by
 refine⟨rfl,rfl,rfl,?_,fun j hj _=> ?_⟩
 ·rw[size_grow];exact Nat.le_add_right _ _
 ·rw[heap_grow_old _ _ (by exact hj)];rfl
end
theorem cmpB_lt:∀a b:List UInt8,Lib.compareBytes a b<0↔a<b
 | [],[]=>by simp[Lib.compareBytes]
 | [],_::_=>by simp[Lib.compareBytes]
 |_::_,[]=>by simp[Lib.compareBytes]
 |a::r,b::s=>by
  unfold Lib.compareBytes;rw[List.cons_lt_cons_iff];by_cases h1:a<b
  ·rw[if_pos h1];simp[h1]
  ·rw[if_neg h1];by_cases h2:b<a
   ·rw[if_pos h2]
    have h3:a≠b:=fun e=>by subst e;exact h1 h2
    simp[h1,h3]
   ·rw[if_neg h2,cmpB_lt r s]
    have h3:a=b:=by rw[UInt8.lt_iff_toNat_lt]at h1 h2;exact UInt8.toNat_inj.1 (by omega)
    subst h3;simp[h1]
theorem bl_le {x y:List UInt8} (h:¬x<y):y≤x:=h
theorem bl_lt {x y:List UInt8} (h:¬y<x) (hne:x≠y):x<y:=by
 rcases Classical.em (x<y)with h1|h1
 ·exact h1
 ·exact absurd (List.le_antisymm (bl_le h) (bl_le h1)) hne
theorem sort_up {α:Type} [Inhabited α] (key:α→List UInt8) (lt:α→α→Bool) (hlt:∀x y,lt x y=decide (key x<key y)) (l:List α) (hn:(l.map key).Nodup):
  (Sort.insertionSort lt l.toArray 0 l.length).toList.Perm l∧((Sort.insertionSort lt l.toArray 0 l.length).toList.map key).Pairwise (·<·)∧(Sort.insertionSort lt l.toArray 0 l.length).size=l.length:=by
 have hS:SWO lt:=⟨fun x=>by rw[hlt];simp[List.lt_irrefl],fun x y z h1 h2=>by
   rw[hlt]at h1 h2⊢;simp only[decide_eq_true_eq]at h1 h2⊢
   exact List.lt_trans h1 h2,fun x y z h1 h2=>by
   rw[hlt]at h1 h2⊢;simp only[decide_eq_false_iff_not]at h1 h2⊢
   exact fun h3=>absurd (List.le_trans (bl_le h2) (bl_le h1)) (fun h4=>h4 h3)⟩
 obtain⟨⟨hs,-,hp⟩,hso⟩:=insertionSort_holds hS l.toArray 0 l.length (Nat.zero_le _) (by simp);generalize Sort.insertionSort lt l.toArray 0 l.length=d at hs hp hso⊢
 have hs':d.size=l.length:=by simpa using hs
 have e1:d.extract 0 l.length=d:=by rw[←hs'];exact Array.extract_size
 have e2:l.toArray.extract 0 l.length=l.toArray:=by
  have:l.length=l.toArray.size:=by simp
  rw[this];exact Array.extract_size
 rw[e1,e2]at hp
 have hp':d.toList.Perm l:=by simpa using hp
 refine⟨hp',?_,hs'⟩;have hnd:(d.toList.map key).Nodup:=(hp'.map key).nodup_iff.2 hn;rw[List.pairwise_iff_getElem];intro i j hi hj hij
 have hi2:i<d.size:=by simpa using hi
 have hj2:j<d.size:=by simpa using hj
 have h1:=hso i j (Nat.zero_le _) hij (by omega);rw[hlt,getElem!_pos d j hj2,getElem!_pos d i hi2]at h1;simp only[decide_eq_false_iff_not]at h1
 have h2:key d[i]≠key d[j]:=by have:=List.pairwise_iff_getElem.1 hnd i j hi hj hij;simpa using this
 have:=bl_lt h1 h2;simpa using this
theorem ltN_eq (x y:NRw):ltOf cfN x y=decide (nmB x.nm<nmB y.nm):=by
 unfold ltOf cfN;exact decide_eq_decide.2 (cmpB_lt _ _)
theorem ltP_eq (x y:PRw):ltOf cfP x y=decide (nmB x.nm<nmB y.nm):=by
 unfold ltOf cfP;exact decide_eq_decide.2 (cmpB_lt _ _)
theorem up_ne {α:Type} [Inhabited α] (nm:α→ByteArray) {d:Array α} (h:(d.toList.map fun x=>nmB (nm x)).Pairwise (·<·)) (i:Nat) (hi:i+1<d.size):nm d[i+1]! ≠nm d[i]! :=by
 have:=List.pairwise_iff_getElem.1 h i (i+1) (by simp;omega) (by simpa using hi) (by omega);rw[getElem!_pos d (i+1) hi,getElem!_pos d i (by omega)];intro e;simp only[List.getElem_map,Array.getElem_toList]at this;rw[e]at this;exact List.lt_irrefl _ this
end Go.Proofs.YtpndglghpojjkaaGreat
namespace Go.Proofs.YtpndglghpojjkaaGreat
open Go.RowKit Go.Sort Go.Shelf
theorem insNilN_any (fv:Value) (w:World):Calls Tryz.prog 186 #[.slice none 0 0,.int .i64 0,.int .i64 0,fv] w fun e w'=>e= .returned (.tuple #[])∧w'=w:=by
 go_enter Tryz.func186,Tryz.ntmps186
 go_wp2
 refine wp_loop_rounds 1 ?_;rw[rounds_succ]
 go_wp2
 go_end0;exact⟨rfl,rfl⟩
theorem stableNilN_any (fv:Value) (w:World):Calls Tryz.prog 163 #[.slice none 0 0,.int .i64 0,fv] w fun e w'=>e= .returned (.tuple #[])∧w'=w:=by
 go_enter Tryz.func163,Tryz.ntmps163;go_wp2_with fail;refine wp_loop_rounds 1 ?_;rw[rounds_succ];go_wp2_with fail;refine(insNilN_any fv w).mono ?_;rintro e w2 ⟨rfl,rfl⟩;go_wp2_with fail;refine wp_loop_rounds 1 ?_;rw[rounds_succ];go_wp2_with fail;go_end0;exact⟨rfl,rfl⟩
theorem sortNilN_any (fv:Value) (w:World):Calls Tryz.prog 119 #[.slice none 0 0,fv] w fun e w'=>e= .returned (.tuple #[])∧w'=w:=by
 go_enter Tryz.func119,Tryz.ntmps119;go_wp2_with fail;refine(stableNilN_any fv w).mono ?_;rintro e w2 ⟨rfl,rfl⟩;go_wp2_with fail;go_end0;exact⟨rfl,rfl⟩
theorem compactNilN_any (fv:Value) (w:World):Calls Tryz.prog 122 #[.slice none 0 0,fv] w fun e w'=>e= .returned (.slice none 0 0)∧w'=w:=by
 go_enter Tryz.func122,Tryz.ntmps122;go_wp2_with fail;go_ret;exact⟨rfl,rfl⟩
theorem distinctN_any (w0:World) (B:Nat) (v:Value) (l:List NRw) (ho:w0.ownsRow B 128 4 v l.length (l.flatMap encN)) (hn:(l.map fun x=>nmB x.nm).Nodup) (hl:l.length<20):
  Calls Tryz.prog 71 #[v,.func (.func 72) #[] #[]] w0 fun e w'=>∃(A:Option Addr) (c:Nat) (l':List NRw),e= .returned (.slice A l.length c)∧l'.Perm l∧(l'.map fun x=>nmB x.nm).Pairwise (·<·)∧
   Row w' w'.heap.size A (l'.flatMap encN)∧blk A=v.ownBlock∧Writes [v.ownBlock] w0 w':=by
 have hw1:Writes [v.ownBlock] w0 (w0.alloc (.cells #[.func (.func 72) #[] #[]] 138)):=Writes.alloc _ _ _;have hH1:=Holds.new w0 138 #[.func (.func 72) #[] #[]];have hbx:Hid (Box (w0.alloc (.cells #[.func (.func 72) #[] #[]] 138)) w0.heap.size 72):=zi ⟨hH1.lt,hH1.cell 0⟩;by_cases hv:v= .slice none 0 0
 ·subst hv
  have hl0:l= []:=by
   rcases ho.2 with⟨-,h⟩| ⟨g,cap,cur,h,_⟩
   ·exact List.eq_nil_of_length_eq_zero h
   ·cases h
  subst hl0;clear ho hH1 hbx;go_enter Tryz.func71,Tryz.ntmps71;go_wp2_with fail;generalize w0.alloc (.cells #[.func (.func 72) #[] #[]] 138)=w1 at hw1⊢;have hw1:=zi hw1;refine(sortNilN_any _ _).mono ?_;rintro e w2 ⟨rfl,rfl⟩;go_wp2_with fail;refine(compactNilN_any _ _).mono ?_;rintro e w4 ⟨rfl,rfl⟩;go_wp2_with fail;go_ret;exact⟨none,0,[],rfl,List.Perm.refl _,List.Pairwise.nil,Row.nil_ _ _ _,rfl,hw1.out⟩
 ·obtain⟨g,cap,rfl,hBg,hg,hnc,-,hH⟩:=own_holdsK (k:=4) (enc:=encN) (fun _=>rfl) (by decide) ho hv
  have hgb:w0.heap.size≠g:=by omega
  obtain⟨hs1,hs2,hs3⟩:=sort_up (fun x:NRw=>nmB x.nm) (ltOf cfN) ltN_eq l hn
  have hHa:HoldsK encN 4 (w0.alloc (.cells #[.func (.func 72) #[] #[]] 138)) g 0 l.toArray:=by rw[alloc_eq_grow];exact holdsK_grow encN 4 w0 _ g 0 _ hg hH
  clear ho hv hH hH1;have hg1:g<(w0.alloc (.cells #[.func (.func 72) #[] #[]] 138)).heap.size:=Nat.lt_of_lt_of_le hg (below_new w0 _).size;obtain⟨w1,hw⟩:∃y,y=w0.alloc (.cells #[.func (.func 72) #[] #[]] 138):=⟨_,rfl⟩;rw[←hw]at hHa hg1 hbx hw1;have hsrt:=sortN_any g 0 cap w0.heap.size l.toArray w1 hbx.out hgb hHa hg1 (by simpa using hl);rw[show l.toArray.size=l.length by simp]at hsrt;obtain⟨d,hd⟩:∃y,y=Sort.insertionSort (ltOf cfN) l.toArray 0 l.length:=⟨_,rfl⟩;rw[←hd]at hsrt hs1 hs2 hs3;have hcmp:=fun(n:Nat) (os:Array Obj)=>compactN_any g 0 cap w0.heap.size d (sortWorldK encN 4 w1 g 0 n d os) (hbx.out.sorted hgb n d os) (holdsK_sortWorldK_c encN 4 w1 g 0 l.toArray d n os hHa hg1 (by simp[hs3])) (Nat.lt_of_lt_of_le hg1 (size_sortWorldK_c encN 4 w1 g 0 n d os)) (by omega) (up_ne (fun x:NRw=>x.nm) hs2);rw[hs3]at hcmp
  have hfin:Hid (∀(n:Nat) (os:Array Obj) (q:Nat) (os2:Array Obj),Row (grow ((sortWorldK encN 4 w1 g 0 n d os).drewN q) os2) (grow ((sortWorldK encN 4 w1 g 0 n d os).drewN q) os2).heap.size (some ⟨g,0,none⟩) (d.toList.flatMap encN)∧Writes [some g] w0 (grow ((sortWorldK encN 4 w1 g 0 n d os).drewN q) os2)):=zi fun n os q os2=>by have h1:=holdsK_sortWorldK_c encN 4 w1 g 0 l.toArray d n os hHa hg1 (by simp[hs3]);have h2:g<(sortWorldK encN 4 w1 g 0 n d os).heap.size:=Nat.lt_of_lt_of_le hg1 (size_sortWorldK_c encN 4 w1 g 0 n d os);refine⟨holdsK_row (enc:=encN) (k:=4) (fun _=>rfl) (by decide) (holdsK_grow encN 4 _ os2 g 0 d h2 (holdsK_ahead encN 4 _ q g 0 d h1)) (by rw[size_grow];exact Nat.lt_of_lt_of_le h2 (Nat.le_add_right _ _)),?_⟩;exact(hw1.trans (sorted_writes w1 g n d os)).trans (grown_writes _ _ q os2)
  have hsrt:=zi hsrt;have hcmp:=zi hcmp;have hP:=zi hs1;have hU:=zi hs2;have hw':=zi hw;clear hHa hg1 hbx hw1 hs1 hs2 hs3 hd hw;go_enter Tryz.func71,Tryz.ntmps71;go_wp2_with fail;rw[←hw'.out];refine hsrt.out.mono ?_;rintro e w2 ⟨rfl,n,os,rfl⟩;have hcmp:=zi (hcmp.out n os);go_wp2_with fail;refine hcmp.out.mono ?_;rintro e w3 ⟨rfl,q,os2,rfl⟩;go_wp2_with fail;go_ret;obtain⟨f1,f2⟩:=hfin.out n os q os2;exact⟨_,_,d.toList,rfl,hP.out,hU.out,f1,rfl,f2⟩
theorem insNilP_any (fv:Value) (w:World):Calls Tryz.prog 189 #[.slice none 0 0,.int .i64 0,.int .i64 0,fv] w fun e w'=>e= .returned (.tuple #[])∧w'=w:=by
 go_enter Tryz.func189,Tryz.ntmps189
 go_wp2
 refine wp_loop_rounds 1 ?_;rw[rounds_succ]
 go_wp2
 go_end0;exact⟨rfl,rfl⟩
theorem stableNilP_any (fv:Value) (w:World):Calls Tryz.prog 165 #[.slice none 0 0,.int .i64 0,fv] w fun e w'=>e= .returned (.tuple #[])∧w'=w:=by
 go_enter Tryz.func165,Tryz.ntmps165;go_wp2_with fail;refine wp_loop_rounds 1 ?_;rw[rounds_succ];go_wp2_with fail;refine(insNilP_any fv w).mono ?_;rintro e w2 ⟨rfl,rfl⟩;go_wp2_with fail;refine wp_loop_rounds 1 ?_;rw[rounds_succ];go_wp2_with fail;go_end0;exact⟨rfl,rfl⟩
theorem sortNilP_any (fv:Value) (w:World):Calls Tryz.prog 124 #[.slice none 0 0,fv] w fun e w'=>e= .returned (.tuple #[])∧w'=w:=by
 go_enter Tryz.func124,Tryz.ntmps124;go_wp2_with fail;refine(stableNilP_any fv w).mono ?_;rintro e w2 ⟨rfl,rfl⟩;go_wp2_with fail;go_end0;exact⟨rfl,rfl⟩
theorem compactNilP_any (fv:Value) (w:World):Calls Tryz.prog 126 #[.slice none 0 0,fv] w fun e w'=>e= .returned (.slice none 0 0)∧w'=w:=by
 go_enter Tryz.func126,Tryz.ntmps126;go_wp2_with fail;go_ret;exact⟨rfl,rfl⟩
theorem distinctP_any (w0:World) (B:Nat) (v:Value) (l:List PRw) (ho:w0.ownsRow B 132 3 v l.length (l.flatMap encP)) (hn:(l.map fun x=>nmB x.nm).Nodup) (hl:l.length<20):
  Calls Tryz.prog 73 #[v,.func (.func 74) #[] #[]] w0 fun e w'=>∃(A:Option Addr) (c:Nat) (l':List PRw),e= .returned (.slice A l.length c)∧l'.Perm l∧(l'.map fun x=>nmB x.nm).Pairwise (·<·)∧
   Row w' w'.heap.size A (l'.flatMap encP)∧blk A=v.ownBlock∧Writes [v.ownBlock] w0 w':=by
 have hw1:Writes [v.ownBlock] w0 (w0.alloc (.cells #[.func (.func 74) #[] #[]] 140)):=Writes.alloc _ _ _;have hH1:=Holds.new w0 140 #[.func (.func 74) #[] #[]];have hbx:Hid (Box (w0.alloc (.cells #[.func (.func 74) #[] #[]] 140)) w0.heap.size 74):=zi ⟨hH1.lt,hH1.cell 0⟩;by_cases hv:v= .slice none 0 0
 ·subst hv
  have hl0:l= []:=by
   rcases ho.2 with⟨-,h⟩| ⟨g,cap,cur,h,_⟩
   ·exact List.eq_nil_of_length_eq_zero h
   ·cases h
  subst hl0;clear ho hH1 hbx;go_enter Tryz.func73,Tryz.ntmps73;go_wp2_with fail;generalize w0.alloc (.cells #[.func (.func 74) #[] #[]] 140)=w1 at hw1⊢;have hw1:=zi hw1;refine(sortNilP_any _ _).mono ?_;rintro e w2 ⟨rfl,rfl⟩;go_wp2_with fail;refine(compactNilP_any _ _).mono ?_;rintro e w4 ⟨rfl,rfl⟩;go_wp2_with fail;go_ret;exact⟨none,0,[],rfl,List.Perm.refl _,List.Pairwise.nil,Row.nil_ _ _ _,rfl,hw1.out⟩
 ·obtain⟨g,cap,rfl,hBg,hg,hnc,-,hH⟩:=own_holdsK (k:=3) (enc:=encP) (fun _=>rfl) (by decide) ho hv
  have hgb:w0.heap.size≠g:=by omega
  obtain⟨hs1,hs2,hs3⟩:=sort_up (fun x:PRw=>nmB x.nm) (ltOf cfP) ltP_eq l hn
  have hHa:HoldsK encP 3 (w0.alloc (.cells #[.func (.func 74) #[] #[]] 140)) g 0 l.toArray:=by rw[alloc_eq_grow];exact holdsK_grow encP 3 w0 _ g 0 _ hg hH
  clear ho hv hH hH1;have hg1:g<(w0.alloc (.cells #[.func (.func 74) #[] #[]] 140)).heap.size:=Nat.lt_of_lt_of_le hg (below_new w0 _).size;obtain⟨w1,hw⟩:∃y,y=w0.alloc (.cells #[.func (.func 74) #[] #[]] 140):=⟨_,rfl⟩;rw[←hw]at hHa hg1 hbx hw1;have hsrt:=sortP_any g 0 cap w0.heap.size l.toArray w1 hbx.out hgb hHa hg1 (by simpa using hl);rw[show l.toArray.size=l.length by simp]at hsrt;obtain⟨d,hd⟩:∃y,y=Sort.insertionSort (ltOf cfP) l.toArray 0 l.length:=⟨_,rfl⟩;rw[←hd]at hsrt hs1 hs2 hs3;have hcmp:=fun(n:Nat) (os:Array Obj)=>compactP_any g 0 cap w0.heap.size d (sortWorldK encP 3 w1 g 0 n d os) (hbx.out.sorted hgb n d os) (holdsK_sortWorldK_c encP 3 w1 g 0 l.toArray d n os hHa hg1 (by simp[hs3])) (Nat.lt_of_lt_of_le hg1 (size_sortWorldK_c encP 3 w1 g 0 n d os)) (by omega) (up_ne (fun x:PRw=>x.nm) hs2);rw[hs3]at hcmp
  have hfin:Hid (∀(n:Nat) (os:Array Obj) (q:Nat) (os2:Array Obj),Row (grow ((sortWorldK encP 3 w1 g 0 n d os).drewN q) os2) (grow ((sortWorldK encP 3 w1 g 0 n d os).drewN q) os2).heap.size (some ⟨g,0,none⟩) (d.toList.flatMap encP)∧Writes [some g] w0 (grow ((sortWorldK encP 3 w1 g 0 n d os).drewN q) os2)):=zi fun n os q os2=>by have h1:=holdsK_sortWorldK_c encP 3 w1 g 0 l.toArray d n os hHa hg1 (by simp[hs3]);have h2:g<(sortWorldK encP 3 w1 g 0 n d os).heap.size:=Nat.lt_of_lt_of_le hg1 (size_sortWorldK_c encP 3 w1 g 0 n d os);refine⟨holdsK_row (enc:=encP) (k:=3) (fun _=>rfl) (by decide) (holdsK_grow encP 3 _ os2 g 0 d h2 (holdsK_ahead encP 3 _ q g 0 d h1)) (by rw[size_grow];exact Nat.lt_of_lt_of_le h2 (Nat.le_add_right _ _)),?_⟩;exact(hw1.trans (sorted_writes w1 g n d os)).trans (grown_writes _ _ q os2)
  have hsrt:=zi hsrt;have hcmp:=zi hcmp;have hP:=zi hs1;have hU:=zi hs2;have hw':=zi hw;clear hHa hg1 hbx hw1 hs1 hs2 hs3 hd hw;go_enter Tryz.func73,Tryz.ntmps73;go_wp2_with fail;rw[←hw'.out];refine hsrt.out.mono ?_;rintro e w2 ⟨rfl,n,os,rfl⟩;have hcmp:=zi (hcmp.out n os);go_wp2_with fail;refine hcmp.out.mono ?_;rintro e w3 ⟨rfl,q,os2,rfl⟩;go_wp2_with fail;go_ret;obtain⟨f1,f2⟩:=hfin.out n os q os2;exact⟨_,_,d.toList,rfl,hP.out,hU.out,f1,rfl,f2⟩
end Go.Proofs.YtpndglghpojjkaaGreat
namespace Go.Proofs.YtpndglghpojjkaaGreat
abbrev S:=List UInt8
instance:Inhabited S:=⟨[]⟩
theorem lt_of_le_ne {x y:S} (h:x≤y) (hne:x≠y):x<y:=by
 rcases Classical.em (x<y)with h1|h1
 ·exact h1
 ·exact absurd (List.le_antisymm h (show y≤x from h1)) hne
theorem lt_of_le_lt {x y z:S} (h:x≤y) (h2:y<z):x<z:=by
 rcases Classical.em (x<z)with h1|h1
 ·exact h1
 ·exact absurd h2 (fun h3=>absurd (List.le_trans (show z≤x from h1) h) (fun h4=>h4 h3))
def Up (l:List S):Prop:=l.Pairwise (·<·)
theorem Up.ext:∀{l l':List S},Up l→Up l'→(∀x,x∈l↔x∈l')→l=l'
 | [],[],_,_,_=>rfl
 | [],y::l',_,_,h=>by have:=(h y).2 (List.mem_cons_self ..);cases this
 |x::l,[],_,_,h=>by have:=(h x).1 (List.mem_cons_self ..);cases this
 |x::l,y::l',hu,hu',h=>by
  obtain⟨h1,h2⟩:=List.pairwise_cons.1 hu;obtain⟨h3,h4⟩:=List.pairwise_cons.1 hu'
  have e:x=y:=by
   rcases List.mem_cons.1 ((h x).1 (List.mem_cons_self ..))with e|e
   ·exact e
   ·rcases List.mem_cons.1 ((h y).2 (List.mem_cons_self ..))with e'|e'
    ·exact e'.symm
    ·exact absurd (List.lt_trans (h1 y e') (h3 x e)) (List.lt_irrefl x)
  subst e;congr 1;refine Up.ext h2 h4 fun z=>⟨fun hz=> ?_,fun hz=> ?_⟩
  ·rcases List.mem_cons.1 ((h z).1 (List.mem_cons_of_mem _ hz))with e|e
   ·subst e;exact absurd (h1 z hz) (List.lt_irrefl z)
   ·exact e
  ·rcases List.mem_cons.1 ((h z).2 (List.mem_cons_of_mem _ hz))with e|e
   ·subst e;exact absurd (h3 z hz) (List.lt_irrefl z)
   ·exact e
section
open Go.Lib
theorem compact_up {zs:List S} (h:zs.Pairwise (·≤·)):Up (compact zs):=by
 unfold compact compactUpTo Up;rw[List.pairwise_map];refine(List.Pairwise.filter _ (List.pairwise_lt_range (n:=zs.length))).imp_of_mem fun{i j} hi hj hij=> ?_;have hj':=List.mem_filter.1 hj;have hjl:=List.mem_range.1 hj'.1;have hk:=hj'.2;unfold keeps at hk;simp only[decide_eq_true_eq]at hk;have hne:=hk.resolve_left (by omega)
 have hg:∀k (hk:k<zs.length),zs.toArray[k]! =zs[k]:=fun k hk=>by simp[hk]
 rw[hg j hjl,hg (j-1) (by omega)]at hne;rw[hg i (by omega),hg j hjl];have h1:zs[j-1]<zs[j]:=lt_of_le_ne (List.pairwise_iff_getElem.1 h (j-1) j (by omega) hjl (by omega)) (fun e=>hne e.symm);rcases Nat.lt_or_ge i (j-1)with h2|h2
 ·exact lt_of_le_lt (List.pairwise_iff_getElem.1 h i (j-1) (by omega) (by omega) h2) h1
 ·have:i=j-1:=by omega
  subst this;exact h1
theorem mem_compact {zs:List S} {x:S}:x∈compact zs↔x∈zs:=by
 have hg:∀k (hk:k<zs.length),zs.toArray[k]! =zs[k]:=fun k hk=>by simp[hk]
 unfold compact compactUpTo;rw[List.mem_map];constructor
 ·rintro⟨j,hj,rfl⟩;have:=List.mem_range.1 (List.mem_filter.1 hj).1;rw[hg j this];exact List.getElem_mem _
 ·intro hx
  have hex:∃k,k<zs.length∧zs.toArray[k]! =x:=by obtain⟨k,hk,e⟩:=List.getElem_of_mem hx;exact⟨k,hk,by rw[hg k hk,e]⟩
  have hmin:∀n k,k<n→k<zs.length→zs.toArray[k]! =x→∃j,j<zs.length∧zs.toArray[j]! =x∧keeps zs.toArray j=true:=by
   intro n
   induction n with
   |zero=>intro k h;omega
   |succ n ih=>
    intro k hkn hk e;by_cases h0:keeps zs.toArray k=true
    ·exact⟨k,hk,e,h0⟩
    ·unfold keeps at h0;simp only[decide_eq_true_eq,not_or,Classical.not_not]at h0;exact ih (k-1) (by omega) (by omega) (by rw[←h0.2];exact e)
  obtain⟨k,hk,e⟩:=hex;obtain⟨j,h1,h2,h3⟩:=hmin (k+1) k (by omega) hk e;exact⟨j,List.mem_filter.2 ⟨List.mem_range.2 h1,h3⟩,h2⟩
def canon (l:List S):List S:=compact (l.mergeSort fun x y=>decide (x≤y))
theorem sorted_merge (l:List S):(l.mergeSort fun x y=>decide (x≤y)).Pairwise (·≤·):=by
 have:=List.pairwise_mergeSort (le:=fun x y:S=>decide (x≤y)) (fun a b c h1 h2=>by simp only[decide_eq_true_eq]at*;exact List.le_trans h1 h2) (fun a b=>by simp only[Bool.or_eq_true,decide_eq_true_eq];exact List.le_total a b) l
 exact this.imp fun h=>by simpa using h
theorem canon_up (l:List S):Up (canon l):=compact_up (sorted_merge l)
theorem mem_canon {l:List S} {x:S}:x∈canon l↔x∈l:=mem_compact.trans (List.mergeSort_perm l _).mem_iff
theorem canon_of {l l':List S} (hu:Up l') (h:∀x,x∈l↔x∈l'):canon l=l':=(canon_up l).ext hu fun x=>by rw[mem_canon];exact h x
theorem canon_len (l:List S):(canon l).length≤l.length:=by
 unfold canon;refine Nat.le_trans ?_ (Nat.le_of_eq (List.length_mergeSort (le:=fun x y:S=>decide (x≤y)) l));unfold compact compactUpTo;rw[List.length_map];refine Nat.le_trans (List.length_filter_le _ _) ?_;simp
end
def addS:List S→S→List S
 | [],x=> [x]
 |y::l,x=>if y<x then y::addS l x else if y=x then y::l else x::y::l
theorem mem_addS {l:List S} {x z:S}:z∈addS l x↔z∈l∨z=x:=by
 induction l with
 |nil=>simp[addS]
 |cons y l ih=>
  unfold addS;split
  ·simp[ih,or_assoc]
  ·split
   ·rename_i e;subst e;simp only[List.mem_cons];constructor
    ·exact .inl
    ·rintro(h|h)
     ·exact h
     ·exact .inl h
   ·simp only[List.mem_cons];constructor
    ·rintro(h|h|h)
     ·exact .inr h
     ·exact .inl (.inl h)
     ·exact .inl (.inr h)
    ·rintro((h|h)|h)
     ·exact .inr (.inl h)
     ·exact .inr (.inr h)
     ·exact .inl h
theorem addS_up {l:List S} {x:S} (h:Up l):Up (addS l x):=by
 induction l with
 |nil=>exact List.pairwise_singleton _ _
 |cons y l ih=>
  obtain⟨h1,h2⟩:=List.pairwise_cons.1 h;unfold addS;split
  ·rename_i hlt;refine List.pairwise_cons.2 ⟨fun z hz=> ?_,ih h2⟩;rcases mem_addS.1 hz with h|h
   ·exact h1 z h
   ·subst h;exact hlt
  ·split
   ·exact h
   ·rename_i h3 h4;have hxy:x<y:=lt_of_le_ne (show x≤y from h3) (fun e=>h4 e.symm);refine List.pairwise_cons.2 ⟨fun z hz=> ?_,h⟩;rcases List.mem_cons.1 hz with e|e
    ·subst e;exact hxy
    ·exact List.lt_trans hxy (h1 z e)
theorem fold_addS (l:List S):l.foldl addS []=canon l:=by
 have key:∀(l acc:List S),Up acc→Up (l.foldl addS acc)∧∀z,z∈l.foldl addS acc↔z∈acc∨z∈l:=by
  intro l
  induction l with
  |nil=>intro acc h;exact⟨h,fun z=>by simp⟩
  |cons x l ih=>
   intro acc h;obtain⟨h1,h2⟩:=ih (addS acc x) (addS_up h);refine⟨h1,fun z=> ?_⟩;rw[List.foldl_cons,h2 z,mem_addS,List.mem_cons,or_assoc]
 obtain⟨h1,h2⟩:=key l [] List.Pairwise.nil;exact((canon_of h1 fun z=>by rw[h2];simp)).symm
end Go.Proofs.YtpndglghpojjkaaGreat
namespace Go.Proofs.YtpndglghpojjkaaGreat
open Go.RowKit
theorem Tryz.infoStr:(Tryz.prog.info? 9).map (fun i=>(i.zero,i.size,i.bytes))=some (some (.string ⟨#[]⟩),1,16):=by kernel_rfl
theorem own_rowA {w:World} {base:Nat} {e:TypeId} {v:Value} {n:Nat} {xs:List Value} (h:w.ownsRow base e 1 v n xs):∃A c,v= .slice A n c∧Row w w.heap.size A xs∧n≤c:=by
 obtain⟨A,c,e,hr,_,hc⟩:=own_row h;exact⟨A,c,e,hr,hc⟩
def Lists (w:World) (B:Nat) (A:Option Addr) (ls:List (List S)):Prop:=
 ∃vs:List Value,vs.length=ls.length∧Row w B A vs∧∀i (h:i<ls.length),∃Ai ci,vs[i]? =some (.slice Ai ls[i].length ci)∧Row w B Ai (ls[i].map encStr)
theorem Lists.below {w w':World} {B:Nat} {A:Option Addr} {ls:List (List S)} (h:Lists w B A ls) (hb:Below B w w'):Lists w' B A ls:=by
 obtain⟨vs,hl,hr,hi⟩:=h
 exact⟨vs,hl,hr.below hb,fun i hlt=>by
  obtain⟨Ai,ci,h1,h2⟩:=hi i hlt
  exact⟨Ai,ci,h1,Row.below h2 hb⟩⟩
theorem Lists.at_ {w:World} {B:Nat} {A:Option Addr} {ls:List (List S)} {k:Nat} (h:Lists w B A ls) (hk:k<ls.length):
  ∃b off Ai ci,A=some ⟨b,off,none⟩∧b<B∧w.cell? ⟨b,off+k,none⟩=some (.slice Ai ls[k].length ci)∧Row w B Ai (ls[k].map encStr):=by
 obtain⟨vs,hl,hr,hi⟩:=h;obtain⟨Ai,ci,h1,h2⟩:=hi k hk;obtain⟨b,off,e,hb,hc⟩:=hr.at_ (k:=k) (by omega)
 have:vs[k]'(by omega)= .slice Ai ls[k].length ci:=by have h4:=List.getElem?_eq_getElem (l:=vs) (i:=k) (by omega);rw[h4]at h1;exact Option.some.inj h1
 exact⟨b,off,Ai,ci,e,hb,by rw[hc,this],h2⟩
theorem Lists.one {w:World} (t:TypeId) {A:Option Addr} {n c:Nat} {l:List S} (hn:l.length=n) (h:Row w w.heap.size A (l.map encStr)):
  Lists (w.alloc (.cells #[.slice A n c] t)) (w.alloc (.cells #[.slice A n c] t)).heap.size (some ⟨w.heap.size,0,none⟩) [l]:=by
 subst hn;refine⟨_,rfl,Row.fresh w t [.slice A l.length c],fun i hi=> ?_⟩
 match i,hi with
 |0,_=>exact⟨A,c,rfl,(h.below (below_new w _)).more (below_new w _).size⟩
open Go.Sort in
theorem sorted_left {w w1:World} {g cap n nn q:Nat} {os:Array Obj} {ss:List S} (hown:w1.ownsRow w.heap.size 9 1 (.slice (some ⟨g,0,none⟩) n cap) n (ss.map encStr)) (hbel:Below w.heap.size w w1) (hbg:w.heap.size≤g) (hlen:ss.length=n):
  (putRow encStr (Sort.ahead (grow (putRow encStr (Sort.ahead w1 nn) g 0 (ss.mergeSort fun x y=>decide (x≤y)).toArray) os) q) g 0 (canon ss++List.replicate (n-(canon ss).length) []).toArray).ownsRow w.heap.size 9 1 (.slice (some ⟨g,0,none⟩) (canon ss).length cap) (canon ss).length ((canon ss).map encStr)∧
  Below w.heap.size w (putRow encStr (Sort.ahead (grow (putRow encStr (Sort.ahead w1 nn) g 0 (ss.mergeSort fun x y=>decide (x≤y)).toArray) os) q) g 0 (canon ss++List.replicate (n-(canon ss).length) []).toArray):=by
 have hl2:(ss.mergeSort fun x y=>decide (x≤y)).length=ss.length:=List.length_mergeSort ss;have hle:=canon_len ss;subst hlen;rcases hown.2 with⟨h0,_⟩| ⟨g',cap',cur,hv,hbase,hb,h1,h2,h3,h4⟩
 ·cases h0
 cases hv;have hs:=ownsRow_sorted (n:=nn) (os:=os) (ts:=ss.mergeSort fun x y=>decide (x≤y)) hl2 hbase hb h1 h2 h3;have hc:=Lib.ownsRow_putRow (q:=q) (k:=(canon ss).length) (ys:=canon ss++List.replicate (ss.length-(canon ss).length) []) hs (by simp;omega) (by omega);rw[List.take_left]at hc;exact⟨hc,Lib.below_putRow (hbel.grown (grownBy_sorted _) hbel.size (fun j hj=>by cases hj;exact hbase)) hbg⟩
end Go.Proofs.YtpndglghpojjkaaGreat
