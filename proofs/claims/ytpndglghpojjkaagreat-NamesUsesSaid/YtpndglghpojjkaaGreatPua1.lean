/-
  9 texts of the proof, in one file: no condition.
-/
import Derived.Lib.SlicesCompact
import Derived.Sort.EncStr
import Derived.WalkKit
import Derived.WalkSpells
import Derived.WalkLawsBesides
import Derived.Lib.Hide
import Derived.Deep.Draws
import Derived.Lib.SlBytesConst
import Derived.Maps.AppendAt
import Derived.ArgAppend
import Derived.Test.YtpndglghpojjkaaGreatProg
import Derived.Sort.Walk0
set_option maxRecDepth 1000000
set_option maxHeartbeats 8000000
namespace Go.Proofs.YtpndglghpojjkaaGreat
abbrev S:=List UInt8
instance:Inhabited S:=⟨[]⟩
theorem lt_of_le_ne {x y:S} (h:x≤y) (hne:x≠y):x<y:=by
 rcases Classical.em (x<y)with h1|h1
 ·exact h1
 ·exact absurd (List.le_antisymm h (show y≤x from h1)) hne
theorem xA {x y z:S} (h:x≤y) (h2:y<z):x<z:=by
 rcases Classical.em (x<z)with h1|h1
 ·exact h1
 ·exact absurd h2 (fun h3=>absurd (List.le_trans (show z≤x from h1) h) (fun h4=>h4 h3))
def Up (l:List S):Prop:=l.Pairwise (·<·)
theorem Up.ext:∀{l l':List S},Up l→Up l'→(∀x,x∈l↔x∈l')→l=l'
 | [],[],_,_,_=>rfl
 | [],y::l',_,_,h=>by have:=(h y).2 (List.mem_cons_self ..);cases this
 |x::l,[],_,_,h=>by have:=(h x).1 (List.mem_cons_self ..);cases this
 |x::l,y::l',hu,hu',h=>by
  obtain⟨h1,h2⟩:=List.pairwise_cons.1 hu;obtain⟨h3,h4⟩:=List.pairwise_cons.1 hu'
  have e:x=y:=by
   rcases List.mem_cons.1 ((h x).1 (List.mem_cons_self ..))with e|e
   ·exact e
   ·rcases List.mem_cons.1 ((h y).2 (List.mem_cons_self ..))with e'|e'
    ·exact e'.symm
    ·exact absurd (List.lt_trans (h1 y e') (h3 x e)) (List.lt_irrefl x)
  subst e;congr 1;refine Up.ext h2 h4 fun z=>⟨fun hz=> ?_,fun hz=> ?_⟩
  ·rcases List.mem_cons.1 ((h z).1 (List.mem_cons_of_mem _ hz))with e|e
   ·subst e;exact absurd (h1 z hz) (List.lt_irrefl z)
   ·exact e
  ·rcases List.mem_cons.1 ((h z).2 (List.mem_cons_of_mem _ hz))with e|e
   ·subst e;exact absurd (h3 z hz) (List.lt_irrefl z)
   ·exact e
section
open Go.Lib
theorem zo {zs:List S} (h:zs.Pairwise (·≤·)):Up (compact zs):=by
 unfold compact compactUpTo Up;rw[List.pairwise_map];refine(List.Pairwise.filter _ (List.pairwise_lt_range (n:=zs.length))).imp_of_mem fun{i j} hi hj hij=> ?_;have hj':=List.mem_filter.1 hj;have hjl:=List.mem_range.1 hj'.1;have hk:=hj'.2;unfold keeps at hk;simp only[decide_eq_true_eq]at hk;have hne:=hk.resolve_left (by omega)
 have hg:∀k (hk:k<zs.length),zs.toArray[k]! =zs[k]:=fun k hk=>by simp[hk]
 rw[hg j hjl,hg (j-1) (by omega)]at hne;rw[hg i (by omega),hg j hjl];have h1:zs[j-1]<zs[j]:=lt_of_le_ne (List.pairwise_iff_getElem.1 h (j-1) j (by omega) hjl (by omega)) (fun e=>hne e.symm);rcases Nat.lt_or_ge i (j-1)with h2|h2
 ·exact xA (List.pairwise_iff_getElem.1 h i (j-1) (by omega) (by omega) h2) h1
 ·have:i=j-1:=by omega
  subst this;exact h1
theorem mem_compact {zs:List S} {x:S}:x∈compact zs↔x∈zs:=by
 have hg:∀k (hk:k<zs.length),zs.toArray[k]! =zs[k]:=fun k hk=>by simp[hk]
 unfold compact compactUpTo;rw[List.mem_map];constructor
 ·rintro⟨j,hj,rfl⟩;have:=List.mem_range.1 (List.mem_filter.1 hj).1;rw[hg j this];exact List.getElem_mem _
 ·intro hx
  have hex:∃k,k<zs.length∧zs.toArray[k]! =x:=by obtain⟨k,hk,e⟩:=List.getElem_of_mem hx;exact⟨k,hk,by rw[hg k hk,e]⟩
  have hmin:∀n k,k<n→k<zs.length→zs.toArray[k]! =x→∃j,j<zs.length∧zs.toArray[j]! =x∧keeps zs.toArray j=true:=by
   intro n
   induction n with
   |zero=>intro k h;omega
   |succ n ih=>
    intro k hkn hk e;by_cases h0:keeps zs.toArray k=true
    ·exact⟨k,hk,e,h0⟩
    ·unfold keeps at h0;simp only[decide_eq_true_eq,not_or,Classical.not_not]at h0;exact ih (k-1) (by omega) (by omega) (by rw[←h0.2];exact e)
  obtain⟨k,hk,e⟩:=hex;obtain⟨j,h1,h2,h3⟩:=hmin (k+1) k (by omega) hk e;exact⟨j,List.mem_filter.2 ⟨List.mem_range.2 h1,h3⟩,h2⟩
def canon (l:List S):List S:=compact (l.mergeSort fun x y=>decide (x≤y))
theorem vI (l:List S):(l.mergeSort fun x y=>decide (x≤y)).Pairwise (·≤·):=by
 have:=List.pairwise_mergeSort (le:=fun x y:S=>decide (x≤y)) (fun a b c h1 h2=>by simp only[decide_eq_true_eq]at*;exact List.le_trans h1 h2) (fun a b=>by simp only[Bool.or_eq_true,decide_eq_true_eq];exact List.le_total a b) l
 exact this.imp fun h=>by simpa using h
theorem oD (l:List S):Up (canon l):=zo (vI l)
theorem mO {l:List S} {x:S}:x∈canon l↔x∈l:=mem_compact.trans (List.mergeSort_perm l _).mem_iff
theorem pX {l l':List S} (h:∀x,x∈l↔x∈l'):canon l=canon l':=(oD l).ext (oD l') fun x=>by rw[mO,mO];exact h x
theorem su {l l':List S} (hu:Up l') (h:∀x,x∈l↔x∈l'):canon l=l':=(oD l).ext hu fun x=>by rw[mO];exact h x
theorem uV (l:List S):(canon l).length≤l.length:=by
 unfold canon;refine Nat.le_trans ?_ (Nat.le_of_eq (List.length_mergeSort (le:=fun x y:S=>decide (x≤y)) l));unfold compact compactUpTo;rw[List.length_map];refine Nat.le_trans (List.length_filter_le _ _) ?_;simp
end
def bH:List S→S→List S
 | [],x=> [x]
 |y::l,x=>if y<x then y::bH l x else if y=x then y::l else x::y::l
theorem xw {l:List S} {x z:S}:z∈bH l x↔z∈l∨z=x:=by
 induction l with
 |nil=>simp[bH]
 |cons y l ih=>
  unfold bH;split
  ·simp[ih,or_assoc]
  ·split
   ·rename_i e;subst e;simp only[List.mem_cons];constructor
    ·exact .inl
    ·rintro(h|h)
     ·exact h
     ·exact .inl h
   ·simp only[List.mem_cons];constructor
    ·rintro(h|h|h)
     ·exact .inr h
     ·exact .inl (.inl h)
     ·exact .inl (.inr h)
    ·rintro((h|h)|h)
     ·exact .inr (.inl h)
     ·exact .inr (.inr h)
     ·exact .inl h
theorem Fe {l:List S} {x:S} (h:Up l):Up (bH l x):=by
 induction l with
 |nil=>exact List.pairwise_singleton _ _
 |cons y l ih=>
  obtain⟨h1,h2⟩:=List.pairwise_cons.1 h;unfold bH;split
  ·rename_i hlt;refine List.pairwise_cons.2 ⟨fun z hz=> ?_,ih h2⟩;rcases xw.1 hz with h|h
   ·exact h1 z h
   ·subst h;exact hlt
  ·split
   ·exact h
   ·rename_i h3 h4;have hxy:x<y:=lt_of_le_ne (show x≤y from h3) (fun e=>h4 e.symm);refine List.pairwise_cons.2 ⟨fun z hz=> ?_,h⟩;rcases List.mem_cons.1 hz with e|e
    ·subst e;exact hxy
    ·exact List.lt_trans hxy (h1 z e)
theorem pR (l:List S):l.foldl bH []=canon l:=by
 have key:∀(l acc:List S),Up acc→Up (l.foldl bH acc)∧∀z,z∈l.foldl bH acc↔z∈acc∨z∈l:=by
  intro l
  induction l with
  |nil=>intro acc h;exact⟨h,fun z=>by simp⟩
  |cons x l ih=>
   intro acc h;obtain⟨h1,h2⟩:=ih (bH acc x) (Fe h);refine⟨h1,fun z=> ?_⟩;rw[List.foldl_cons,h2 z,xw,List.mem_cons,or_assoc]
 obtain⟨h1,h2⟩:=key l [] List.Pairwise.nil;exact((su h1 fun z=>by rw[h2];simp)).symm
end Go.Proofs.YtpndglghpojjkaaGreat
namespace Go.Proofs.YtpndglghpojjkaaGreat
open Go.RowKit
theorem Za {p:Prop} (h:p):Hid p:=Lib.hid h
def Holds (w:World) (g:Nat) (t:TypeId) (cs:Array Value):Prop:=w.heap[g]? =some (.cells cs t (0,0))
section
variable {w w':World} {g:Nat} {t:TypeId} {cs:Array Value}
theorem Holds.lt (h:Holds w g t cs):g<w.heap.size:=(Array.getElem?_eq_some_iff.1 h).1
theorem Holds.cell (h:Holds w g t cs) (i:Nat):w.cell? ⟨g,i,none⟩=cs[i]? :=cell_of_row w g i cs t (0,0) h
theorem Holds.frozen (h:Holds w g t cs) (i:Nat):w.frozen? ⟨g,i,none⟩=false:=by
 unfold Holds at h;simp[World.frozen?,h]
theorem Holds.new (w:World) (t:TypeId) (cs:Array Value):Holds (w.alloc (.cells cs t)) w.heap.size t cs:=heap_alloc_new w _
theorem Holds.alloc (h:Holds w g t cs) (o:Obj):Holds (w.alloc o) g t cs:=(Below.heap_alloc w o g h.lt).trans h
theorem Holds.drewN (h:Holds w g t cs) (n:Nat):Holds (w.drewN n) g t cs:=h
theorem Holds.store (h:Holds w g t cs) (i:Nat) (u:Value):Holds (w.setCell ⟨g,i,none⟩ u) g t (cs.setIfInBounds i u):=by
 unfold Holds at h⊢;simp[World.setCell,Array.getElem?_modify,h]
theorem Holds.apart (h:Holds w g t cs) {p:Addr} (hp:g≠p.block) (u:Value):Holds (w.setCell p u) g t cs:=(Below.heap_setCell w p u g hp).trans h
theorem Holds.below {B:Nat} (h:Holds w g t cs) (hb:Below B w w') (hg:g<B):Holds w' g t cs:=(hb.block g hg).trans h
theorem Holds.grown {row:Option Nat} (h:Holds w g t cs) (hb:w.grownBy w' row) (hg:some g≠row):Holds w' g t cs:=(hb.block g h.lt hg).trans h
theorem Holds.row (h:Holds w g t cs) (cs':Array Value):Holds (w.setRow g cs') g t cs':=by
 unfold Holds at h⊢;simp[World.setRow,Array.getElem?_modify,h]
end
def Row (w:World) (B:Nat) (A:Option Addr) (vs:List Value):Prop:=
 vs≠[]→∃b off,A=some ⟨b,off,none⟩∧b<B∧∀j u,vs[j]? =some u→w.cell? ⟨b,off+j,none⟩=some u
section
variable {w w':World} {B B':Nat} {A:Option Addr} {vs:List Value}
theorem Row.nil_ (w:World) (B:Nat) (A:Option Addr):Row w B A []:=fun h=>absurd rfl h
theorem Row.keep (h:Row w B A vs) (hk:∀p:Addr,p.block<B→w'.cell? p=w.cell? p):Row w' B A vs:=fun hn=>by
 obtain⟨b,off,e,hb,hc⟩:=h hn;exact⟨b,off,e,hb,fun j u hu=>(hk _ hb).trans (hc j u hu)⟩
theorem Row.more (h:Row w B A vs) (hB:B≤B'):Row w B' A vs:=fun hn=>by
 obtain⟨b,off,e,hb,hc⟩:=h hn;exact⟨b,off,e,by omega,hc⟩
theorem Row.below (h:Row w B A vs) (hb:Below B w w'):Row w' B A vs:=h.keep fun _ hp=>hb.cell hp
theorem Row.at_ {k:Nat} (h:Row w B A vs) (hk:k<vs.length):∃b off,A=some ⟨b,off,none⟩∧b<B∧w.cell? ⟨b,off+k,none⟩=some vs[k]:=by
 obtain⟨b,off,e,hb,hc⟩:=h (by intro h;subst h;simp at hk);exact⟨b,off,e,hb,hc k _ (List.getElem?_eq_getElem hk)⟩
theorem Row.take (h:Row w B A vs) (k:Nat):Row w B A (vs.take k):=fun hn=>by
 obtain⟨b,off,e,hb,hc⟩:=h (by rintro rfl;simp at hn);refine⟨b,off,e,hb,fun j u hu=>hc j u ?_⟩;rw[List.getElem?_take]at hu;split at hu
 ·exact hu
 ·cases hu
end
theorem EO {k:IntKind} {a b:Int} (h:a=b):Ending.returned (.int k a)= .returned (.int k b):=by rw[h]
theorem Dl {a b:Bool} (h:a=b):Ending.returned (.bool a)= .returned (.bool b):=by rw[h]
def Eo (b:UInt8):Value:= .int .u8 b.toNat
def Bytes (w:World) (B:Nat) (A:Option Addr) (l:List UInt8):Prop:=Row w B A (l.map Eo)
theorem Bytes.at_ {w:World} {B:Nat} {A:Option Addr} {l:List UInt8} {k:Nat} (h:Bytes w B A l) (hk:k<l.length):
  ∃b off,A=some ⟨b,off,none⟩∧b<B∧w.cell? ⟨b,off+k,none⟩=some (.int .u8 l[k].toNat):=by
 obtain⟨b,off,e,hb,hc⟩:=Row.at_ h (k:=k) (by simpa using hk);exact⟨b,off,e,hb,by simpa[Eo]using hc⟩
def Slices (w:World) (B:Nat) (A:Option Addr) (ls:List (List UInt8)):Prop:=
 ∃vs:List Value,vs.length=ls.length∧Row w B A vs∧∀i (h:i<ls.length),∃Ai ci,vs[i]? =some (.slice Ai ls[i].length ci)∧Bytes w B Ai ls[i]∧ls[i].length≤maxLen
theorem Slices.below {w w':World} {B:Nat} {A:Option Addr} {ls:List (List UInt8)} (h:Slices w B A ls) (hb:Below B w w'):Slices w' B A ls:=by
 obtain⟨vs,hl,hr,hi⟩:=h
 exact⟨vs,hl,hr.below hb,fun i hlt=>by
  obtain⟨Ai,ci,h1,h2,h3⟩:=hi i hlt
  exact⟨Ai,ci,h1,Row.below h2 hb,h3⟩⟩
theorem Slices.more {w:World} {B B':Nat} {A:Option Addr} {ls:List (List UInt8)} (h:Slices w B A ls) (hB:B≤B'):Slices w B' A ls:=by
 obtain⟨vs,hl,hr,hi⟩:=h
 exact⟨vs,hl,hr.more hB,fun i hlt=>by
  obtain⟨Ai,ci,h1,h2,h3⟩:=hi i hlt
  exact⟨Ai,ci,h1,Row.more h2 hB,h3⟩⟩
theorem Slices.at_ {w:World} {B:Nat} {A:Option Addr} {ls:List (List UInt8)} {k:Nat} (h:Slices w B A ls) (hk:k<ls.length):
  ∃b off Ai ci,A=some ⟨b,off,none⟩∧b<B∧w.cell? ⟨b,off+k,none⟩=some (.slice Ai ls[k].length ci)∧Bytes w B Ai ls[k]∧ls[k].length≤maxLen:=by
 obtain⟨vs,hl,hr,hi⟩:=h;obtain⟨Ai,ci,h1,h2,h3⟩:=hi k hk;obtain⟨b,off,e,hb,hc⟩:=hr.at_ (k:=k) (by omega)
 have:vs[k]'(by omega)= .slice Ai ls[k].length ci:=by have h4:=List.getElem?_eq_getElem (l:=vs) (i:=k) (by omega);rw[h4]at h1;exact Option.some.inj h1
 exact⟨b,off,Ai,ci,e,hb,by rw[hc,this],h2,h3⟩
theorem Row.ER {w:World} {g B:Nat} {t:TypeId} {cs:Array Value} {fr:Nat×Nat} (h:w.heap[g]? =some (.cells cs t fr)) (hB:g<B):Row w B (some ⟨g,0,none⟩) cs.toList:=
 fun _=>⟨g,0,rfl,hB,fun j u hu=>by rw[Nat.zero_add,cell_of_row w g j cs t fr h];simpa using hu⟩
def Strs (w:World) (B:Nat) (A:Option Addr) (ss:List ByteArray):Prop:=Row w B A (ss.map Value.string)
theorem Strs.at_ {w:World} {B:Nat} {A:Option Addr} {ss:List ByteArray} {k:Nat} (h:Strs w B A ss) (hk:k<ss.length):
  ∃b off,A=some ⟨b,off,none⟩∧b<B∧w.cell? ⟨b,off+k,none⟩=some (.string ss[k]):=by
 obtain⟨b,off,e,hb,hc⟩:=Row.at_ h (k:=k) (by simpa using hk);exact⟨b,off,e,hb,by simpa using hc⟩
def ay (l:List UInt8):ByteArray:=⟨l.toArray⟩
theorem oK (l:List UInt8):(ay l).size=l.length:=by simp[ay,ByteArray.size]
theorem zL {w:World} {base:Nat} {e:TypeId} {v:Value} {n:Nat} {xs:List Value} (h:w.ownsRow base e 1 v n xs):∃A c,v= .slice A n c∧Row w w.heap.size A xs∧xs.length=n∧n≤c:=by
 have hl:=h.1;rcases h.2 with⟨rfl,rfl⟩| ⟨g,cap,cur,rfl,hg,hh,hn,_⟩
 ·have:xs= []:=List.eq_nil_of_length_eq_zero (by omega);subst this;exact⟨none,0,rfl,Row.nil_ _ _ _,rfl,Nat.le_refl _⟩
 ·refine⟨_,cap,rfl,fun _=>⟨g,0,rfl,(Array.getElem?_eq_some_iff.1 hh).1,fun j u hu=> ?_⟩,by omega,hn⟩;have:=h.cells (g:=g) rfl j u hu
  have hadd:(⟨g,0,none⟩:Addr).add j=⟨g,0+j,none⟩:=by unfold Addr.add;split<;>simp_all
  rw[←hadd];exact this
theorem Bytes.below {w w':World} {B:Nat} {A:Option Addr} {l:List UInt8} (h:Bytes w B A l) (hb:Below B w w'):Bytes w' B A l:=Row.below h hb
theorem Bytes.more {w:World} {B B':Nat} {A:Option Addr} {l:List UInt8} (h:Bytes w B A l) (hB:B≤B'):Bytes w B' A l:=Row.more h hB
theorem Bytes.up {w w':World} {A:Option Addr} {l:List UInt8} (h:Bytes w w.heap.size A l) (hb:Below w.heap.size w w'):Bytes w' w'.heap.size A l:=(h.below hb).more hb.size
theorem Slices.up {w w':World} {A:Option Addr} {l:List (List UInt8)} (h:Slices w w.heap.size A l) (hb:Below w.heap.size w w'):Slices w' w'.heap.size A l:=(h.below hb).more hb.size
theorem Strs.up {w w':World} {A:Option Addr} {l:List ByteArray} (h:Strs w w.heap.size A l) (hb:Below w.heap.size w w'):Strs w' w'.heap.size A l:=Row.more (Row.below h hb) hb.size
theorem Bytes.take {w:World} {B:Nat} {A:Option Addr} {l:List UInt8} (h:Bytes w B A l) (k:Nat):Bytes w B A (l.take k):=by
 have:=Row.take h k;rw[←List.map_take]at this;exact this
theorem Row.cut {w:World} {B:Nat} {A:Option Addr} {vs:List Value} (h:Row w B A vs) (k:Nat) {c:Nat} (hc:vs.length≤c):Row w B (if c=k then A else A.map (·.add k)) (vs.drop k):=fun hn=>by
 have hk:k<vs.length:=by
  rcases Nat.lt_or_ge k vs.length with h1|h1
  ·exact h1
  ·exact absurd (List.drop_eq_nil_of_le h1) hn
 obtain⟨b,off,rfl,hb,hcell⟩:=h (by rintro rfl;simp at hk);rw[if_neg (by omega)];refine⟨b,off+k,by unfold Addr.add;simp only[Option.map_some];split<;>simp_all,hb,fun j u hu=> ?_⟩;rw[Nat.add_assoc];exact hcell (k+j) u (by rw[←hu,List.getElem?_drop])
theorem Bytes.cut {w:World} {B:Nat} {A:Option Addr} {l:List UInt8} (h:Bytes w B A l) (k:Nat) {c:Nat} (hc:l.length≤c):Bytes w B (if c=k then A else A.map (·.add k)) (l.drop k):=by
 have:=Row.cut h k (c:=c) (by simpa using hc);rw[←List.map_drop]at this;exact this
theorem Row.fresh (w:World) (t:TypeId) (vs:List Value):Row (w.alloc (.cells vs.toArray t)) (w.alloc (.cells vs.toArray t)).heap.size (some ⟨w.heap.size,0,none⟩) vs:=by
 have:=Row.ER (heap_alloc_new w (.cells vs.toArray t)) (B:=(w.alloc (.cells vs.toArray t)).heap.size) (by simp);simpa using this
theorem Slices.one {w:World} (t:TypeId) {A:Option Addr} {n c:Nat} {l:List UInt8} (hn:l.length=n) (hm:n≤maxLen) (h:Bytes w w.heap.size A l):
  Slices (w.alloc (.cells #[.slice A n c] t)) (w.alloc (.cells #[.slice A n c] t)).heap.size (some ⟨w.heap.size,0,none⟩) [l]:=by
 subst hn;refine⟨_,rfl,Row.fresh w t [.slice A l.length c],fun i hi=> ?_⟩
 match i,hi with
 |0,_=>exact⟨A,c,rfl,h.up ((Below.refl _ _).alloc (Nat.le_refl _) _),hm⟩
theorem Slices.two {w:World} (t:TypeId) {A A':Option Addr} {n c n' c':Nat} {l l':List UInt8} (hn:l.length=n) (hm:n≤maxLen) (h:Bytes w w.heap.size A l) (hn':l'.length=n') (hm':n'≤maxLen) (h':Bytes w w.heap.size A' l'):
  Slices (w.alloc (.cells #[.slice A n c,.slice A' n' c'] t)) (w.alloc (.cells #[.slice A n c,.slice A' n' c'] t)).heap.size (some ⟨w.heap.size,0,none⟩) [l,l']:=by
 subst hn hn';refine⟨_,rfl,Row.fresh w t [.slice A l.length c,.slice A' l'.length c'],fun i hi=> ?_⟩
 match i,hi with
 |0,_=>exact⟨A,c,rfl,h.up ((Below.refl _ _).alloc (Nat.le_refl _) _),hm⟩
 |1,_=>exact⟨A',c',rfl,h'.up ((Below.refl _ _).alloc (Nat.le_refl _) _),hm'⟩
theorem Strs.new (w:World) (t:TypeId) (ss:List ByteArray):Strs (w.alloc (.cells (ss.map Value.string).toArray t)) (w.alloc (.cells (ss.map Value.string).toArray t)).heap.size (some ⟨w.heap.size,0,none⟩) ss:=Row.fresh w t _
theorem aA (w:World) (o:Obj):Below w.heap.size w (w.alloc o):=(Below.refl _ _).alloc (Nat.le_refl _) _
def aP (o:Oper):List Nat:=(o.after.toList.filter fun e=>Region.binds .any e).map (·.on)
def B_ (ops:Array Oper) (V:Nat→World→Value→Prop) (tmps:Array Value) (w:World):List Nat→Prop
 | []=>True
 |j::r=>(match (ops[j]?).bind (·.dst)with|some d=>V j w (tmps.getD d undef)|none=>True)∧B_ ops V tmps w r
def fH (P:Program) (R:Value→World→Prop):Result Next→Prop
 | .ok (.value v) w'=>R v w'
 | .ok .skip w'=>R undef w'
 | .ok (.enter f args) w'=>Calls P f args w' fun e w''=>∃v,e= .returned v∧R v w''
 |_=>False
def Af (P:Program) (ops:Array Oper) (V:Nat→World→Value→Prop) (C:(Nat→Bool)→World→Prop) (G:Nat→World→World→Prop) (i:Nat) (o:Oper) (a:Act):Prop:=
 ∀w L,C L w→L i=false→(∀j∈aP o,L j=true)→(∀j oj,ops[j]? =some oj→i∈aP oj→L j=false)→B_ ops V a.tmps w (aP o)→
  if Region.wanted o (yielded ops a.tmps)then fH P (fun v w'=>C (fun k=>k==i||L k) w'∧G i w w'∧V i w' v) ((execOp a.eval o).run P w)
  else V i w undef∧C (fun k=>k==i||L k) w
def lI (ops:Array Oper):Bool:=
 (List.range ops.size).all fun i=>match ops[i]? with
  |none=>true
  |some o=>(aP o).all (·<i)&&(match o.op with| .select .. =>false|_=>true)&&
   (List.range ops.size).all fun j=>match ops[j]? with
    |none=>true
    |some oj=>match oj.dst with
     |none=>true
     |some d=>(i==j||o.dst !=some d)&&(!(o.looksAt ops).contains d|| (aP o).contains j|| (aP oj).contains i)
section
variable {P:Program} {ops:Array Oper} {V:Nat→World→Value→Prop} {C:(Nat→Bool)→World→Prop} {G:Nat→World→World→Prop} {Q:Act→World→Prop}
theorem dW (h:lI ops=true) {i:Nat} {o:Oper} (hi:ops[i]? =some o):
  (∀j∈aP o,j<i)∧(∀cs b,o.op≠.select cs b)∧∀j oj d,ops[j]? =some oj→oj.dst=some d→(i≠j→o.dst≠some d)∧(d∈o.looksAt ops→j∈aP o∨i∈aP oj):=by
 have hlt:i<ops.size:=(Array.getElem?_eq_some_iff.1 hi).1;have h1:=List.all_eq_true.1 h i (List.mem_range.2 hlt);simp only[hi,Bool.and_eq_true]at h1;obtain⟨⟨ha,hb⟩,hc⟩:=h1;refine⟨fun j hj=>by simpa using List.all_eq_true.1 ha j hj,fun cs b e=>by rw[e]at hb;simp at hb,fun j oj d hj hd=> ?_⟩;have hjl:j<ops.size:=(Array.getElem?_eq_some_iff.1 hj).1;have h2:=List.all_eq_true.1 hc j (List.mem_range.2 hjl);simp only[hj,hd,Bool.and_eq_true,Bool.or_eq_true,beq_iff_eq,bne_iff_ne,Bool.not_eq_true']at h2;refine⟨fun hne=>(h2.1.resolve_left hne),fun hm=> ?_⟩;rcases h2.2 with(h3|h3)|h3
 ·rw[List.contains_iff_mem.2 hm]at h3;cases h3
 ·exact .inl (List.contains_iff_mem.1 h3)
 ·exact .inr (List.contains_iff_mem.1 h3)
def bW (ops:Array Oper) (x:Nat→Value) (a0:Act):Nat→Act
 |0=>a0
 |n+1=>(bW ops x a0 n).put ((ops[n]?).bind (·.dst)) (x n)
theorem nU (a:Act) (d:Option Tmp) (v:Value):(a.put d v).tmps.size=a.tmps.size:=by cases d<;>simp[Act.put]
theorem put_defers (a:Act) (d:Option Tmp) (v:Value):(a.put d v).defers=a.defers:=by cases d<;>rfl
theorem dZ (x:Nat→Value) (a0:Act) (n:Nat):(bW ops x a0 n).tmps.size=a0.tmps.size:=by
 induction n with
 |zero=>rfl
 |succ n ih=>show((bW ops x a0 n).put _ _).tmps.size=_;rw[nU,ih]
theorem jK (x:Nat→Value) (a0:Act) (n:Nat):(bW ops x a0 n).defers=a0.defers:=by
 induction n with
 |zero=>rfl
 |succ n ih=>show((bW ops x a0 n).put _ _).defers=_;rw[put_defers,ih]
theorem fJ (a:Act) (d:Tmp) (v:Value) (t:Tmp):(a.put (some d) v).tmps.getD t undef=if t=d∧t<a.tmps.size then v else a.tmps.getD t undef:=by
 simp only[Act.put,Array.getD_eq_getD_getElem?,Array.getElem?_setIfInBounds];by_cases h:d=t
 ·subst h;by_cases h2:d<a.tmps.size
  ·simp[h2]
  ·simp[h2]
 ·rw[if_neg h,if_neg (fun e=>h e.1.symm)]
theorem dV (x:Nat→Value) (a0:Act) (n:Nat) (t:Tmp) (h:∀j,j<n→(ops[j]?).bind (·.dst)≠some t):(bW ops x a0 n).tmps.getD t undef=a0.tmps.getD t undef:=by
 induction n with
 |zero=>rfl
 |succ n ih=>
  show((bW ops x a0 n).put _ _).tmps.getD t undef=_;rw[←ih fun j hj=>h j (by omega)];have hn:=h n (by omega)
  cases hd:(ops[n]?).bind (·.dst)with
  |none=>rfl
  |some d=>
   rw[fJ,if_neg];rintro⟨rfl,_⟩;exact hn hd
theorem EP (x:Nat→Value) (a0:Act) (n:Nat) (t:Tmp) (j:Nat) (hj:j<n) (hd:(ops[j]?).bind (·.dst)=some t) (FB:∀k,k<n→(ops[k]?).bind (·.dst)=some t→k=j) (ht:t<a0.tmps.size):
  (bW ops x a0 n).tmps.getD t undef=x j:=by
 induction n with
 |zero=>omega
 |succ n ih=>
  show((bW ops x a0 n).put _ _).tmps.getD t undef=_;by_cases e:j=n
  ·subst e;rw[hd,fJ,if_pos ⟨rfl,by rw[dZ];exact ht⟩]
  ·have:=ih (by omega) (fun k hk hkd=>FB k (by omega) hkd);rw[←this]
   cases hd2:(ops[n]?).bind (·.dst)with
   |none=>rfl
   |some d=>
    rw[fJ,if_neg];rintro⟨rfl,_⟩;exact e (FB n (by omega) hd2).symm
structure Lex (ops:Array Oper) (V:Nat→World→Value→Prop) (C:(Nat→Bool)→World→Prop) (a0:Act) (listed:Array Bool) (a:Act) (w:World):Prop where
 cls:C (fun k=>listed.getD k true) w
 lsize:listed.size=ops.size
 size:a.tmps.size=a0.tmps.size
 defers:a.defers=a0.defers
 closed:∀(i:Nat) o,ops[i]? =some o→listed.getD i true=true→∀j∈aP o,listed.getD j true=true
 done:∀(i:Nat) o,ops[i]? =some o→listed.getD i true=true→∀d,o.dst=some d→V i w (a.tmps.getD d undef)
 rest:∀t,(∀(i:Nat) o,ops[i]? =some o→listed.getD i true=true→o.dst≠some t)→a.tmps.getD t undef=a0.tmps.getD t undef
theorem oh {x:Array Value} {t:Nat} (h:x.size≤t):x.getD t undef=undef:=by
 rw[Array.getD_eq_getD_getElem?,Array.getElem?_eq_none h];rfl
def valsOf (ops:Array Oper) (a:Act) (k:Nat):Value:=match (ops[k]?).bind (·.dst)with|some d=>a.tmps.getD d undef|none=>undef
theorem fU {a a0:Act} (hs:a.tmps.size=a0.tmps.size) (n:Nat) (t:Tmp) (h:∃j,j<n∧(ops[j]?).bind (·.dst)=some t):(bW ops (valsOf ops a) a0 n).tmps.getD t undef=a.tmps.getD t undef:=by
 induction n with
 |zero=>obtain⟨j,hj,_⟩:=h;omega
 |succ n ih=>
  show((bW ops _ a0 n).put _ (valsOf ops a n)).tmps.getD t undef=_;by_cases e:(ops[n]?).bind (·.dst)=some t
  ·have hv:valsOf ops a n=a.tmps.getD t undef:=by unfold valsOf;rw[e]
   rw[e,fJ,hv,dZ];by_cases ht:t<a0.tmps.size
   ·rw[if_pos ⟨rfl,ht⟩]
   ·rw[if_neg (fun h=>ht h.2),oh (x:=(bW ops (valsOf ops a) a0 n).tmps) (t:=t) (by rw[dZ];exact Nat.le_of_not_lt ht),oh (x:=a.tmps) (t:=t) (by rw[hs];exact Nat.le_of_not_lt ht)]
  ·have h':∃j,j<n∧(ops[j]?).bind (·.dst)=some t:=by
    obtain⟨j,hj,hd⟩:=h;refine⟨j,?_,hd⟩;rcases Nat.lt_or_ge j n with hl|hl
    ·exact hl
    ·obtain rfl:j=n:=by omega
     exact absurd hd e
   rw[←ih h']
   cases hd:(ops[n]?).bind (·.dst)with
   |none=>rfl
   |some d=>
    rw[fJ,if_neg];rintro⟨rfl,_⟩;exact e hd
theorem iZ {x y:Array Value} (hs:x.size=y.size) {t:Nat} (h:x.getD t undef=y.getD t undef):x[t]? =y[t]? :=by
 rw[Array.getD_eq_getD_getElem?,Array.getD_eq_getD_getElem?]at h;by_cases ht:t<x.size
 ·rw[Array.getElem?_eq_getElem ht,Array.getElem?_eq_getElem (by omega)]at h⊢;simpa using h
 ·rw[Array.getElem?_eq_none (by omega),Array.getElem?_eq_none (by omega)]
theorem oH {o:Oper} {a b:Act} (hs:a.tmps.size=b.tmps.size) (h:∀t∈o.looksAt ops,a.tmps.getD t undef=b.tmps.getD t undef):
  Region.wanted o (yielded ops a.tmps)=Region.wanted o (yielded ops b.tmps):=by
 unfold Region.wanted
 cases hg:o.guard with
 |none=>rfl
 |some g=>
  obtain⟨j,want⟩:=g;simp only;congr 1;unfold yielded
  cases hd:(ops[j]?).bind (·.dst)with
  |none=>rfl
  |some d=>
   simp only[Option.bind_some];rw[iZ hs (h d ?_)];unfold Oper.looksAt;simp only[hg];refine List.mem_append_right _ ?_
   first
    | (rw[hd];simp;done)
    | (simp[hd];done)
    |simp_all
def iW (n:Nat) (listed:Array Bool):Nat:=((List.range n).filter fun i=> !listed.getD i true).length
theorem kQ {n:Nat} {listed:Array Bool} (hs:listed.size=n) {i:Nat} (hi:i<n) (hu:listed.getD i true=false):iW n (listed.setIfInBounds i true)+1=iW n listed:=by
 have key:∀l:List Nat,l.Nodup→(∀k∈l,k<n)→((l.filter fun k=> !(listed.setIfInBounds i true).getD k true).length+(if i∈l then 1 else 0)=(l.filter fun k=> !listed.getD k true).length):=by
  intro l
  induction l with
  |nil=>simp
  |cons k l ih=>
   intro hn hl;rw[List.nodup_cons]at hn;have:=ih hn.2 fun j hj=>hl j (List.mem_cons_of_mem _ hj)
   have hg:(listed.setIfInBounds i true).getD k true=if k=i then true else listed.getD k true:=by
    simp only[Array.getD_eq_getD_getElem?,Array.getElem?_setIfInBounds];by_cases e:i=k
    ·subst e;simp[hs,hi]
    ·rw[if_neg e,if_neg (fun h=>e h.symm)]
   rw[List.filter_cons,List.filter_cons,hg];by_cases e:k=i
   ·subst e;simp only[if_true,Bool.not_true,Bool.false_eq_true,if_false,hu,Bool.not_false,List.length_cons,List.mem_cons,true_or];rw[if_neg hn.1]at this;omega
   ·rw[if_neg e]
    have hm:(i∈k::l)↔i∈l:=by simp[Ne.symm e]
    by_cases hk:listed.getD k true=true
    ·simp only[hk,Bool.not_true,Bool.false_eq_true,if_false,hm];exact this
    ·simp only[hk,Bool.not_false,if_true,List.length_cons,hm];omega
 have:=key (List.range n) List.nodup_range (fun k hk=>List.mem_range.1 hk);rw[if_pos (List.mem_range.2 hi)]at this;exact this
theorem Ah {a0:Act} {Q':Exit→Act→World→Prop} (hok:lI ops=true) (hN:∀(i:Nat) o d,ops[i]? =some o→o.dst=some d→d<a0.tmps.size)
  (hmono:∀(i j:Nat) oj,ops[j]? =some oj→i∉aP oj→i≠j→∀w w' v,G i w w'→V j w v→V j w' v) (steps:∀x (i:Nat) o,ops[i]? =some o→Af P ops V C G i o (bW ops x a0 i))
  (hQ:∀x w,C (fun _=>true) w→(∀(k:Nat) o,ops[k]? =some o→o.dst.isSome=true→V k w (x k))→Q' .normal (bW ops x a0 ops.size) w):
  ∀(fuel:Nat) (listed:Array Bool) (a:Act) (w:World),iW ops.size listed=fuel→Lex ops V C a0 listed a w→wpAny P .any ops Q' fuel listed a w:=by
 have hend:∀(listed:Array Bool) (a:Act) (w:World),(∀i,i<ops.size→listed.getD i true=true)→Lex ops V C a0 listed a w→Q' .normal a w:=by
  intro listed a w hall hl;have hC:=hl.cls
  rw[show(fun k=>listed.getD k true)=fun _=>true from funext fun k=>by
   by_cases hk:k<ops.size
   ·exact hall k hk
   ·rw[Array.getD_eq_getD_getElem?,Array.getElem?_eq_none (by rw[hl.lsize];omega)];rfl]at hC
  have hq:=hQ (valsOf ops a) w hC fun k o hk hs=>by obtain⟨d,hd⟩:=Option.isSome_iff_exists.1 hs;have:=hl.done k _ hk (hall k (Array.getElem?_eq_some_iff.1 hk).1) d hd;unfold valsOf;rw[hk];simp only[Option.bind_some,hd];exact this
  have e:bW ops (valsOf ops a) a0 ops.size=a:=by
   have hsz:(bW ops (valsOf ops a) a0 ops.size).tmps.size=a.tmps.size:=by rw[dZ,hl.size]
   have hd:(bW ops (valsOf ops a) a0 ops.size).defers=a.defers:=by rw[jK,hl.defers]
   have ht:(bW ops (valsOf ops a) a0 ops.size).tmps=a.tmps:=by
    apply Array.ext_getElem?;intro t;apply iZ hsz;by_cases hw:∃j,j<ops.size∧(ops[j]?).bind (·.dst)=some t
    ·exact fU hl.size _ _ hw
    ·rw[dV _ _ _ _ (fun j hj hd=>hw ⟨j,hj,hd⟩)];exact(hl.rest t fun i o hi _ hd=>hw ⟨i,(Array.getElem?_eq_some_iff.1 hi).1,by rw[hi];exact hd⟩).symm
   cases h1:bW ops (valsOf ops a) a0 ops.size;cases a;simp only[h1]at hd ht;rw[hd,ht]
  rw[e]at hq;exact hq
 intro fuel
 induction fuel with
 |zero=>
  intro listed a w hu hl
  have hall:∀i,i<ops.size→listed.getD i true=true:=by intro i hi;have:=List.eq_nil_of_length_eq_zero hu;have h2:=List.filter_eq_nil_iff.1 this i (List.mem_range.2 hi);simpa using h2
  refine⟨?_,hend listed a w hall hl⟩;unfold Region.ready;rw[List.filter_eq_nil_iff];intro i hi;simp[hall i (List.mem_range.1 hi)]
 |succ fuel ih=>
  intro listed a w hu hl;refine⟨fun hr=>hend listed a w ?_ hl,fun i hi=> ?_⟩
  ·have hall:∀n,∀i,i<n→i<ops.size→listed.getD i true=true:=by
    intro n
    induction n with
    |zero=>intro i h;omega
    |succ n ihn=>
     intro i hin hio;by_cases hlt:i<n
     ·exact ihn i hlt hio
     ·obtain rfl:i=n:=by omega
      unfold Region.ready at hr;have h2:=List.filter_eq_nil_iff.1 hr i (List.mem_range.2 hio)
      cases hb:listed.getD i true with
      |true=>rfl
      |false=>
       exfalso;apply h2;have hoi:ops[i]? =some ops[i]:=Array.getElem?_eq_getElem hio;have fP:=(dW hok hoi).1;rw[hb,hoi];simp only[Bool.not_false,Bool.true_and,Option.map_some,Option.getD_some];rw[Array.all_eq_true_iff_forall_mem];intro e he
       cases hbn:Region.binds .any e with
       |false=>rfl
       |true=>
        have hm:e.on∈aP ops[i]:=List.mem_map.2 ⟨e,List.mem_filter.2 ⟨by simpa using he,hbn⟩,rfl⟩;have h3:=ihn e.on (fP _ hm) (by have:=fP _ hm;omega)
        have h4:e.on<listed.size:=by rw[hl.lsize];have:=fP _ hm;omega
        simp only[Array.getD_eq_getD_getElem?,Array.getElem?_eq_getElem h4]at h3⊢;simpa using h3
   exact fun i hi=>hall (i+1) i (by omega) hi
  ·unfold Region.ready at hi;obtain⟨hir,hcond⟩:=List.mem_filter.1 hi;have hio:=List.mem_range.1 hir;have hoi:ops[i]? =some ops[i]:=Array.getElem?_eq_getElem hio;generalize ops[i]=o at hoi;simp only[hoi,Option.map_some,Option.getD_some,Bool.and_eq_true,Bool.not_eq_true']at hcond;obtain⟨hun,hafter⟩:=hcond;obtain⟨rP,hsel,hshape⟩:=dW hok hoi
   have fP:∀j∈aP o,listed.getD j true=true:=by
    intro j hj;obtain⟨e,he,rfl⟩:=List.mem_map.1 hj;obtain⟨he1,he2⟩:=List.mem_filter.1 he;have h3:=(Array.all_eq_true_iff_forall_mem.1 hafter) e (by simpa using he1);rw[he2]at h3;simp only[Bool.not_true,Bool.false_or]at h3
    have h4:e.on<listed.size:=by rw[hl.lsize];have:=rP _ hj;omega
    simp only[Array.getD_eq_getD_getElem?,Array.getElem?_eq_getElem h4]at h3⊢;simpa using h3
   have hnext:∀j oj,ops[j]? =some oj→i∈aP oj→listed.getD j true=false:=by
    intro j oj hj hij
    cases hb:listed.getD j true with
    |false=>rfl
    |true=>
     have:=hl.closed j oj hj hb i hij;rw[hun]at this;cases this
   let x:=valsOf ops a
   have hlook:∀t∈o.looksAt ops,(bW ops x a0 i).tmps.getD t undef=a.tmps.getD t undef:=by
    intro t ht;by_cases hw:∃j,j<i∧(ops[j]?).bind (·.dst)=some t
    ·exact fU hl.size _ _ hw
    ·rw[dV _ _ _ _ (fun j hj hd=>hw ⟨j,hj,hd⟩)];refine(hl.rest t fun k ok hk hlk hdk=> ?_).symm;rcases(hshape k ok t hk hdk).2 ht with h1|h1
     ·exact hw ⟨k,rP k h1,by rw[hk];exact hdk⟩
     ·have:=hl.closed k ok hk hlk i h1;rw[hun]at this;cases this
   have DY:(bW ops x a0 i).tmps.size=a.tmps.size:=by rw[dZ,hl.size]
   have hex:execOp (bW ops x a0 i).eval o=execOp a.eval o:=execOp_congr o hsel fun y hy=>by
    cases y with
    |tmp t=>
     have:t∈o.looksAt ops:=List.mem_append_left _ (List.mem_filterMap.2 ⟨.tmp t,by simpa using hy,rfl⟩);have h5:=hlook t this;simpa[Act.eval]using h5
    |_=>rfl
   have hwt:=oH (ops:=ops) (o:=o) DY hlook
   have xO:∀l:List Nat,(∀j∈l,j∈aP o)→B_ ops V (bW ops x a0 i).tmps w l:=by
    intro l
    induction l with
    |nil=>intro _;trivial
    |cons j l ihl=>
     intro hj;refine⟨?_,ihl fun k hk=>hj k (List.mem_cons_of_mem _ hk)⟩;have hjd:=hj j (List.mem_cons_self ..);have hji:=rP j hjd;have hoj:ops[j]? =some ops[j]:=Array.getElem?_eq_getElem (by omega);have hd:=hl.done j _ hoj (fP j hjd)
     cases hdst:(ops[j]?).bind (·.dst)with
     |none=>trivial
     |some d=>
      show V j w _;rw[hoj]at hdst;simp only[Option.bind_some]at hdst;rw[fU hl.size i d ⟨j,hji,by rw[hoj];exact hdst⟩];exact hd d hdst
   have hst:=steps x i o hoi w (fun k=>listed.getD k true) hl.cls hun fP hnext (xO _ fun _ h=>h);rw[hwt,hex]at hst
   have hset:∀k,(listed.setIfInBounds i true).getD k true=(k==i||listed.getD k true):=by
    intro k;simp only[Array.getD_eq_getD_getElem?,Array.getElem?_setIfInBounds];by_cases e:i=k
    ·subst e;simp[hl.lsize,hio]
    ·rw[if_neg e];simp[Ne.symm e]
   have go:∀v w',C (fun k=>k==i||listed.getD k true) w'→(∀(k:Nat) ok,ops[k]? =some ok→i∉aP ok→i≠k→∀u,V k w u→V k w' u)→V i w' v→wpAny P .any ops Q' fuel (listed.setIfInBounds i true) (a.put o.dst v) w':=by
    intro v w' hC hm hV;apply ih
    ·have:=kQ hl.lsize hio hun;omega
    ·refine⟨?_,by simp[hl.lsize],by rw[nU];exact hl.size,by rw[put_defers];exact hl.defers,?_,?_,?_⟩
     ·rw[show(fun k=>(listed.setIfInBounds i true).getD k true)=fun k=>k==i||listed.getD k true from funext hset];exact hC
     ·intro k ok hk hlk j hj;rw[hset]at hlk⊢;by_cases e:k=i
      ·subst e;rw[hoi]at hk;cases hk;rw[fP j hj];simp
      ·have:listed.getD k true=true:=by simpa[e]using hlk
       rw[hl.closed k ok hk this j hj];simp
     ·intro k ok hk hlk d hdst;rw[hset]at hlk;by_cases e:k=i
      ·subst e;rw[hoi]at hk;cases hk;rw[hdst,fJ,if_pos ⟨rfl,by rw[hl.size];exact hN k o d hoi hdst⟩];exact hV
      ·have xE:listed.getD k true=true:=by simpa[e]using hlk
       have hnd:i∉aP ok:=fun h=>by have:=hl.closed k ok hk xE i h;rw[hun]at this;cases this
       have:=hm k ok hk hnd (Ne.symm e) _ (hl.done k ok hk xE d hdst);have hne:=(hshape k ok d hk hdst).1 (Ne.symm e)
       cases hd2:o.dst with
       |none=>exact this
       |some d2=>
        rw[fJ,if_neg]
        ·exact this
        ·rintro⟨rfl,_⟩;exact hne hd2
     ·intro t ht;have h1:=hl.rest t fun k ok hk hlk=>ht k ok hk (by rw[hset,hlk];simp);have h2:=ht i o hoi (by rw[hset];simp);rw[←h1]
      cases hd2:o.dst with
      |none=>rfl
      |some d2=>
       rw[fJ,if_neg];rintro⟨rfl,_⟩;exact h2 hd2
   unfold wpOp;simp only[hoi];split at hst
   ·rename_i hw;rw[if_pos hw];left;unfold Oper.wp;generalize (execOp a.eval o).run P w=r at hst
    cases r with
    |halt h w'=>exact hst.elim
    |ok n w'=>
     cases n with
     |value v=>exact go v w' hst.1 (fun k ok hk hnd hne u=>hmono i k ok hk hnd hne w w' u hst.2.1) hst.2.2
     |skip=>exact go undef w' hst.1 (fun k ok hk hnd hne u=>hmono i k ok hk hnd hne w w' u hst.2.1) hst.2.2
     |enter f args=>
      refine Calls.mono (show Calls P f args w' _ from hst) ?_;rintro e w'' ⟨v,rfl,h1,h2,h3⟩;exact go v w'' h1 (fun k ok hk hnd hne u=>hmono i k ok hk hnd hne w w'' u h2) h3
     |_=>exact(show False from hst).elim
   ·rename_i hw;rw[if_neg hw];exact go undef w hst.2 (fun _ _ _ _ _ _ h=>h) hst.1
def Ec (ops:Array Oper) (n:Nat):Bool:=ops.toList.all fun o=>match o.dst with|some d=>decide (d<n)|none=>true
theorem B_.get {tmps:Array Value} {w:World} {l:List Nat} (h:B_ ops V tmps w l) {j:Nat} (hj:l.contains j=true) {d:Tmp} (hd:(ops[j]?).bind (·.dst)=some d):V j w (tmps.getD d undef):=by
 induction l with
 |nil=>cases hj
 |cons k l ih=>
  by_cases e:j=k
  ·subst e;have:=h.1;rw[hd]at this;exact this
  ·refine ih h.2 ?_;rw[List.contains_cons]at hj;simpa[e]using hj
theorem aj {A B:World→Prop} {D:World→Value→Prop} {r:Result Next} {v:Value} {w':World} (hr:r= .ok (.value v) w') (h1:A w') (h2:B w') (h3:D w' v):
  fH P (fun v w'=>A w'∧B w'∧D w' v) r:=by
 subst hr;exact⟨h1,h2,h3⟩
theorem dK {A B:World→Prop} {D:World→Value→Prop} {r:Result Next} {w':World} (hr:r= .ok .skip w') (h1:A w') (h2:B w') (h3:D w' undef):
  fH P (fun v w'=>A w'∧B w'∧D w' v) r:=by
 subst hr;exact⟨h1,h2,h3⟩
theorem aF {A B:World→Prop} {D:World→Value→Prop} {r:Result Next} {f:FuncId} {args:Array Value} {w:World} {R:Ending→World→Prop} (hr:r= .ok (.enter f args) w) (hc:Calls P f args w R)
  (h:∀e w',R e w'→∃v,e= .returned v∧A w'∧B w'∧D w' v):fH P (fun v w'=>A w'∧B w'∧D w' v) r:=by
 subst hr;exact hc.mono h
structure Reads where
 reads:List (Tmp×Option Nat)
 guard:Tmp:=0
 next:List Nat:= []
def nI (f:Tmp→Value):Operand→Value
 | .tmp t=>f t
 | .const v=>v
 | .global g=> .pointer (some ⟨g,0,none⟩)
 | .func g=> .func (.func g) #[] #[]
def Facts (V:Nat→World→Value→Prop) (a0:Act) (w:World) (f:Tmp→Value):List (Tmp×Option Nat)→Prop
 | []=>True
 | (t,some j)::r=>V j w (f t)∧Facts V a0 w f r
 | (t,none)::r=>f t=a0.tmps.getD t undef∧Facts V a0 w f r
def ak (o:Oper) (v:Value):Bool:=
 match o.guard with
 |none=>true
 |some (_,want)=>(match v with| .bool b=>some b|_=>none)==some want
def au (P:Program) (V:Nat→World→Value→Prop) (C:(Nat→Bool)→World→Prop) (G:Nat→World→World→Prop) (a0:Act) (i:Nat) (o:Oper) (r:Reads):Prop:=
 ∀w L (f:Tmp→Value),C L w→L i=false→(∀j∈aP o,L j=true)→(∀j∈r.next,L j=false)→Facts V a0 w f r.reads→
  if ak o (f r.guard)=true then fH P (fun v w'=>C (fun k=>k==i||L k) w'∧G i w w'∧V i w' v) ((execOp (nI f) o).run P w)
  else V i w undef∧C (fun k=>k==i||L k) w
def mV (P:Program) (V:Nat→World→Value→Prop) (C:(Nat→Bool)→World→Prop) (G:Nat→World→World→Prop) (a0:Act):Nat→List Oper→List Reads→Prop
 |_,[],_=>True
 |i,o::l,rs=>au P V C G a0 i o (rs.headD ⟨[],0,[]⟩)∧mV P V C G a0 (i+1) l rs.tail
def CP (ops:Array Oper) (R:List Reads):Bool:=
 (List.range ops.size).all fun i=>match ops[i]? with
  |none=>true
  |some o=>
   ((R.drop i).headD ⟨[],0,[]⟩).reads.all (fun p=>match p.2 with
    |some j=>(match ops[j]? with|some oj=>oj.dst==some p.1|none=>false)&&(aP o).contains j
    |none=>(List.range ops.size).all fun j=>match ops[j]? with|some oj=>oj.dst !=some p.1|| (aP oj).contains i|none=>true)&&
   (match o.guard with
    |none=>true
    |some (j,_)=>match ops[j]? with|some oj=>oj.dst==some ((R.drop i).headD ⟨[],0,[]⟩).guard|none=>false)&&
   ((R.drop i).headD ⟨[],0,[]⟩).next.all (fun j=>match ops[j]? with|some oj=>(aP oj).contains i|none=>false)
theorem mV.get {a0:Act} (l:List Oper):∀(R:List Reads) (i k:Nat) (o:Oper),mV P V C G a0 i l R→l[k]? =some o→au P V C G a0 (i+k) o ((R.drop k).headD ⟨[],0,[]⟩):=by
 induction l with
 |nil=>intro R i k o _ hk;simp at hk
 |cons o' l ih=>
  intro R i k o h hk
  cases k with
  |zero=>
   simp at hk;subst hk;exact h.1
  |succ k=>
   have h2:=ih R.tail (i+1) k o h.2 (by simpa using hk);rw[List.drop_tail,Nat.add_assoc,Nat.add_comm 1 k]at h2;exact h2
theorem lS (a:Act):nI (fun t=>a.tmps.getD t undef)=a.eval:=by
 funext x;cases x<;>rfl
theorem Facts.of {a0 a:Act} {w:World} {o:Oper} {i:Nat} (hD:B_ ops V a.tmps w (aP o)) (ha:∀t:Tmp,(∀(j:Nat) (oj:Oper),ops[j]? =some oj→oj.dst=some t→i∈aP oj)→a.tmps.getD t undef=a0.tmps.getD t undef):
  ∀l:List (Tmp×Option Nat),(l.all fun p=>match p.2 with
    |some j=>(match ops[j]? with|some oj=>oj.dst==some p.1|none=>false)&&(aP o).contains j
    |none=>(List.range ops.size).all fun j=>match ops[j]? with|some oj=>oj.dst !=some p.1|| (aP oj).contains i|none=>true)=true→Facts V a0 w (fun t=>a.tmps.getD t undef) l:=by
 intro l
 induction l with
 |nil=>intro _;trivial
 |cons p l ih=>
  intro h;rw[List.all_cons,Bool.and_eq_true]at h;obtain⟨t,s⟩:=p
  cases s with
  |some j=>
   simp only[Bool.and_eq_true]at h;refine⟨?_,ih h.2⟩
   cases hj:ops[j]? with
   |none=>rw[hj]at h;exact absurd h.1.1 (by simp)
   |some oj=>
    rw[hj]at h;exact hD.get h.1.2 (by rw[hj];simpa using h.1.1)
  |none=>
   refine⟨ha t fun j oj hj hd=> ?_,ih h.2⟩;have h3:=List.all_eq_true.1 h.1 j (List.mem_range.2 (Array.getElem?_eq_some_iff.1 hj).1);simp only[hj,hd,bne_self_eq_false,Bool.false_or]at h3;exact List.contains_iff_mem.1 h3
theorem Af.of {a0:Act} {R:List Reads} (hok:lI ops=true) (htab:CP ops R=true) (hall:mV P V C G a0 0 ops.toList R) (x:Nat→Value) (i:Nat) (o:Oper) (hi:ops[i]? =some o):
  Af P ops V C G i o (bW ops x a0 i):=by
 intro w L hC hL hd hn hD;have hilt:=(Array.getElem?_eq_some_iff.1 hi).1;have ht:=List.all_eq_true.1 htab i (List.mem_range.2 hilt);simp only[hi,Bool.and_eq_true]at ht;have h2:=mV.get ops.toList R 0 i o hall (by simpa using hi);rw[Nat.zero_add]at h2;generalize (R.drop i).headD ⟨[],0,[]⟩=r at ht h2
 have hnx:∀j∈r.next,L j=false:=fun j hj=>by
  have:=List.all_eq_true.1 ht.2 j hj
  cases hoj:ops[j]? with
  |none=>rw[hoj]at this;exact absurd this (by simp)
  |some oj=>rw[hoj]at this;exact hn j oj hoj (List.contains_iff_mem.1 this)
 have hf:=Facts.of (a0:=a0) (a:=bW ops x a0 i) hD (fun t h=>dV x a0 i t fun j hj hjd=>by
  cases hoj:ops[j]? with
  |none=>rw[hoj]at hjd;cases hjd
  |some oj=>
   rw[hoj]at hjd;have:=(dW hok hoj).1 i (h j oj hoj hjd)
   omega) r.reads ht.1.1
 have h3:=h2 w L (fun t=>(bW ops x a0 i).tmps.getD t undef) hC hL hd hnx hf;rw[lS]at h3
 have hw:Region.wanted o (yielded ops (bW ops x a0 i).tmps)=ak o ((bW ops x a0 i).tmps.getD r.guard undef):=by
  unfold Region.wanted ak
  cases hg:o.guard with
  |none=>rfl
  |some g=>
   obtain⟨j,want⟩:=g;have h4:=ht.1.2;rw[hg]at h4;simp only at h4⊢
   cases hoj:ops[j]? with
   |none=>rw[hoj]at h4;exact absurd h4 (by simp)
   |some oj=>
    rw[hoj]at h4
    have hdst:oj.dst=some r.guard:=by simpa using h4
    unfold yielded;simp only[hoj,Option.bind_some,hdst];rw[Array.getD_eq_getD_getElem?]
    cases (bW ops x a0 i).tmps[r.guard]? with
    |none=>rfl
    |some v=>cases v<;>rfl
 rw[hw];exact h3
def framed (x:Nat→Value):List (Option Nat)→List Value→List Value
 |d::ds,v::vs=>(match d with|some j=>x j|none=>v)::framed x ds vs
 |_,vs=>vs
theorem jS (x:Nat→Value):∀(ds:List (Option Nat)) (vs:List Value),(framed x ds vs).length=vs.length
 | [],vs=>by cases vs<;>rfl
 |d::ds,[]=>rfl
 |d::ds,v::vs=>by simp[framed,jS x ds vs]
theorem rW (x:Nat→Value):∀(ds:List (Option Nat)) (vs:List Value) (t:Nat),t<vs.length→(framed x ds vs).getD t undef=match ds.getD t none with|some j=>x j|none=>vs.getD t undef
 | [],vs,t,_=>by cases vs<;>rfl
 |d::ds,[],t,h=>by simp at h
 |d::ds,v::vs,0,_=>by cases d<;>rfl
 |d::ds,v::vs,t+1,h=>by have:=rW x ds vs t (by simpa using h);simpa[framed]using this
def oq (ops:Array Oper) (D:List (Option Nat)) (n:Nat):Bool:=
 (List.range n).all fun t=>match D.getD t none with
  |some j=>match ops[j]? with|some oj=>oj.dst==some t|none=>false
  |none=>(List.range ops.size).all fun j=>match ops[j]? with|some oj=>oj.dst !=some t|none=>true
theorem lH {a0:Act} {D:List (Option Nat)} (hok:lI ops=true) (hf:oq ops D a0.tmps.size=true) (x:Nat→Value):bW ops x a0 ops.size=⟨(framed x D a0.tmps.toList).toArray,a0.defers⟩:=by
 have hd:=jK (ops:=ops) x a0 ops.size
 have ht:(bW ops x a0 ops.size).tmps=(framed x D a0.tmps.toList).toArray:=by
  apply Array.ext_getElem?;intro t
  have hsz:(bW ops x a0 ops.size).tmps.size=(framed x D a0.tmps.toList).toArray.size:=by rw[dZ];simp[jS]
  apply iZ hsz;by_cases hlt:t<a0.tmps.size
  ·have h1:=List.all_eq_true.1 hf t (List.mem_range.2 hlt);have h2:=rW x D a0.tmps.toList t (by simpa using hlt)
   have h3:(framed x D a0.tmps.toList).toArray.getD t undef=(framed x D a0.tmps.toList).getD t undef:=by simp[Array.getD_eq_getD_getElem?]
   rw[h3,h2]
   cases hD:D.getD t none with
   |some j=>
    rw[hD]at h1;simp only at h1
    cases hoj:ops[j]? with
    |none=>rw[hoj]at h1;exact absurd h1 (by simp)
    |some oj=>
     rw[hoj]at h1
     have hdst:oj.dst=some t:=by simpa using h1
     have hjl:=(Array.getElem?_eq_some_iff.1 hoj).1;refine EP x a0 ops.size t j hjl (by rw[hoj];exact hdst) (fun k hk hkd=> ?_) hlt
     cases hok2:ops[k]? with
     |none=>rw[hok2]at hkd;cases hkd
     |some ok=>
      rw[hok2]at hkd;by_cases e:j=k
      ·exact e.symm
      ·exact absurd hdst (((dW hok hoj).2.2 k ok t hok2 hkd).1 e)
   |none=>
    rw[hD]at h1;rw[dV]
    ·simp[Array.getD_eq_getD_getElem?]
    ·intro j hj hjd
     cases hoj:ops[j]? with
     |none=>rw[hoj]at hjd;cases hjd
     |some oj=>
      rw[hoj]at hjd;have h4:=List.all_eq_true.1 h1 j (List.mem_range.2 hj);rw[hoj]at h4;simp only[bne_iff_ne]at h4;exact h4 hjd
  ·rw[oh (x:=(bW ops x a0 ops.size).tmps) (t:=t) (by rw[dZ];omega),oh (x:=(framed x D a0.tmps.toList).toArray) (t:=t) (by simp[jS];omega)]
 cases h1:bW ops x a0 ops.size;rw[h1]at hd ht;simp only at hd ht;rw[hd,ht]
def mW (G:Nat→World→World→Prop):Nat→List (World→Value→Prop)→List Reads→Prop
 |_,[],_=>True
 |j,f::r,rs=>(∀i,i≠j→((rs.headD ⟨[],0,[]⟩).reads.all fun p=>p.2 !=some i)=true→∀w w' v,G i w w'→f w v→f w' v)∧mW G (j+1) r rs.tail
theorem mW.get:∀(l:List (World→Value→Prop)) (R:List Reads) (n:Nat),mW G n l R→∀i j,i≠n+j→(((R.drop j).headD ⟨[],0,[]⟩).reads.all fun p=>p.2 !=some i)=true→∀w w' v,G i w w'→(l.getD j fun _ _=>True) w v→(l.getD j fun _ _=>True) w' v
 | [],_,_,_,_,_,_,_=>by intro w w' v _ _;exact trivial
 |f::r,R,n,h,i,0,hne,hr=>h.1 i hne hr
 |f::r,R,n,h,i,j+1,hne,hr=>mW.get r R.tail (n+1) h.2 i j (by omega) (by rw[List.drop_tail];exact hr)
theorem yQ {R:List Reads} (htab:CP ops R=true) {j:Nat} {oj:Oper} (hj:ops[j]? =some oj) {i:Nat} (hi:i∉aP oj):(((R.drop j).headD ⟨[],0,[]⟩).reads.all fun p=>p.2 !=some i)=true:=by
 have ht:=List.all_eq_true.1 htab j (List.mem_range.2 (Array.getElem?_eq_some_iff.1 hj).1);simp only[hj,Bool.and_eq_true]at ht;rw[List.all_eq_true];intro p hp;have h1:=List.all_eq_true.1 ht.1.1 p hp;obtain⟨t,s⟩:=p
 cases s with
 |none=>rfl
 |some k=>
  simp only[Bool.and_eq_true]at h1;have h2:=List.contains_iff_mem.1 h1.2;simp only[bne_iff_ne,ne_eq,Option.some.injEq];rintro rfl;exact hi h2
theorem mY {id:Nat} {a0:Act} {w:World} {Q':Exit→Act→World→Prop} (Vs:List (World→Value→Prop)) (R:List Reads) (D:List (Option Nat)) (C:(Nat→Bool)→World→Prop) (G:Nat→World→World→Prop)
  (hm:P.follows .mixedOrders=true) (hok:lI ops=true) (htab:CP ops R=true) (hfr:oq ops D a0.tmps.size=true) (hN:Ec ops a0.tmps.size=true) (hmono:mW G 0 Vs R)
  (h0:C (fun k=> !decide (k<ops.size)) {w with drawn:=w.drawn+1})
  (each:mV P (fun i=>Vs.getD i fun _ _=>True) C G a0 0 ops.toList R)
  (fin:∀(x:Nat→Value) w',C (fun _=>true) w'→(∀k o,ops[k]? =some o→o.dst.isSome=true→(Vs.getD k fun _ _=>True) w' (x k))→Q' .normal ⟨(framed x D a0.tmps.toList).toArray,a0.defers⟩ w'):
  (Code.region id ops true).wp P Q' a0 w:=by
 refine wp_region_any hm (Ah (V:=fun i=>Vs.getD i fun _ _=>True) (C:=C) (G:=G) (a0:=a0) hok ?_ (fun i j oj hj hi hne=>mW.get Vs R 0 hmono i j (by omega) (yQ htab hj hi)) (fun x i o hi=>Af.of hok htab each x i o hi) ?_ ops.size _ a0 _ ?_ ?_)
 ·intro i o d hi hd;have:=List.all_eq_true.1 hN o (by simpa using Array.mem_of_getElem? hi);rw[hd]at this;simpa using this
 ·intro x w hC hV;rw[lH hok hfr];exact fin x w hC hV
 ·unfold iW;rw[List.filter_eq_self.2]
  ·simp
  ·intro i hi;have:=List.mem_range.1 hi;simp[this]
 ·refine⟨?_,by simp,rfl,rfl,?_,?_,fun _ _=>rfl⟩
  ·rw[show(fun k=>(Array.replicate ops.size false).getD k true)=fun k=> !decide (k<ops.size)from funext fun k=>by
    rw[Array.getD_eq_getD_getElem?,Array.getElem?_replicate]
    by_cases h:k<ops.size<;>simp[h]]
   exact h0
  ·intro i o hi hl;have:=(Array.getElem?_eq_some_iff.1 hi).1;simp[this]at hl
  ·intro i o hi hl;have:=(Array.getElem?_eq_some_iff.1 hi).1;simp[this]at hl
theorem au.live {b:Bool} {X Y:Prop} (hb:b=true) (h:X):if b=true then X else Y:=by rw[if_pos hb];exact h
theorem au.dead {b:Bool} {X A B:Prop} (hb:b=false) (h1:B) (h2:A):if b=true then X else A∧B:=by subst hb;exact⟨h2,h1⟩
end
abbrev eqv {α β:Type} (u:Value):α→β→Value→Prop:=fun _ _ v=>v=u
abbrev eqw {β:Type} (u:Value):β→Value→Prop:=fun _ v=>v=u
abbrev eud {α β:Type}:α→β→Value→Prop:=eqv undef
abbrev ewd {β:Type}:β→Value→Prop:=eqw undef
abbrev rd1 (t o:Nat):Reads:=⟨[(t,some o)],0,[]⟩
abbrev rn1 (t:Nat):Reads:=⟨[(t,none)],0,[]⟩
abbrev no:Option Nat:=none
abbrev so (n:Nat):Option Nat:=some n
abbrev rq1 (t g p:Nat):Reads:=⟨[(t,none),(g,some p)],g,[]⟩
abbrev rg1 (t o g p:Nat):Reads:=⟨[(t,some o),(g,some p)],g,[]⟩
theorem evs (f:Nat→Value):(∀t,nI f (.tmp t)=f t)∧(∀c,nI f (.const c)=c)∧∀g,nI f (.func g)= .func (.func g) #[] #[]:=⟨fun _=>rfl,fun _=>rfl,fun _=>rfl⟩
theorem rU {w w':World} (h:Below w.heap.size w w') (row:Option Nat):w.grownBy w' row:=⟨h.os,h.tape,h.output,h.size,fun k hk _=>h.block k hk⟩
theorem own_below {w w':World} {base:Nat} {e:TypeId} {size:Nat} {v:Value} {n:Nat} {xs:List Value} (h:w.ownsRow base e size v n xs) (hb:Below w.heap.size w w'):w'.ownsRow base e size v n xs:=by
 refine h.kept (rU hb none) ?_;cases v.ownBlock
 ·exact .inl rfl
 ·exact .inr (by simp)
theorem A8 {w w':World} {base base':Nat} {e e':TypeId} {size size':Nat} {v v':Value} {n n':Nat} {xs xs':List Value} (h:w.ownsRow base e size v n xs) (h':w.ownsRow base' e' size' v' n' xs') (hne:e≠e')
  (hg:w.grownBy w' v'.ownBlock):w'.ownsRow base e size v n xs:=by
 refine h.kept hg ?_;rcases h.2 with⟨rfl,_⟩| ⟨g,cap,cur,rfl,_,hh,_⟩
 ·exact .inl rfl
 ·right;rcases h'.2 with⟨rfl,_⟩| ⟨g',cap',cur',rfl,_,hh',_⟩
  ·simp[Value.ownBlock]
  ·intro he
   have:g=g':=by simpa[Value.ownBlock]using he
   subst this;rw[hh]at hh';injection hh' with h1;injection h1 with _ h2;exact hne h2
theorem own_base {w:World} {base base':Nat} {e:TypeId} {size:Nat} {v:Value} {n:Nat} {xs:List Value} (h:w.ownsRow base e size v n xs) (hB:base'≤base):w.ownsRow base' e size v n xs:=by
 refine⟨h.1,?_⟩;rcases h.2 with h2| ⟨g,cap,cur,h3,h4,h5⟩
 ·exact .inl h2
 ·exact .inr ⟨g,cap,cur,h3,by omega,h5⟩
section
variable {P:Program} (w:World)
theorem oP (base:Nat) (t ty e:TypeId) (i:TypeInfo) (size:Nat) (ht:P.underlying t=some (.slice e)) (hi:P.info? e=some i)
  (v:Value) (n:Nat) (xs:List Value) (hown:w.ownsRow base e size v n xs) (c:Nat):(Builtin.append_ #[t,t] ty #[v,.slice none 0 c]).run P w= .ok v w:=by
 rcases hown.2 with⟨rfl,_⟩| ⟨g,cap,cur,rfl,_,_,hnc,_⟩
 ·simp[Builtin.append_,run_underlying ht,sizeOf,typeInfo,hi,Builtin.lenOf,Builtin.firstCells]
 ·simp[Builtin.append_,run_underlying ht,sizeOf,typeInfo,hi,Builtin.lenOf,Builtin.firstCells,hnc,storeCells]
end
theorem Row.one (w:World) (t:TypeId) (x:Value):Row (w.alloc (.cells #[x] t)) (w.alloc (.cells #[x] t)).heap.size (some ⟨w.heap.size,0,none⟩) [x]:=Row.fresh w t [x]
def Keeps (B:Nat) (e:TypeId) (w w':World):Prop:=∀v n xs,w.ownsRow B e 1 v n xs→w'.ownsRow B e 1 v n xs
theorem Keeps.refl (B:Nat) (e:TypeId) (w:World):Keeps B e w w:=fun _ _ _ h=>h
theorem Keeps.below {B:Nat} {e:TypeId} {w w':World} (hb:Below w.heap.size w w'):Keeps B e w w':=fun _ _ _ h=>own_below h hb
theorem Keeps.other {B B':Nat} {e e':TypeId} {w w':World} {v:Value} {n:Nat} {xs:List Value} (h:w.ownsRow B' e' 1 v n xs) (hne:e≠e') (hg:w.grownBy w' v.ownBlock):Keeps B e w w':=fun _ _ _ h'=>A8 h' h hne hg
def mD (b c:Option Nat) (w w':World):Prop:=∀k,k<w.heap.size→some k≠b→some k≠c→w'.heap[k]? =w.heap[k]?
theorem mD.refl (b c:Option Nat) (w:World):mD b c w w:=fun _ _ _ _=>rfl
theorem mD.below {b c:Option Nat} {w w':World} (hb:Below w.heap.size w w'):mD b c w w':=fun k hk _ _=>hb.block k hk
theorem mD.left {b c:Option Nat} {w w':World} (hg:w.grownBy w' b):mD b c w w':=fun k hk h _=>hg.block k hk h
theorem mD.right {b c:Option Nat} {w w':World} (hg:w.grownBy w' c):mD b c w w':=fun k hk _ h=>hg.block k hk h
theorem FM {w:World} {base:Nat} {e:TypeId} {size:Nat} {v:Value} {n:Nat} {xs:List Value} (h:w.ownsRow base e size v n xs) {k:Nat} (hk:w.heap.size≤k):some k≠v.ownBlock:=fun e=>by
 have:=h.lt k e.symm;omega
def BX (ops:Array Oper) (V:Nat→(Nat→Bool)→World→Value→Prop) (L:Nat→Bool) (tmps:Array Value) (w:World):List Nat→Prop
 | []=>True
 |j::r=>(match (ops[j]?).bind (·.dst)with|some d=>V j L w (tmps.getD d undef)|none=>True)∧BX ops V L tmps w r
def reach (ops:Array Oper):Nat→Nat→Nat→Bool
 |0,_,_=>false
 |n+1,j,i=>match ops[j]? with
  |some oj=>(aP oj).any fun d=>d==i||reach ops n d i
  |none=>false
theorem nS {ops:Array Oper} {L:Nat→Bool} (hc:∀(k:Nat) ok,ops[k]? =some ok→L k=true→∀j∈aP ok,L j=true):∀n j i,reach ops n j i=true→L j=true→L i=true:=by
 intro n
 induction n with
 |zero=>intro j i h;cases h
 |succ n ih=>
  intro j i h hj;unfold reach at h
  cases ho:ops[j]? with
  |none=>rw[ho]at h;cases h
  |some oj=>
   rw[ho]at h;simp only[List.any_eq_true,Bool.or_eq_true,beq_iff_eq]at h;obtain⟨d,hd,h⟩:=h;have hLd:=hc j oj ho hj d hd;rcases h with rfl|h
   ·exact hLd
   ·exact ih d i h hLd
def oJ (ops:Array Oper) (R:List Reads):Bool:=
 (List.range ops.size).all fun i=>match ops[i]? with
  |none=>true
  |some o=>
   ((R.drop i).headD ⟨[],0,[]⟩).reads.all (fun p=>match p.2 with
    |some j=>(match ops[j]? with|some oj=>oj.dst==some p.1|none=>false)&&(aP o).contains j
    |none=>(List.range ops.size).all fun j=>match ops[j]? with|some oj=>oj.dst !=some p.1|| (aP oj).contains i|none=>true)&&
   (match o.guard with
    |none=>true
    |some (j,_)=>match ops[j]? with|some oj=>oj.dst==some ((R.drop i).headD ⟨[],0,[]⟩).guard|none=>false)&&
   ((R.drop i).headD ⟨[],0,[]⟩).next.all (fun j=>reach ops ops.size j i)
def wo (P:Program) (ops:Array Oper) (V:Nat→(Nat→Bool)→World→Value→Prop) (C:(Nat→Bool)→World→Prop) (G:Nat→World→World→Prop) (i:Nat) (o:Oper) (a:Act):Prop:=
 ∀w L,C L w→L i=false→(∀j∈aP o,L j=true)→(∀j,reach ops ops.size j i=true→L j=false)→BX ops V L a.tmps w (aP o)→
  if Region.wanted o (yielded ops a.tmps)then fH P (fun v w'=>C (fun k=>k==i||L k) w'∧G i w w'∧V i (fun k=>k==i||L k) w' v) ((execOp a.eval o).run P w)
  else V i (fun k=>k==i||L k) w undef∧C (fun k=>k==i||L k) w∧G i w w
section
variable {P:Program} {ops:Array Oper} {V:Nat→(Nat→Bool)→World→Value→Prop} {C:(Nat→Bool)→World→Prop} {G:Nat→World→World→Prop} {Q:Act→World→Prop}
structure G8 (ops:Array Oper) (V:Nat→(Nat→Bool)→World→Value→Prop) (C:(Nat→Bool)→World→Prop) (a0:Act) (listed:Array Bool) (a:Act) (w:World):Prop where
 cls:C (fun k=>listed.getD k true) w
 lsize:listed.size=ops.size
 size:a.tmps.size=a0.tmps.size
 defers:a.defers=a0.defers
 closed:∀(i:Nat) o,ops[i]? =some o→listed.getD i true=true→∀j∈aP o,listed.getD j true=true
 done:∀(i:Nat) o,ops[i]? =some o→listed.getD i true=true→∀d,o.dst=some d→V i (fun k=>listed.getD k true) w (a.tmps.getD d undef)
 rest:∀t,(∀(i:Nat) o,ops[i]? =some o→listed.getD i true=true→o.dst≠some t)→a.tmps.getD t undef=a0.tmps.getD t undef
theorem yA {a0:Act} {Q':Exit→Act→World→Prop} (hok:lI ops=true) (hN:∀(i:Nat) o d,ops[i]? =some o→o.dst=some d→d<a0.tmps.size)
  (hmono:∀(i j:Nat) oj,ops[j]? =some oj→i∉aP oj→i≠j→∀L w w' v,L i=false→C L w→C (fun k=>k==i||L k) w'→G i w w'→V j L w v→V j (fun k=>k==i||L k) w' v) (steps:∀x (i:Nat) o,ops[i]? =some o→wo P ops V C G i o (bW ops x a0 i))
  (hQ:∀x w,C (fun _=>true) w→(∀(k:Nat) o,ops[k]? =some o→o.dst.isSome=true→V k (fun _=>true) w (x k))→Q' .normal (bW ops x a0 ops.size) w):
  ∀(fuel:Nat) (listed:Array Bool) (a:Act) (w:World),iW ops.size listed=fuel→G8 ops V C a0 listed a w→wpAny P .any ops Q' fuel listed a w:=by
 have hend:∀(listed:Array Bool) (a:Act) (w:World),(∀i,i<ops.size→listed.getD i true=true)→G8 ops V C a0 listed a w→Q' .normal a w:=by
  intro listed a w hall hl;have hC:=hl.cls
  have hlt:(fun k=>listed.getD k true)=fun _=>true:=funext fun k=>by
   by_cases hk:k<ops.size
   ·exact hall k hk
   ·rw[Array.getD_eq_getD_getElem?,Array.getElem?_eq_none (by rw[hl.lsize];omega)];rfl
  rw[hlt]at hC
  have hq:=hQ (valsOf ops a) w hC fun k o hk hs=>by obtain⟨d,hd⟩:=Option.isSome_iff_exists.1 hs;have:=hl.done k _ hk (hall k (Array.getElem?_eq_some_iff.1 hk).1) d hd;rw[hlt]at this;unfold valsOf;rw[hk];simp only[Option.bind_some,hd];exact this
  have e:bW ops (valsOf ops a) a0 ops.size=a:=by
   have hsz:(bW ops (valsOf ops a) a0 ops.size).tmps.size=a.tmps.size:=by rw[dZ,hl.size]
   have hd:(bW ops (valsOf ops a) a0 ops.size).defers=a.defers:=by rw[jK,hl.defers]
   have ht:(bW ops (valsOf ops a) a0 ops.size).tmps=a.tmps:=by
    apply Array.ext_getElem?;intro t;apply iZ hsz;by_cases hw:∃j,j<ops.size∧(ops[j]?).bind (·.dst)=some t
    ·exact fU hl.size _ _ hw
    ·rw[dV _ _ _ _ (fun j hj hd=>hw ⟨j,hj,hd⟩)];exact(hl.rest t fun i o hi _ hd=>hw ⟨i,(Array.getElem?_eq_some_iff.1 hi).1,by rw[hi];exact hd⟩).symm
   cases h1:bW ops (valsOf ops a) a0 ops.size;cases a;simp only[h1]at hd ht;rw[hd,ht]
  rw[e]at hq;exact hq
 intro fuel
 induction fuel with
 |zero=>
  intro listed a w hu hl
  have hall:∀i,i<ops.size→listed.getD i true=true:=by intro i hi;have:=List.eq_nil_of_length_eq_zero hu;have h2:=List.filter_eq_nil_iff.1 this i (List.mem_range.2 hi);simpa using h2
  refine⟨?_,hend listed a w hall hl⟩;unfold Region.ready;rw[List.filter_eq_nil_iff];intro i hi;simp[hall i (List.mem_range.1 hi)]
 |succ fuel ih=>
  intro listed a w hu hl;refine⟨fun hr=>hend listed a w ?_ hl,fun i hi=> ?_⟩
  ·have hall:∀n,∀i,i<n→i<ops.size→listed.getD i true=true:=by
    intro n
    induction n with
    |zero=>intro i h;omega
    |succ n ihn=>
     intro i hin hio;by_cases hlt:i<n
     ·exact ihn i hlt hio
     ·obtain rfl:i=n:=by omega
      unfold Region.ready at hr;have h2:=List.filter_eq_nil_iff.1 hr i (List.mem_range.2 hio)
      cases hb:listed.getD i true with
      |true=>rfl
      |false=>
       exfalso;apply h2;have hoi:ops[i]? =some ops[i]:=Array.getElem?_eq_getElem hio;have fP:=(dW hok hoi).1;rw[hb,hoi];simp only[Bool.not_false,Bool.true_and,Option.map_some,Option.getD_some];rw[Array.all_eq_true_iff_forall_mem];intro e he
       cases hbn:Region.binds .any e with
       |false=>rfl
       |true=>
        have hm:e.on∈aP ops[i]:=List.mem_map.2 ⟨e,List.mem_filter.2 ⟨by simpa using he,hbn⟩,rfl⟩;have h3:=ihn e.on (fP _ hm) (by have:=fP _ hm;omega)
        have h4:e.on<listed.size:=by rw[hl.lsize];have:=fP _ hm;omega
        simp only[Array.getD_eq_getD_getElem?,Array.getElem?_eq_getElem h4]at h3⊢;simpa using h3
   exact fun i hi=>hall (i+1) i (by omega) hi
  ·unfold Region.ready at hi;obtain⟨hir,hcond⟩:=List.mem_filter.1 hi;have hio:=List.mem_range.1 hir;have hoi:ops[i]? =some ops[i]:=Array.getElem?_eq_getElem hio;generalize ops[i]=o at hoi;simp only[hoi,Option.map_some,Option.getD_some,Bool.and_eq_true,Bool.not_eq_true']at hcond;obtain⟨hun,hafter⟩:=hcond;obtain⟨rP,hsel,hshape⟩:=dW hok hoi
   have fP:∀j∈aP o,listed.getD j true=true:=by
    intro j hj;obtain⟨e,he,rfl⟩:=List.mem_map.1 hj;obtain⟨he1,he2⟩:=List.mem_filter.1 he;have h3:=(Array.all_eq_true_iff_forall_mem.1 hafter) e (by simpa using he1);rw[he2]at h3;simp only[Bool.not_true,Bool.false_or]at h3
    have h4:e.on<listed.size:=by rw[hl.lsize];have:=rP _ hj;omega
    simp only[Array.getD_eq_getD_getElem?,Array.getElem?_eq_getElem h4]at h3⊢;simpa using h3
   have hnext:∀j,reach ops ops.size j i=true→listed.getD j true=false:=by
    intro j hj
    cases hb:listed.getD j true with
    |false=>rfl
    |true=>
     have:listed.getD i true=true:=nS (L:=fun k=>listed.getD k true) hl.closed _ _ _ hj hb;rw[hun]at this;cases this
   let x:=valsOf ops a
   have hlook:∀t∈o.looksAt ops,(bW ops x a0 i).tmps.getD t undef=a.tmps.getD t undef:=by
    intro t ht;by_cases hw:∃j,j<i∧(ops[j]?).bind (·.dst)=some t
    ·exact fU hl.size _ _ hw
    ·rw[dV _ _ _ _ (fun j hj hd=>hw ⟨j,hj,hd⟩)];refine(hl.rest t fun k ok hk hlk hdk=> ?_).symm;rcases(hshape k ok t hk hdk).2 ht with h1|h1
     ·exact hw ⟨k,rP k h1,by rw[hk];exact hdk⟩
     ·have:=hl.closed k ok hk hlk i h1;rw[hun]at this;cases this
   have DY:(bW ops x a0 i).tmps.size=a.tmps.size:=by rw[dZ,hl.size]
   have hex:execOp (bW ops x a0 i).eval o=execOp a.eval o:=execOp_congr o hsel fun y hy=>by
    cases y with
    |tmp t=>
     have:t∈o.looksAt ops:=List.mem_append_left _ (List.mem_filterMap.2 ⟨.tmp t,by simpa using hy,rfl⟩);have h5:=hlook t this;simpa[Act.eval]using h5
    |_=>rfl
   have hwt:=oH (ops:=ops) (o:=o) DY hlook
   have xO:∀l:List Nat,(∀j∈l,j∈aP o)→BX ops V (fun k=>listed.getD k true) (bW ops x a0 i).tmps w l:=by
    intro l
    induction l with
    |nil=>intro _;trivial
    |cons j l ihl=>
     intro hj;refine⟨?_,ihl fun k hk=>hj k (List.mem_cons_of_mem _ hk)⟩;have hjd:=hj j (List.mem_cons_self ..);have hji:=rP j hjd;have hoj:ops[j]? =some ops[j]:=Array.getElem?_eq_getElem (by omega);have hd:=hl.done j _ hoj (fP j hjd)
     cases hdst:(ops[j]?).bind (·.dst)with
     |none=>trivial
     |some d=>
      show V j (fun k=>listed.getD k true) w _;rw[hoj]at hdst;simp only[Option.bind_some]at hdst;rw[fU hl.size i d ⟨j,hji,by rw[hoj];exact hdst⟩];exact hd d hdst
   have hst:=steps x i o hoi w (fun k=>listed.getD k true) hl.cls hun fP hnext (xO _ fun _ h=>h);rw[hwt,hex]at hst
   have hset:∀k,(listed.setIfInBounds i true).getD k true=(k==i||listed.getD k true):=by
    intro k;simp only[Array.getD_eq_getD_getElem?,Array.getElem?_setIfInBounds];by_cases e:i=k
    ·subst e;simp[hl.lsize,hio]
    ·rw[if_neg e];simp[Ne.symm e]
   have go:∀v w',C (fun k=>k==i||listed.getD k true) w'→(∀(k:Nat) ok,ops[k]? =some ok→i∉aP ok→i≠k→∀u,V k (fun k=>listed.getD k true) w u→V k (fun k=>k==i||listed.getD k true) w' u)→V i (fun k=>k==i||listed.getD k true) w' v→wpAny P .any ops Q' fuel (listed.setIfInBounds i true) (a.put o.dst v) w':=by
    intro v w' hC hm hV;apply ih
    ·have:=kQ hl.lsize hio hun;omega
    ·refine⟨?_,by simp[hl.lsize],by rw[nU];exact hl.size,by rw[put_defers];exact hl.defers,?_,?_,?_⟩
     ·rw[show(fun k=>(listed.setIfInBounds i true).getD k true)=fun k=>k==i||listed.getD k true from funext hset];exact hC
     ·intro k ok hk hlk j hj;rw[hset]at hlk⊢;by_cases e:k=i
      ·subst e;rw[hoi]at hk;cases hk;rw[fP j hj];simp
      ·have:listed.getD k true=true:=by simpa[e]using hlk
       rw[hl.closed k ok hk this j hj];simp
     ·intro k ok hk hlk d hdst;rw[show(fun k=>(listed.setIfInBounds i true).getD k true)=fun k=>k==i||listed.getD k true from funext hset];rw[hset]at hlk;by_cases e:k=i
      ·subst e;rw[hoi]at hk;cases hk;rw[hdst,fJ,if_pos ⟨rfl,by rw[hl.size];exact hN k o d hoi hdst⟩];exact hV
      ·have xE:listed.getD k true=true:=by simpa[e]using hlk
       have hnd:i∉aP ok:=fun h=>by have:=hl.closed k ok hk xE i h;rw[hun]at this;cases this
       have:=hm k ok hk hnd (Ne.symm e) _ (hl.done k ok hk xE d hdst);have hne:=(hshape k ok d hk hdst).1 (Ne.symm e)
       cases hd2:o.dst with
       |none=>exact this
       |some d2=>
        rw[fJ,if_neg]
        ·exact this
        ·rintro⟨rfl,_⟩;exact hne hd2
     ·intro t ht;have h1:=hl.rest t fun k ok hk hlk=>ht k ok hk (by rw[hset,hlk];simp);have h2:=ht i o hoi (by rw[hset];simp);rw[←h1]
      cases hd2:o.dst with
      |none=>rfl
      |some d2=>
       rw[fJ,if_neg];rintro⟨rfl,_⟩;exact h2 hd2
   unfold wpOp;simp only[hoi];split at hst
   ·rename_i hw;rw[if_pos hw];left;unfold Oper.wp;generalize (execOp a.eval o).run P w=r at hst
    cases r with
    |halt h w'=>exact hst.elim
    |ok n w'=>
     cases n with
     |value v=>exact go v w' hst.1 (fun k ok hk hnd hne u=>hmono i k ok hk hnd hne _ w w' u hun hl.cls hst.1 hst.2.1) hst.2.2
     |skip=>exact go undef w' hst.1 (fun k ok hk hnd hne u=>hmono i k ok hk hnd hne _ w w' u hun hl.cls hst.1 hst.2.1) hst.2.2
     |enter f args=>
      refine Calls.mono (show Calls P f args w' _ from hst) ?_;rintro e w'' ⟨v,rfl,h1,h2,h3⟩;exact go v w'' h1 (fun k ok hk hnd hne u=>hmono i k ok hk hnd hne _ w w'' u hun hl.cls h1 h2) h3
     |_=>exact(show False from hst).elim
   ·rename_i hw;rw[if_neg hw];exact go undef w hst.2.1 (fun k ok hk hnd hne u=>hmono i k ok hk hnd hne _ w w u hun hl.cls hst.2.1 hst.2.2) hst.1
theorem BX.get {L:Nat→Bool} {tmps:Array Value} {w:World} {l:List Nat} (h:BX ops V L tmps w l) {j:Nat} (hj:l.contains j=true) {d:Tmp} (hd:(ops[j]?).bind (·.dst)=some d):V j L w (tmps.getD d undef):=by
 induction l with
 |nil=>cases hj
 |cons k l ih=>
  by_cases e:j=k
  ·subst e;have:=h.1;rw[hd]at this;exact this
  ·refine ih h.2 ?_;rw[List.contains_cons]at hj;simpa[e]using hj
def qj (V:Nat→(Nat→Bool)→World→Value→Prop) (a0:Act) (L:Nat→Bool) (w:World) (f:Tmp→Value):List (Tmp×Option Nat)→Prop
 | []=>True
 | (t,some j)::r=>V j L w (f t)∧qj V a0 L w f r
 | (t,none)::r=>f t=a0.tmps.getD t undef∧qj V a0 L w f r
def aI (P:Program) (V:Nat→(Nat→Bool)→World→Value→Prop) (C:(Nat→Bool)→World→Prop) (G:Nat→World→World→Prop) (a0:Act) (i:Nat) (o:Oper) (r:Reads):Prop:=
 ∀w L (f:Tmp→Value),C L w→L i=false→(∀j∈aP o,L j=true)→(∀j∈r.next,L j=false)→qj V a0 L w f r.reads→
  if ak o (f r.guard)=true then fH P (fun v w'=>C (fun k=>k==i||L k) w'∧G i w w'∧V i (fun k=>k==i||L k) w' v) ((execOp (nI f) o).run P w)
  else V i (fun k=>k==i||L k) w undef∧C (fun k=>k==i||L k) w∧G i w w
def kJ (P:Program) (V:Nat→(Nat→Bool)→World→Value→Prop) (C:(Nat→Bool)→World→Prop) (G:Nat→World→World→Prop) (a0:Act):Nat→List Oper→List Reads→Prop
 |_,[],_=>True
 |i,o::l,rs=>aI P V C G a0 i o (rs.headD ⟨[],0,[]⟩)∧kJ P V C G a0 (i+1) l rs.tail
theorem kJ.get {a0:Act} (l:List Oper):∀(R:List Reads) (i k:Nat) (o:Oper),kJ P V C G a0 i l R→l[k]? =some o→aI P V C G a0 (i+k) o ((R.drop k).headD ⟨[],0,[]⟩):=by
 induction l with
 |nil=>intro R i k o _ hk;simp at hk
 |cons o' l ih=>
  intro R i k o h hk
  cases k with
  |zero=>
   simp at hk;subst hk;exact h.1
  |succ k=>
   have h2:=ih R.tail (i+1) k o h.2 (by simpa using hk);rw[List.drop_tail,Nat.add_assoc,Nat.add_comm 1 k]at h2;exact h2
theorem qj.of {L:Nat→Bool} {a0 a:Act} {w:World} {o:Oper} {i:Nat} (hD:BX ops V L a.tmps w (aP o)) (ha:∀t:Tmp,(∀(j:Nat) (oj:Oper),ops[j]? =some oj→oj.dst=some t→i∈aP oj)→a.tmps.getD t undef=a0.tmps.getD t undef):
  ∀l:List (Tmp×Option Nat),(l.all fun p=>match p.2 with
    |some j=>(match ops[j]? with|some oj=>oj.dst==some p.1|none=>false)&&(aP o).contains j
    |none=>(List.range ops.size).all fun j=>match ops[j]? with|some oj=>oj.dst !=some p.1|| (aP oj).contains i|none=>true)=true→qj V a0 L w (fun t=>a.tmps.getD t undef) l:=by
 intro l
 induction l with
 |nil=>intro _;trivial
 |cons p l ih=>
  intro h;rw[List.all_cons,Bool.and_eq_true]at h;obtain⟨t,s⟩:=p
  cases s with
  |some j=>
   simp only[Bool.and_eq_true]at h;refine⟨?_,ih h.2⟩
   cases hj:ops[j]? with
   |none=>rw[hj]at h;exact absurd h.1.1 (by simp)
   |some oj=>
    rw[hj]at h;exact hD.get h.1.2 (by rw[hj];simpa using h.1.1)
  |none=>
   refine⟨ha t fun j oj hj hd=> ?_,ih h.2⟩;have h3:=List.all_eq_true.1 h.1 j (List.mem_range.2 (Array.getElem?_eq_some_iff.1 hj).1);simp only[hj,hd,bne_self_eq_false,Bool.false_or]at h3;exact List.contains_iff_mem.1 h3
theorem wo.of {a0:Act} {R:List Reads} (hok:lI ops=true) (htab:oJ ops R=true) (hall:kJ P V C G a0 0 ops.toList R) (x:Nat→Value) (i:Nat) (o:Oper) (hi:ops[i]? =some o):
  wo P ops V C G i o (bW ops x a0 i):=by
 intro w L hC hL hd hn hD;have hilt:=(Array.getElem?_eq_some_iff.1 hi).1;have ht:=List.all_eq_true.1 htab i (List.mem_range.2 hilt);simp only[hi,Bool.and_eq_true]at ht;have h2:=kJ.get ops.toList R 0 i o hall (by simpa using hi);rw[Nat.zero_add]at h2;generalize (R.drop i).headD ⟨[],0,[]⟩=r at ht h2;have hnx:∀j∈r.next,L j=false:=fun j hj=>hn j (List.all_eq_true.1 ht.2 j hj)
 have hf:=qj.of (a0:=a0) (a:=bW ops x a0 i) hD (fun t h=>dV x a0 i t fun j hj hjd=>by
  cases hoj:ops[j]? with
  |none=>rw[hoj]at hjd;cases hjd
  |some oj=>
   rw[hoj]at hjd;have:=(dW hok hoj).1 i (h j oj hoj hjd)
   omega) r.reads ht.1.1
 have h3:=h2 w L (fun t=>(bW ops x a0 i).tmps.getD t undef) hC hL hd hnx hf;rw[lS]at h3
 have hw:Region.wanted o (yielded ops (bW ops x a0 i).tmps)=ak o ((bW ops x a0 i).tmps.getD r.guard undef):=by
  unfold Region.wanted ak
  cases hg:o.guard with
  |none=>rfl
  |some g=>
   obtain⟨j,want⟩:=g;have h4:=ht.1.2;rw[hg]at h4;simp only at h4⊢
   cases hoj:ops[j]? with
   |none=>rw[hoj]at h4;exact absurd h4 (by simp)
   |some oj=>
    rw[hoj]at h4
    have hdst:oj.dst=some r.guard:=by simpa using h4
    unfold yielded;simp only[hoj,Option.bind_some,hdst];rw[Array.getD_eq_getD_getElem?]
    cases (bW ops x a0 i).tmps[r.guard]? with
    |none=>rfl
    |some v=>cases v<;>rfl
 rw[hw];exact h3
def kN (C:(Nat→Bool)→World→Prop) (G:Nat→World→World→Prop):Nat→List ((Nat→Bool)→World→Value→Prop)→List Reads→Prop
 |_,[],_=>True
 |j,f::r,rs=>(∀i,i≠j→((rs.headD ⟨[],0,[]⟩).reads.all fun p=>p.2 !=some i)=true→∀L w w' v,L i=false→C L w→C (fun k=>k==i||L k) w'→G i w w'→f L w v→f (fun k=>k==i||L k) w' v)∧kN C G (j+1) r rs.tail
theorem kN.get:∀(l:List ((Nat→Bool)→World→Value→Prop)) (R:List Reads) (n:Nat),kN C G n l R→∀i j,i≠n+j→(((R.drop j).headD ⟨[],0,[]⟩).reads.all fun p=>p.2 !=some i)=true→∀L w w' v,L i=false→C L w→C (fun k=>k==i||L k) w'→G i w w'→(l.getD j fun _ _ _=>True) L w v→(l.getD j fun _ _ _=>True) (fun k=>k==i||L k) w' v
 | [],_,_,_,_,_,_,_=>by intro L w w' v _ _ _ _ _;exact trivial
 |f::r,R,n,h,i,0,hne,hr=>h.1 i hne hr
 |f::r,R,n,h,i,j+1,hne,hr=>kN.get r R.tail (n+1) h.2 i j (by omega) (by rw[List.drop_tail];exact hr)
theorem wX {R:List Reads} (htab:oJ ops R=true) {j:Nat} {oj:Oper} (hj:ops[j]? =some oj) {i:Nat} (hi:i∉aP oj):(((R.drop j).headD ⟨[],0,[]⟩).reads.all fun p=>p.2 !=some i)=true:=by
 have ht:=List.all_eq_true.1 htab j (List.mem_range.2 (Array.getElem?_eq_some_iff.1 hj).1);simp only[hj,Bool.and_eq_true]at ht;rw[List.all_eq_true];intro p hp;have h1:=List.all_eq_true.1 ht.1.1 p hp;obtain⟨t,s⟩:=p
 cases s with
 |none=>rfl
 |some k=>
  simp only[Bool.and_eq_true]at h1;have h2:=List.contains_iff_mem.1 h1.2;simp only[bne_iff_ne,ne_eq,Option.some.injEq];rintro rfl;exact hi h2
theorem aC {id:Nat} {a0:Act} {w:World} {Q':Exit→Act→World→Prop} (Vs:List ((Nat→Bool)→World→Value→Prop)) (R:List Reads) (D:List (Option Nat)) (C:(Nat→Bool)→World→Prop) (G:Nat→World→World→Prop)
  (hm:P.follows .mixedOrders=true) (hok:lI ops=true) (htab:oJ ops R=true) (hfr:oq ops D a0.tmps.size=true) (hN:Ec ops a0.tmps.size=true) (hmono:kN C G 0 Vs R)
  (h0:C (fun k=> !decide (k<ops.size)) {w with drawn:=w.drawn+1})
  (each:kJ P (fun i=>Vs.getD i fun _ _ _=>True) C G a0 0 ops.toList R)
  (fin:∀(x:Nat→Value) w',C (fun _=>true) w'→(∀k o,ops[k]? =some o→o.dst.isSome=true→(Vs.getD k fun _ _ _=>True) (fun _=>true) w' (x k))→Q' .normal ⟨(framed x D a0.tmps.toList).toArray,a0.defers⟩ w'):
  (Code.region id ops true).wp P Q' a0 w:=by
 refine wp_region_any hm (yA (V:=fun i=>Vs.getD i fun _ _ _=>True) (C:=C) (G:=G) (a0:=a0) hok ?_ (fun i j oj hj hi hne=>kN.get Vs R 0 hmono i j (by omega) (wX htab hj hi)) (fun x i o hi=>wo.of hok htab each x i o hi) ?_ ops.size _ a0 _ ?_ ?_)
 ·intro i o d hi hd;have:=List.all_eq_true.1 hN o (by simpa using Array.mem_of_getElem? hi);rw[hd]at this;simpa using this
 ·intro x w hC hV;rw[lH hok hfr];exact fin x w hC hV
 ·unfold iW;rw[List.filter_eq_self.2]
  ·simp
  ·intro i hi;have:=List.mem_range.1 hi;simp[this]
 ·refine⟨?_,by simp,rfl,rfl,?_,?_,fun _ _=>rfl⟩
  ·rw[show(fun k=>(Array.replicate ops.size false).getD k true)=fun k=> !decide (k<ops.size)from funext fun k=>by
    rw[Array.getD_eq_getD_getElem?,Array.getElem?_replicate]
    by_cases h:k<ops.size<;>simp[h]]
   exact h0
  ·intro i o hi hl;have:=(Array.getElem?_eq_some_iff.1 hi).1;simp[this]at hl
  ·intro i o hi hl;have:=(Array.getElem?_eq_some_iff.1 hi).1;simp[this]at hl
theorem aI.dead {b:Bool} {X A B D:Prop} (hb:b=false) (h1:B) (h2:A) (h3:D):if b=true then X else A∧B∧D:=by subst hb;exact⟨h2,h1,h3⟩
def Till (n:Nat) (R:World→Value→Prop) (L:Nat→Bool) (w:World) (v:Value):Prop:=L n=false→R w v
theorem Till.keep {n i:Nat} {R:World→Value→Prop} {L:Nat→Bool} {w w':World} {v:Value} (h:Till n R L w v) (hk:i≠n→R w v→R w' v):Till n R (fun k=>k==i||L k) w' v:=fun hn=>by
 simp only[Bool.or_eq_false_iff,beq_eq_false_iff_ne]at hn;exact hk (fun e=>hn.1 e.symm) (h hn.2)
end
theorem Ad:∀(k:Nat) (l:List S) (x:S),(∀y∈l.take k,y<x)→(h:k<l.length)→l[k]=x→bH l x=l
 |0,y::r,x,_,_,e=>by
  simp at e;subst e;unfold bH;rw[if_neg (List.lt_irrefl y),if_pos rfl]
 |k+1,y::r,x,hb,h,e=>by have h1:y<x:=hb y (by simp);unfold bH;rw[if_pos h1,Ad k r x (fun z hz=>hb z (by simp[hz])) (by simpa using h) (by simpa using e)]
theorem sK:∀(k:Nat) (l:List S) (x:S),(∀y∈l.take k,y<x)→k≤l.length→(∀h:k<l.length,¬l[k]<x∧l[k]≠x)→bH l x=l.take k++x::l.drop k
 |0,[],x,_,_,_=>rfl
 |0,y::r,x,_,_,e=>by
  obtain⟨h1,h2⟩:=e (by simp);simp at h1 h2;unfold bH;rw[if_neg (by simpa using h1),if_neg h2];rfl
 |k+1,[],x,_,h,_=>by simp at h
 |k+1,y::r,x,hb,h,e=>by have h1:y<x:=hb y (by simp);unfold bH;rw[if_pos h1,sK k r x (fun z hz=>hb z (by simp[hz])) (by simpa using h) (fun hk=>e (Nat.succ_lt_succ hk))];rfl
section
variable {P:Program} (w:World)
theorem qX (t ty e:TypeId) (i:TypeInfo) (z:Value) (bytes:Nat) (ht:P.underlying t=some (.slice e)) (hi:P.info? e=some i) (hz:i.zero=some z) (hsize:i.size=1) (hby:i.bytes=bytes) (hzs:z.cells.size=1)
  (A:Option Addr) (n c:Nat) (olds:List Value) (hlo:olds.length=n) {B:Nat} (hro:Row w B A olds) (hn0:A=none→c=0)
  (A':Option Addr) (m c':Nat) (news:List Value) (hln:news.length=m) {B':Nat} (hrn:Row w B' A' news) (h1:∀u∈news,u.oneCell'=true) (hm:0<m)
  (hg:c<n+m) (h63:n+m≤maxLen) (hbytes:(n+m)*bytes≤140737488355328):
  ∃v' w',(Builtin.append_ #[t,t] ty #[.slice A n c,.slice A' m c']).run P w= .ok v' w'∧w'.ownsRow w.heap.size e 1 v' (n+m) (olds++news)∧Below w.heap.size w w':=by
 obtain⟨bn,on,rfl,_,hcn⟩:=hrn (by rintro rfl;simp at hln;omega)
 have hadd:∀(b o j:Nat),(⟨b,o,none⟩:Addr).add j=⟨b,o+j,none⟩:=fun b o j=>by unfold Addr.add;split<;>simp_all
 rcases A with _|a
 ·have hc0:=hn0 rfl;subst hc0
  have hn:n=0:=by
   rcases olds with _| ⟨u,r⟩
   ·simpa using hlo.symm
   ·obtain⟨_,_,h,_⟩:=hro (by simp);cases h
  subst hn;have ho:olds= []:=List.eq_nil_of_length_eq_zero hlo;subst ho;obtain⟨v',w',h1,h2,h3,_⟩:=run_append_own (P:=P) w w.heap.size t ty e i z 1 bytes ht hi hz hsize hby hzs (by omega) (.slice none 0 0) 0 [] (World.ownsRow_nil _ _ _ _) ⟨bn,on,none⟩ m c' news (by omega) (fun j u hu=>by rw[hadd];exact hcn j u hu) h1 h63 hbytes (Nat.le_refl _);exact⟨v',w',h1,h2,⟨h3.os,h3.tape,h3.output,h3.size,fun k hk=>h3.block k hk (by simp[Value.ownBlock])⟩⟩
 ·obtain⟨v',w',h1,h2,h3⟩:=run_append_arg_grows (P:=P) w t ty e i z 1 bytes ht hi hz hsize hby hzs (by omega) a n c olds (by omega) (fun j u hu=>by
   obtain⟨b,off,h,_,hc⟩:=hro (by rintro rfl;simp at hu);injection h with h;subst h;rw[hadd]
   exact hc j u hu) ⟨bn,on,none⟩ m c' news (by omega) (fun j u hu=>by rw[hadd];exact hcn j u hu) hg h63 hbytes
  exact⟨v',w',h1,h2,⟨h3.os,h3.tape,h3.output,h3.size,fun k hk=>h3.block k hk (by simp)⟩⟩
end
def SlS (w:World) (vs:List Value) (v:Value):Prop:=∃A c,v= .slice A vs.length c∧Row w w.heap.size A vs∧vs.length≤c
theorem SlS.up {w w':World} {vs:List Value} {v:Value} (h:SlS w vs v) (hb:Below w.heap.size w w'):SlS w' vs v:=by
 obtain⟨A,c,e,h1,h2⟩:=h;exact⟨A,c,e,(h1.below hb).more hb.size,h2⟩
theorem SlS.own {w:World} {B:Nat} {e:TypeId} {v:Value} {n:Nat} {vs:List Value} (h:w.ownsRow B e 1 v n vs):SlS w vs v:=by
 obtain⟨A,c,rfl,hr,hl,hc⟩:=zL h;subst hl;exact⟨A,c,rfl,hr,hc⟩
section
variable {P:Program} (w:World)
theorem oO (t ty e:TypeId) (i:TypeInfo) (z:Value) (bytes:Nat) (ht:P.underlying t=some (.slice e)) (hi:P.info? e=some i) (hz:i.zero=some z) (hsize:i.size=1) (hby:i.bytes=bytes) (hzs:z.cells.size=1)
  (A:Option Addr) (n:Nat) (olds:List Value) (hlo:olds.length=n) (hro:Row w w.heap.size A olds)
  (A':Option Addr) (m c':Nat) (news:List Value) (hln:news.length=m) {B':Nat} (hrn:Row w B' A' news) (h1:∀u∈news,u.oneCell'=true)
  (h63:n+m≤maxLen) (hbytes:(n+m)*bytes≤140737488355328):
  ∃v' w',(Builtin.append_ #[t,t] ty #[.slice A n n,.slice A' m c']).run P w= .ok v' w'∧SlS w' (olds++news) v'∧Below w.heap.size w w':=by
 rcases Nat.eq_zero_or_pos m with hm|hm
 ·subst hm;have:=List.eq_nil_of_length_eq_zero hln;subst this;refine⟨.slice A n n,w,?_,⟨A,n,by simp[hlo],by simpa using hro,by simp[hlo]⟩,Below.refl _ _⟩;cases A<;>cases A'<;>simp[Builtin.append_,run_underlying ht,sizeOf,typeInfo,hi,Builtin.lenOf,Builtin.firstCells,storeCells,loadCells,loadCellsFrom]
 ·obtain⟨v',w',h2,h3,h4⟩:=qX (P:=P) w t ty e i z bytes ht hi hz hsize hby hzs A n n olds hlo hro (fun h=>by
   subst h;rcases olds with _| ⟨u,r⟩
   ·simpa using hlo.symm
   ·obtain⟨_,_,h,_⟩:=hro (by simp);cases h) A' m c' news hln hrn h1 hm (by omega) h63 hbytes
  exact⟨v',w',h2,SlS.own h3,h4⟩
theorem dS {o:Oper} {ρ:Operand→Value} {A1 B1:World→Prop} {D:World→Value→Prop} (s x:Operand) (t:TypeId)
  (ho:o.op= .call {callee:= .builtin .append,args:= #[s,x],argTypes:= #[t,t]})
  (e:TypeId) (i:TypeInfo) (z:Value) (bytes:Nat) (ht:P.underlying t=some (.slice e)) (hi:P.info? e=some i) (hz:i.zero=some z) (hsize:i.size=1) (hby:i.bytes=bytes) (hzs:z.cells.size=1)
  (A:Option Addr) (n:Nat) (olds:List Value) (hs:ρ s= .slice A n n) (hlo:olds.length=n) (hro:Row w w.heap.size A olds)
  (A':Option Addr) (m c':Nat) (news:List Value) (hx:ρ x= .slice A' m c') (hln:news.length=m) {B':Nat} (hrn:Row w B' A' news) (h1:∀u∈news,u.oneCell'=true)
  (h63:n+m≤maxLen) (hbytes:(n+m)*bytes≤140737488355328)
  (h:∀v' w',SlS w' (olds++news) v'→Below w.heap.size w w'→A1 w'∧B1 w'∧D w' v'):
  fH P (fun v w'=>A1 w'∧B1 w'∧D w' v) ((execOp ρ o).run P w):=by
 obtain⟨v',w',hrun,h2,h3⟩:=oO (P:=P) w t o.type e i z bytes ht hi hz hsize hby hzs A n olds hlo hro A' m c' news hln hrn h1 h63 hbytes;unfold execOp;simp only[ho,resolve,invoke,builtin,Sem.run_bind,Sem.run_pure,Result.andThen_ok,List.map_toArray,List.map_cons,List.map_nil,hs,hx,hrun];exact h v' w' h2 h3
end
structure Kp (w0:World) (Hs:List (Nat×TypeId×Array Value)) (Rs:List (Option Addr×List Value)) (w:World):Prop where
 bel:Below w0.heap.size w0 w
 hold:∀(i:Nat) g t cs,Hs[i]? =some (g,t,cs)→Holds w g t cs
 row:∀(i:Nat) A vs,Rs[i]? =some (A,vs)→Row w w.heap.size A vs
section
variable {w0 w w':World} {Hs:List (Nat×TypeId×Array Value)} {Rs:List (Option Addr×List Value)}
theorem Kp.start (h:Below w0.heap.size w0 w):Kp w0 [] [] w:=⟨h,fun i _ _ _ e=>by simp at e,fun i _ _ e=>by simp at e⟩
theorem Kp.up (h:Kp w0 Hs Rs w) (hb:Below w.heap.size w w'):Kp w0 Hs Rs w':=
 ⟨h.bel.trans (hb.mono h.bel.size),fun i _ _ _ e=>(h.hold i _ _ _ e).below hb (h.hold i _ _ _ e).lt,fun i _ _ e=>((h.row i _ _ e).below hb).more hb.size⟩
theorem Kp.addH (h:Kp w0 Hs Rs w) {g:Nat} {t:TypeId} {cs:Array Value} (hg:Holds w g t cs):Kp w0 ((g,t,cs)::Hs) Rs w:=
 ⟨h.bel,fun i _ _ _ e=>by
  cases i with
  |zero=>simp at e;obtain⟨rfl,rfl,rfl⟩:=e;exact hg
  |succ i=>exact h.hold i _ _ _ (by simpa using e),h.row⟩
theorem Kp.new (h:Kp w0 Hs Rs w) (t:TypeId) (cs:Array Value):Kp w0 ((w.heap.size,t,cs)::Hs) Rs (w.alloc (.cells cs t)):=
 (h.up (aA w _)).addH (Holds.new w t cs)
theorem Kp.fact (h:Kp w0 Hs Rs w) (i j:Nat) {g:Nat} {t:TypeId} {cs:Array Value} {v:Value} (hi:Hs[i]? =some (g,t,cs)) (hv:cs[j]? =some v):g<w.heap.size∧w.cell? ⟨g,j,none⟩=some v:=
 ⟨(h.hold i _ _ _ hi).lt,by rw[(h.hold i _ _ _ hi).cell];exact hv⟩
theorem Kp.drew (h:Kp w0 Hs Rs w):Kp w0 Hs Rs w.drew:=h.up (Below.refl _ _).drew
theorem Kp.drewN (h:Kp w0 Hs Rs w) (n:Nat):Kp w0 Hs Rs (w.drewN n):=h.up ⟨rfl,rfl,rfl,Nat.le_refl _,fun _ _=>rfl⟩
theorem Kp.size (h:Kp w0 Hs Rs w):w0.heap.size≤w.heap.size:=h.bel.size
end
theorem Tryz.infoStr2:(Tryz.prog.info? 9).map (fun i=>(i.zero,i.size,i.bytes))=some (some (.string ⟨#[]⟩),1,16):=by kernel_rfl
theorem Es (x y:S):Op.bytesLess x y=decide (x<y):=Go.Proofs.bytesLess_eq x y
theorem rX {l:List S}:∀u∈l.map encStr,u.oneCell'=true:=by
 intro u hu;obtain⟨x,_,rfl⟩:=List.mem_map.1 hu;rfl
theorem xU {s:S} {l:List S}:∀u∈[encStr s]++l.map encStr,u.oneCell'=true:=by
 intro u hu;rcases List.mem_append.1 hu with h|h
 ·simp at h;subst h;rfl
 ·exact rX u h
def tN (w:World) (l:List S) (v:Value):Prop:=∃A c,v= .slice A l.length c∧Row w w.heap.size A (l.map encStr)∧l.length≤c
theorem tN.of {w:World} {l:List S} {v:Value} (h:SlS w (l.map encStr) v):tN w l v:=by
 obtain⟨A,c,e,h1,h2⟩:=h;rw[List.length_map]at e h2;exact⟨A,c,e,h1,h2⟩
theorem tN.sl {w:World} {l:List S} {v:Value} (h:tN w l v):SlS w (l.map encStr) v:=by
 obtain⟨A,c,e,h1,h2⟩:=h;exact⟨A,c,by rw[List.length_map];exact e,h1,by rw[List.length_map];exact h2⟩
theorem tN.up {w w':World} {l:List S} {v:Value} (h:tN w l v) (hb:Below w.heap.size w w'):tN w' l v:= .of (h.sl.up hb)
def Fj (w0:World) (l:List S) (e:Ending) (w':World):Prop:=(∃v,e= .returned v∧tN w' l v)∧Below w0.heap.size w0 w'
theorem add_any (w0:World) (A:Option Addr) (n c:Nat) (l:List S) (s:S) (hn:l.length=n) (hm:n≤100000) (hc:n≤c) (hr:Row w0 w0.heap.size A (l.map encStr)):
  Calls Tryz.prog 101 #[.slice A n c,encStr s] w0 (Fj w0 (bH l s)):=by
 obtain⟨iS,hiS,hzS0,hzS1,hzS2⟩:=info_parts Tryz.infoStr2;have hn':=Za hn;have hr':=Za hr;clear hn hr;go_enter Tryz.func101,Tryz.ntmps101;go_wp2_with fail
 go_loop [5] (fun i=>∃k:Nat,k≤n∧i= .int .i64 k∧∀y∈l.take k,y<s) (fun i=>n-(intOf i).toNat)
 case atStart=>exact⟨0,Nat.zero_le _,rfl,by simp⟩
 obtain⟨k,hk,rfl,hall⟩:=hrel;have hall:=Za hall;rename_i u1;clear u1;by_cases hlt:k<n
 ·have hlt2:k<l.length:=by rw[hn'.out];exact hlt
  obtain⟨b,off,rfl,_,hcell⟩:=hr'.out.at_ (k:=k) (by simpa using hlt2);rw[List.getElem_map]at hcell;obtain⟨y,hy0⟩:∃y,y=l[k]:=⟨_,rfl⟩;rw[←hy0]at hcell;have hy:=Za hy0;clear hy0;have htk:Hid (l.take (k+1)=l.take k++ [y]):=Za (by rw[hy.out];exact List.take_succ_eq_append_getElem hlt2);by_cases hyx:y<s
  ·have hbl:Op.bytesLess y s=true:=by rw[Es];simpa using hyx
   have hyx2:=Za hyx;clear hyx;go_wp2_with fail;go_round
   case rel=>exact⟨k+1,by omega,by go_num,by
    rw[htk.out];intro z hz;rcases List.mem_append.1 hz with h|h
    ·exact hall.out z h
    ·simp at h;subst h
     exact hyx2.out⟩
   case measure=>simp[intOf];omega
  ·have hbl:Op.bytesLess y s=false:=by rw[Es];simpa using hyx
   have hyx2:=Za hyx;clear hyx;by_cases hxy:y=s
   ·subst hxy;have hd:=Za (Ad k l y hall.out hlt2 hy.out.symm);go_wp2_with fail;go_ret;exact⟨⟨.slice (some ⟨b,off,none⟩) n c,rfl,some ⟨b,off,none⟩,c,by rw[hd.out,hn'.out],by rw[hd.out];exact hr'.out,by rw[hd.out,hn'.out];exact hc⟩,Below.refl _ _⟩
   ·have hbq:(y==s)=false:=by simpa using hxy
    have hd:=Za (sK k l s hall.out (by omega) (fun h=>⟨by rw[←hy.out];exact hyx2.out,by rw[←hy.out];exact hxy⟩));clear hxy;go_wp2_with fail
    have hkc:k≤c:=by omega
    have hrT:=Za (show Row w0 w0.heap.size (some (⟨b,off,none⟩:Addr)) ((l.take k).map encStr)by rw[List.map_take];exact hr'.out.take k)
    have hrD:=Za (show Row w0 w0.heap.size (if c=k then(some (⟨b,off,none⟩:Addr))else Option.map (fun a=>a.add k) (some (⟨b,off,none⟩:Addr))) ((l.drop k).map encStr)by
     have:=hr'.out.cut k (c:=c) (by rw[List.length_map,hn'.out];exact hc);rw[←List.map_drop]at this
     exact this)
    have hlT:=Za (show((l.take k).map encStr).length=k by rw[List.length_map,List.length_take,hn'.out];omega);have hlD:=Za (show((l.drop k).map encStr).length=n-k by rw[List.length_map,List.length_drop,hn'.out]);refine mY ((eqw (.slice (some (⟨b,off,none⟩:Addr)) n c))::(eqw (.int .i64 k))::(eqw (.int .i64 k))::(eqw (.slice (some (⟨b,off,none⟩:Addr)) k k))::(eqw (encStr s))::(fun w v=>∃A1,v= .slice A1 1 1∧Row w w.heap.size A1 [encStr s])::(eqw (.slice (some (⟨b,off,none⟩:Addr)) n c))::(eqw (.int .i64 k))::(eqw (.slice (if c=k then(some (⟨b,off,none⟩:Addr))else Option.map (fun a=>a.add k) (some (⟨b,off,none⟩:Addr))) (n-k) (c-k)))::(fun w v=>SlS w ([encStr s]++(l.drop k).map encStr) v)::(fun w v=>SlS w ((l.take k).map encStr++([encStr s]++(l.drop k).map encStr)) v)::(fun w v=>SlS w ((l.take k).map encStr++([encStr s]++(l.drop k).map encStr)) v)::[])
     ((rn1 0)::(rn1 5)::(rn1 5)::⟨[(33,some 0),(34,some 1),(35,some 2)],0,[]⟩::(rn1 1)::(rd1 37 4)::(rn1 0)::(rn1 5)::⟨[(39,some 6),(40,some 7)],0,[]⟩::⟨[(38,some 5),(41,some 8)],0,[]⟩::⟨[(36,some 3),(42,some 9)],0,[]⟩::(rd1 43 10)::[])
     (no::no::no::no::so 11::no::no::no::no::no::no::no::no::no::no::no::no::no::no::no::no::no::no::no::no::no::no::no::no::no::no::no::no::so 0::so 1::so 2::so 3::so 4::so 5::so 6::so 7::so 8::so 9::so 10::[])
     (fun _ w'=>Below w0.heap.size w0 w') (fun _ w w'=>Below w.heap.size w w') ?mixK6adda ?okK6adda ?tabK6adda ?frK6adda ?inK6adda ?keptK6adda ?startK6adda ?eachK6adda ?finK6adda
    case mixK6adda|okK6adda|tabK6adda|frK6adda=>kernel_rfl
    case inK6adda=>rfl
    case keptK6adda=>exact⟨fun _ _ _ _ _ _ _ h=>h,fun _ _ _ _ _ _ _ h=>h,fun _ _ _ _ _ _ _ h=>h,fun _ _ _ _ _ _ _ h=>h,fun _ _ _ _ _ _ _ h=>h,fun _ _ _=>fun w w' v hG ⟨A1,e,h⟩=>⟨A1,e,(h.below hG).more hG.size⟩,fun _ _ _ _ _ _ _ h=>h,fun _ _ _ _ _ _ _ h=>h,fun _ _ _ _ _ _ _ h=>h,fun _ _ _=>fun w w' v hG h=>h.up hG,fun _ _ _=>fun w w' v hG h=>h.up hG,fun _ _ _=>fun w w' v hG h=>h.up hG,trivial⟩
    case startK6adda=>exact(Below.refl _ _).drew
    case eachK6adda=>
     repeat' first|exact trivial|refine And.intro ?_ ?_
     ·intro w L f hC hLi hLd hLn ⟨d,_⟩;refine au.live rfl ?_;exact aj (v:=f 0) rfl (hC) (Below.refl _ _) d
     iterate 2 (intro w L f hC hLi hLd hLn ⟨d,_⟩;refine au.live rfl ?_;exact aj (v:=f 5) rfl (hC) (Below.refl _ _) d)
     ·intro w L f hC hLi hLd hLn ⟨a,b,c,_⟩;change _=_ at a b c;refine au.live rfl ?_;obtain⟨ev,ec,ef⟩:=evs f;refine aj ?_ hC (Below.refl _ _) rfl;go_simp
     ·intro w L f hC hLi hLd hLn ⟨d,_⟩;refine au.live rfl ?_;exact aj (v:=f 1) rfl (hC) (Below.refl _ _) d
     ·intro w L f hC hLi hLd hLn ⟨a,_⟩;change _=_ at a;refine au.live rfl ?_;have hbn:=aA w (.cells #[encStr s] 9);obtain⟨ev,ec,ef⟩:=evs f;refine aj (w':=w.alloc (.cells #[encStr s] 9)) (v:= .slice (some ⟨w.heap.size,0,none⟩) 1 1) (by go_simp) (hC.trans (hbn.mono hC.size)) hbn ⟨_,rfl,Row.fresh w 9 [encStr s]⟩
     ·intro w L f hC hLi hLd hLn ⟨d,_⟩;refine au.live rfl ?_;exact aj (v:=f 0) rfl (hC) (Below.refl _ _) d
     ·intro w L f hC hLi hLd hLn ⟨d,_⟩;refine au.live rfl ?_;exact aj (v:=f 5) rfl (hC) (Below.refl _ _) d
     ·intro w L f hC hLi hLd hLn ⟨a,b,_⟩;change _=_ at a b;refine au.live rfl ?_;obtain⟨ev,ec,ef⟩:=evs f;refine aj ?_ hC (Below.refl _ _) rfl;go_simp
     ·intro w L f hC hLi hLd hLn ⟨d38,d41,_⟩;change _=_ at d41;refine au.live rfl ?_;obtain⟨A1,e1,h1⟩:=d38;obtain⟨ev,ec,ef⟩:=evs f;refine dS w (.tmp 38) (.tmp 41) 35 rfl 9 iS (.string ⟨#[]⟩) 16 Tryz.underlying35 hiS hzS0 hzS1 hzS2 rfl A1 1 [encStr s] (by rw[ev,e1]) rfl h1 (if c=k then(some (⟨b,off,none⟩:Addr))else Option.map (fun a=>a.add k) (some (⟨b,off,none⟩:Addr))) (n-k) (c-k) ((l.drop k).map encStr) (by rw[ev,d41]) hlD.out (hrD.out.below hC) rX (by unfold maxLen;omega) (by omega) ?_;intro v' w' hS hB;exact⟨hC.trans (hB.mono hC.size),hB,hS⟩
     ·intro w L f hC hLi hLd hLn ⟨d36,d42,_⟩;change _=_ at d36;refine au.live rfl ?_;obtain⟨A1,c1,e1,h1,h2⟩:=d42
      have hl42:([encStr s]++(l.drop k).map encStr).length=1+(n-k):=by rw[List.length_append,hlD.out];rfl
      obtain⟨ev,ec,ef⟩:=evs f;refine dS w (.tmp 36) (.tmp 42) 35 rfl 9 iS (.string ⟨#[]⟩) 16 Tryz.underlying35 hiS hzS0 hzS1 hzS2 rfl (some (⟨b,off,none⟩:Addr)) k ((l.take k).map encStr) (by rw[ev,d36]) hlT.out ((hrT.out.below hC).more hC.size) A1 (1+(n-k)) c1 ([encStr s]++(l.drop k).map encStr) (by rw[ev,e1,hl42]) hl42 h1 xU (by unfold maxLen;omega) (by omega) ?_;intro v' w' hS hB;exact⟨hC.trans (hB.mono hC.size),hB,hS⟩
     ·intro w L f hC hLi hLd hLn ⟨d,_⟩;refine au.live rfl ?_;exact aj (v:=f 43) rfl (hC) (Below.refl _ _) d
    intro x w' hC hV
    have e0:=hV 11 _ rfl rfl;clear hV;obtain⟨vv,hvv⟩:∃v,v=x 11:=⟨_,rfl⟩;rw[←hvv]at e0;simp only[framed];rw[←hvv];clear hvv;go_wp2_with fail;go_ret;exact⟨⟨vv,rfl,by rw[hd.out];exact tN.of (by rw[List.map_append,List.map_cons];exact e0)⟩,hC⟩
 ·have hge:n≤k:=by omega
  have hd:=Za (sK k l s hall.out (by rw[hn'.out];exact hk) (fun h=>absurd h (by rw[hn'.out];omega)));go_wp2_with fail
  have hkc:k≤c:=by omega
  have hrT:=Za (show Row w0 w0.heap.size A ((l.take k).map encStr)by rw[List.map_take];exact hr'.out.take k)
  have hrD:=Za (show Row w0 w0.heap.size (if c=k then A else Option.map (fun a=>a.add k) A) ((l.drop k).map encStr)by
   have:=hr'.out.cut k (c:=c) (by rw[List.length_map,hn'.out];exact hc);rw[←List.map_drop]at this
   exact this)
  have hlT:=Za (show((l.take k).map encStr).length=k by rw[List.length_map,List.length_take,hn'.out];omega);have hlD:=Za (show((l.drop k).map encStr).length=n-k by rw[List.length_map,List.length_drop,hn'.out]);refine mY ((eqw (.slice A n c))::(eqw (.int .i64 k))::(eqw (.int .i64 k))::(eqw (.slice A k k))::(eqw (encStr s))::(fun w v=>∃A1,v= .slice A1 1 1∧Row w w.heap.size A1 [encStr s])::(eqw (.slice A n c))::(eqw (.int .i64 k))::(eqw (.slice (if c=k then A else Option.map (fun a=>a.add k) A) (n-k) (c-k)))::(fun w v=>SlS w ([encStr s]++(l.drop k).map encStr) v)::(fun w v=>SlS w ((l.take k).map encStr++([encStr s]++(l.drop k).map encStr)) v)::(fun w v=>SlS w ((l.take k).map encStr++([encStr s]++(l.drop k).map encStr)) v)::[])
   ((rn1 0)::(rn1 5)::(rn1 5)::⟨[(33,some 0),(34,some 1),(35,some 2)],0,[]⟩::(rn1 1)::(rd1 37 4)::(rn1 0)::(rn1 5)::⟨[(39,some 6),(40,some 7)],0,[]⟩::⟨[(38,some 5),(41,some 8)],0,[]⟩::⟨[(36,some 3),(42,some 9)],0,[]⟩::(rd1 43 10)::[])
   (no::no::no::no::so 11::no::no::no::no::no::no::no::no::no::no::no::no::no::no::no::no::no::no::no::no::no::no::no::no::no::no::no::no::so 0::so 1::so 2::so 3::so 4::so 5::so 6::so 7::so 8::so 9::so 10::[])
   (fun _ w'=>Below w0.heap.size w0 w') (fun _ w w'=>Below w.heap.size w w') ?mixK6addb ?okK6addb ?tabK6addb ?frK6addb ?inK6addb ?keptK6addb ?startK6addb ?eachK6addb ?finK6addb
  case mixK6addb|okK6addb|tabK6addb|frK6addb=>kernel_rfl
  case inK6addb=>rfl
  case keptK6addb=>exact⟨fun _ _ _ _ _ _ _ h=>h,fun _ _ _ _ _ _ _ h=>h,fun _ _ _ _ _ _ _ h=>h,fun _ _ _ _ _ _ _ h=>h,fun _ _ _ _ _ _ _ h=>h,fun _ _ _=>fun w w' v hG ⟨A1,e,h⟩=>⟨A1,e,(h.below hG).more hG.size⟩,fun _ _ _ _ _ _ _ h=>h,fun _ _ _ _ _ _ _ h=>h,fun _ _ _ _ _ _ _ h=>h,fun _ _ _=>fun w w' v hG h=>h.up hG,fun _ _ _=>fun w w' v hG h=>h.up hG,fun _ _ _=>fun w w' v hG h=>h.up hG,trivial⟩
  case startK6addb=>exact(Below.refl _ _).drew
  case eachK6addb=>
   repeat' first|exact trivial|refine And.intro ?_ ?_
   ·intro w L f hC hLi hLd hLn ⟨d,_⟩;refine au.live rfl ?_;exact aj (v:=f 0) rfl (hC) (Below.refl _ _) d
   iterate 2 (intro w L f hC hLi hLd hLn ⟨d,_⟩;refine au.live rfl ?_;exact aj (v:=f 5) rfl (hC) (Below.refl _ _) d)
   ·intro w L f hC hLi hLd hLn ⟨a,b,c,_⟩;change _=_ at a b c;refine au.live rfl ?_;obtain⟨ev,ec,ef⟩:=evs f;refine aj ?_ hC (Below.refl _ _) rfl;go_simp
   ·intro w L f hC hLi hLd hLn ⟨d,_⟩;refine au.live rfl ?_;exact aj (v:=f 1) rfl (hC) (Below.refl _ _) d
   ·intro w L f hC hLi hLd hLn ⟨a,_⟩;change _=_ at a;refine au.live rfl ?_;have hbn:=aA w (.cells #[encStr s] 9);obtain⟨ev,ec,ef⟩:=evs f;refine aj (w':=w.alloc (.cells #[encStr s] 9)) (v:= .slice (some ⟨w.heap.size,0,none⟩) 1 1) (by go_simp) (hC.trans (hbn.mono hC.size)) hbn ⟨_,rfl,Row.fresh w 9 [encStr s]⟩
   ·intro w L f hC hLi hLd hLn ⟨d,_⟩;refine au.live rfl ?_;exact aj (v:=f 0) rfl (hC) (Below.refl _ _) d
   ·intro w L f hC hLi hLd hLn ⟨d,_⟩;refine au.live rfl ?_;exact aj (v:=f 5) rfl (hC) (Below.refl _ _) d
   ·intro w L f hC hLi hLd hLn ⟨a,b,_⟩;change _=_ at a b;refine au.live rfl ?_;obtain⟨ev,ec,ef⟩:=evs f;refine aj ?_ hC (Below.refl _ _) rfl;go_simp
   ·intro w L f hC hLi hLd hLn ⟨d38,d41,_⟩;change _=_ at d41;refine au.live rfl ?_;obtain⟨A1,e1,h1⟩:=d38;obtain⟨ev,ec,ef⟩:=evs f;refine dS w (.tmp 38) (.tmp 41) 35 rfl 9 iS (.string ⟨#[]⟩) 16 Tryz.underlying35 hiS hzS0 hzS1 hzS2 rfl A1 1 [encStr s] (by rw[ev,e1]) rfl h1 (if c=k then A else Option.map (fun a=>a.add k) A) (n-k) (c-k) ((l.drop k).map encStr) (by rw[ev,d41]) hlD.out (hrD.out.below hC) rX (by unfold maxLen;omega) (by omega) ?_;intro v' w' hS hB;exact⟨hC.trans (hB.mono hC.size),hB,hS⟩
   ·intro w L f hC hLi hLd hLn ⟨d36,d42,_⟩;change _=_ at d36;refine au.live rfl ?_;obtain⟨A1,c1,e1,h1,h2⟩:=d42
    have hl42:([encStr s]++(l.drop k).map encStr).length=1+(n-k):=by rw[List.length_append,hlD.out];rfl
    obtain⟨ev,ec,ef⟩:=evs f;refine dS w (.tmp 36) (.tmp 42) 35 rfl 9 iS (.string ⟨#[]⟩) 16 Tryz.underlying35 hiS hzS0 hzS1 hzS2 rfl A k ((l.take k).map encStr) (by rw[ev,d36]) hlT.out ((hrT.out.below hC).more hC.size) A1 (1+(n-k)) c1 ([encStr s]++(l.drop k).map encStr) (by rw[ev,e1,hl42]) hl42 h1 xU (by unfold maxLen;omega) (by omega) ?_;intro v' w' hS hB;exact⟨hC.trans (hB.mono hC.size),hB,hS⟩
   ·intro w L f hC hLi hLd hLn ⟨d,_⟩;refine au.live rfl ?_;exact aj (v:=f 43) rfl (hC) (Below.refl _ _) d
  intro x w' hC hV
  have e0:=hV 11 _ rfl rfl;clear hV;obtain⟨vv,hvv⟩:∃v,v=x 11:=⟨_,rfl⟩;rw[←hvv]at e0;simp only[framed];rw[←hvv];clear hvv;go_wp2_with fail;go_ret;exact⟨⟨vv,rfl,by rw[hd.out];exact tN.of (by rw[List.map_append,List.map_cons];exact e0)⟩,hC⟩
end Go.Proofs.YtpndglghpojjkaaGreat
namespace Go.Proofs.YtpndglghpojjkaaGreat
structure Tok where
 k:Nat
 t:List UInt8
 at_:Nat
def eU (c:UInt8):Bool:=(97≤c.toNat&&c.toNat≤122)|| (65≤c.toNat&&c.toNat≤90)||c.toNat==95
def bJ (c:UInt8):Bool:=48≤c.toNat&&c.toNat≤57
def wsC (c:UInt8):Bool:=c.toNat==32||c.toNat==9||c.toNat==13||c.toNat==10
def aU (p:UInt8→Bool):List UInt8→Nat
 | []=>0
 |c::r=>if p c then aU p r+1 else 0
def oU:List UInt8→Nat→Bool→Nat×Bool
 | [],n,g=>(n,g)
 |c::r,n,g=>if 922337203685477580<n then oU r n true else oU r (10*n+(c.toNat-48)) g
def nC:List UInt8:= [61,60,62,43,45,42,47,37,38,33,40,41,123,125,91,93,44,59]
def jP (l:List UInt8):Bool:=l.take 2== [61,61]||l.take 2== [33,61]||l.take 2== [60,61]||l.take 2== [62,61]||l.take 2== [38,38]||l.take 2== [124,124]
def fC:Nat→List UInt8→Nat→List Tok→List Tok×Nat×Nat
 |0,_,_,out=>(out,0,0)
 |f+1,l,i,out=>match l with
  | []=>(out,0,0)
  |c::r=>
   if wsC c then fC f r (i+1) out
   else if c.toNat=35 then fC f (l.drop (aU (fun x=>x.toNat !=10) l)) (i+aU (fun x=>x.toNat !=10) l) out
   else if eU c then
    if 32<aU (fun x=>eU x||bJ x) l then([],i,53)
    else fC f (l.drop (aU (fun x=>eU x||bJ x) l)) (i+aU (fun x=>eU x||bJ x) l) (out++ [⟨0,l.take (aU (fun x=>eU x||bJ x) l),i⟩])
   else if bJ c then
    if (oU (l.take (aU bJ l)) 0 false).2||9223372036854775807<(oU (l.take (aU bJ l)) 0 false).1 then([],i,53)
    else if (match l.drop (aU bJ l)with| []=>false|d::_=>eU d)|| (c.toNat==48&&1<aU bJ l)then([],i,50)
    else fC f (l.drop (aU bJ l)) (i+aU bJ l) (out++ [⟨1,l.take (aU bJ l),i⟩])
   else if jP l then fC f (l.drop 2) (i+2) (out++ [⟨2,l.take 2,i⟩])
   else if nC.contains c then fC f r (i+1) (out++ [⟨2,[c],i⟩])
   else([],i,50)
def o_ (l:List UInt8):List Tok×Nat×Nat:=if 4096<l.length then([],0,53)else fC (l.length+1) l 0 []
inductive Ex where
 |nil:Ex
 |mk (k:Nat) (n:Int) (nm:List UInt8) (a b:Ex):Ex
inductive Cn where
 |nil:Cn
 |mk (k:Nat) (a b:Ex) (p q:Cn) (nm:List UInt8):Cn
structure Ag where
 ptr:Bool
 nm:List UInt8
 e:Ex
structure Hd where
 k:Nat
 x:List UInt8
 y:List UInt8
 e:Ex
 f:Ex
 c:Cn
 args:List Ag
 at_:Nat
inductive Sl where
 |nil:Sl
 |cons (h:Hd) (t e r:Sl):Sl
structure Vr where
 nm:List UInt8
 ptr:Bool
structure Fnc where
 nm:List UInt8
 ps:List Vr
 ls:List Vr
 body:Sl
def Fnc.none:Fnc:=⟨[],[],[],.nil⟩
def Sl.len:Sl→Nat
 | .nil=>0
 | .cons _ _ _ r=>r.len+1
def Sl.snoc:Sl→Hd→Sl→Sl→Sl
 | .nil,h,t,e=> .cons h t e .nil
 | .cons h0 t0 e0 r,h,t,e=> .cons h0 t0 e0 (r.snoc h t e)
theorem Sl.nR:∀(l:Sl) (h:Hd) (t e:Sl),(l.snoc h t e).len=l.len+1
 | .nil,_,_,_=>rfl
 | .cons _ _ _ r,h,t,e=>by show(r.snoc h t e).len+1=r.len+1+1;rw[Sl.nR r h t e]
structure PC where
 tk:List Tok
 end_:Nat
structure PS where
 i:Nat
 e:Nat
 at_:Nat
 deep:Nat
 n:Nat
section
variable (C:PC)
def bT (k:Nat) (s:PS):PS:=if s.e=0 then{s with e:=k,at_:=match C.tk[s.i]? with|some t=>t.at_|none=>C.end_}else s
def isF (t:List UInt8) (s:PS):Bool:=s.e==0&&(match C.tk[s.i]? with|some x=>x.k !=1&&x.t==t|none=>false)
def PS.next (s:PS):PS:={s with i:=s.i+1}
def PS.shut (s:PS):PS:={s with deep:=s.deep-1}
def gq (t:List UInt8) (s:PS):Bool×PS:=if isF C t s then(true,s.next)else(false,s)
def aY (t:List UInt8) (s:PS):PS:=if isF C t s then s.next else bT C 51 s
def gU:List (List UInt8):= [[102,110],[118,97,114],[112,116,114],[105,102],[101,108,115,101],[119,104,105,108,101],[114,101,116,117,114,110],[97,115,115,101,114,116],[110,117,108,108],[99,101,108,108],[97,114,114,97,121]]
def qp (t:List UInt8):Bool:=gU.any fun x=>x==t
def cu (s:PS):Bool:=s.e==0&&(match C.tk[s.i]? with|some x=>x.k==0&& !qp x.t|none=>false)
def aK (s:PS):List UInt8×PS:=if cu C s then((match C.tk[s.i]? with|some x=>x.t|none=> []),s.next)else([],bT C 51 s)
def aV (s:PS):Bool×PS:=if s.e≠0 then(false,s)else if 40≤s.deep then(false,bT C 52 s)else(true,{s with deep:=s.deep+1})
def w64 (x:Int):Int:=(x+9223372036854775808)%18446744073709551616-9223372036854775808
def rD:List UInt8→Int→Int
 | [],n=>n
 |c::r,n=>rD r (w64 (w64 (10*n)+(c-48).toNat))
def unF (sum un:PS→Ex×PS) (s:PS):Ex×PS:=
 if s.e≠0 then(.nil,bT C 51 s)else
 match C.tk[s.i]? with
 |none=>(.nil,bT C 51 s)
 |some x=>
  if isF C [45] s then
   if (aV C s).1 then(.mk 7 0 [] (un (aV C s).2.next).1 .nil,(un (aV C s).2.next).2.shut)else(.nil,(aV C s).2)
  else if isF C [40] s then
   if (aV C s).1 then((sum (aV C s).2.next).1,(aY C [41] (sum (aV C s).2.next).2).shut)else(.nil,(aV C s).2)
  else if x.k=1 then(.mk 0 (rD x.t 0) [] .nil .nil,s.next)
  else if cu C s then(.mk 1 0 (aK C s).1 .nil .nil,(aK C s).2)
  else(.nil,bT C 51 s)
def gW (s:PS):Nat:=if isF C [42] s then 4 else if isF C [47] s then 5 else if isF C [37] s then 6 else 0
def kS (s:PS):Nat:=if isF C [45] s then 3 else if isF C [43] s then 2 else 0
def moreL (kf:PS→Nat) (part:PS→Ex×PS):Nat→Ex→PS→Ex×PS
 |0,a,s=>(a,s)
 |f+1,a,s=>if s.e≠0 then(a,s)else if kf s=0 then(a,s)else moreL kf part f (.mk (kf s) 0 [] a (part s.next).1) (part s.next).2
def nX (un:PS→Ex×PS) (s:PS):Ex×PS:=moreL (gW C) un (C.tk.length+1) (un s).1 (un s).2
def sumF (un:PS→Ex×PS) (s:PS):Ex×PS:=moreL (kS C) (nX C un) (C.tk.length+1) (nX C un s).1 (nX C un s).2
def unD:Nat→PS→Ex×PS
 |0=>unF C (fun s=>(.nil,s)) (fun s=>(.nil,s))
 |d+1=>unF C (sumF C (unD d)) (unD d)
def uG (d:Nat):PS→Ex×PS:=nX C (unD C d)
def sS (d:Nat):PS→Ex×PS:=sumF C (unD C d)
def vY:List (List UInt8):= [[61,61],[33,61],[60],[60,61],[62],[62,61]]
def pW (sum:PS→Ex×PS) (a:Ex):Nat→List (List UInt8)→PS→Cn×PS
 |_,[],s=>(.nil,bT C 51 s)
 |k,t::r,s=>if isF C t s then(.mk k a (sum s.next).1 .nil .nil [],(sum s.next).2)else pW sum a (k+1) r s
def fB (i:Nat):List UInt8:=match C.tk[i]? with|some x=>x.t|none=> []
def zM (s:PS):Bool:=cu C s&&(decide (s.i+2<C.tk.length)&&(fB C (s.i+2)== [110,117,108,108]&&(fB C (s.i+1)== [61,61]||fB C (s.i+1)== [33,61])))
def nG (sum:PS→Ex×PS) (cond not_:PS→Cn×PS) (s:PS):Cn×PS:=
 if isF C [33] s then
  if (aV C s).1 then(.mk 8 .nil .nil (not_ (aV C s).2.next).1 .nil [],(not_ (aV C s).2.next).2.shut)else(.nil,(aV C s).2)
 else if isF C [40] s then
  if (aV C s).1 then((cond (aV C s).2.next).1,(aY C [41] (cond (aV C s).2.next).2).shut)else(.nil,(aV C s).2)
 else if zM C s then
  ((if fB C (s.i+1)== [33,61]then .mk 8 .nil .nil (.mk 9 .nil .nil .nil .nil (fB C s.i)) .nil []else .mk 9 .nil .nil .nil .nil (fB C s.i)),{s with i:=s.i+3})
 else pW C sum (sum s).1 0 vY (sum s).2
def joinL (t:List UInt8) (k:Nat) (part:PS→Cn×PS):Nat→Cn→PS→Cn×PS
 |0,c,s=>(c,s)
 |f+1,c,s=>if isF C t s then joinL t k part f (.mk k .nil .nil c (part s.next).1 []) (part s.next).2 else(c,s)
def BQ (not_:PS→Cn×PS) (s:PS):Cn×PS:=joinL C [38,38] 6 not_ (C.tk.length+1) (not_ s).1 (not_ s).2
def zW (not_:PS→Cn×PS) (s:PS):Cn×PS:=joinL C [124,124] 7 (BQ C not_) (C.tk.length+1) (BQ C not_ s).1 (BQ C not_ s).2
def qI:Nat→PS→Cn×PS
 |0=>nG C (sS C 0) (fun s=>(.nil,s)) (fun s=>(.nil,s))
 |d+1=>nG C (sS C (d+1)) (zW C (qI d)) (qI d)
def BR (d:Nat):PS→Cn×PS:=BQ C (qI C d)
def uT (d:Nat):PS→Cn×PS:=zW C (qI C d)
def lg (sum:PS→Ex×PS):Nat→List Ag→PS→List Ag×PS
 |0,_,s=>([],s)
 |f+1,l,s=>if s.e≠0 then([],s)else
  if isF C [41] (sum s).2 then(l++ [⟨false,[],(sum s).1⟩],(sum s).2.next)
  else lg sum f (l++ [⟨false,[],(sum s).1⟩]) (aY C [44] (sum s).2)
def jg (sum:PS→Ex×PS) (s:PS):List Ag×PS:=if isF C [41] s then([],s.next)else lg C sum (C.tk.length+1) [] s
def iI (sum:PS→Ex×PS) (h:Hd) (s:PS):Hd×PS:=
 if isF C [110,117,108,108] s then({h with k:=3},s.next)
 else if isF C [38] s then({h with k:=1,y:=(aK C s.next).1},(aK C s.next).2)
 else if isF C [42] s then({h with k:=4,y:=(aK C s.next).1},(aK C s.next).2)
 else if cu C s&&(decide (s.i+1<C.tk.length)&&fB C (s.i+1)== [91])then
  ({h with k:=6,y:=(aK C s).1,e:=(sum (aK C s).2.next).1},aY C [93] (sum (aK C s).2.next).2)
 else if cu C s&&(decide (s.i+1<C.tk.length)&&fB C (s.i+1)== [40])then
  ({h with k:=8,y:=(aK C s).1,args:=(jg C sum (aK C s).2.next).1},(jg C sum (aK C s).2.next).2)
 else({h with k:=0,e:=(sum s).1},(sum s).2)
def gJ (s:PS):Bool:=cu C s||isF C [42] s||isF C [114,101,116,117,114,110] s||isF C [97,115,115,101,114,116] s||isF C [105,102] s||isF C [119,104,105,108,101] s
def hd0 (n:Nat):Hd:=⟨0,[],[],.nil,.nil,.nil,[],n⟩
def PS.one (s:PS):PS:={s with n:=s.n+1}
def gX (sum:PS→Ex×PS) (cond:PS→Cn×PS) (n:Nat) (s:PS):Hd×PS:=
 if isF C [114,101,116,117,114,110] s then({hd0 n with k:=9,e:=(sum s.next).1},(sum s.next).2)
 else if isF C [97,115,115,101,114,116] s then({hd0 n with k:=12,c:=(cond (aY C [40] s.next)).1},aY C [41] (cond (aY C [40] s.next)).2)
 else if isF C [42] s then({hd0 n with k:=5,x:=(aK C s.next).1,e:=(sum (aY C [61] (aK C s.next).2)).1},(sum (aY C [61] (aK C s.next).2)).2)
 else if isF C [40] (aK C s).2 then({hd0 n with k:=8,y:=(aK C s).1,args:=(jg C sum (aK C s).2.next).1},(jg C sum (aK C s).2.next).2)
 else if isF C [91] (aK C s).2 then
  ({hd0 n with k:=7,y:=(aK C s).1,e:=(sum (aK C s).2.next).1,f:=(sum (aY C [61] (aY C [93] (sum (aK C s).2.next).2))).1},(sum (aY C [61] (aY C [93] (sum (aK C s).2.next).2))).2)
 else iI C sum {hd0 n with x:=(aK C s).1} (aY C [61] (aK C s).2)
def iG (cond:PS→Cn×PS) (s:PS):Cn×PS:=((cond (aY C [40] s.next)).1,aY C [41] (cond (aY C [40] s.next)).2)
def fV (sum:PS→Ex×PS) (cond:PS→Cn×PS) (block:PS→Sl×PS) (s:PS):(Hd×Sl×Sl)×PS:=
 if gJ C s&&decide (200≤s.n)then((hd0 s.n,.nil,.nil),bT C 53 s)
 else if isF C [105,102] s.one then
  if isF C [101,108,115,101] (block (iG C cond s.one).2).2 then
   (({hd0 s.n with k:=10,c:=(iG C cond s.one).1},(block (iG C cond s.one).2).1,(block (block (iG C cond s.one).2).2.next).1),(block (block (iG C cond s.one).2).2.next).2)
  else(({hd0 s.n with k:=10,c:=(iG C cond s.one).1},(block (iG C cond s.one).2).1,.nil),(block (iG C cond s.one).2).2)
 else if isF C [119,104,105,108,101] s.one then
  (({hd0 s.n with k:=11,c:=(iG C cond s.one).1},(block (iG C cond s.one).2).1,.nil),(block (iG C cond s.one).2).2)
 else(((gX C sum cond s.n s.one).1,.nil,.nil),aY C [59] (gX C sum cond s.n s.one).2)
def je (stmt:PS→(Hd×Sl×Sl)×PS):Nat→Sl→PS→Sl×PS
 |0,l,s=>(l,s)
 |f+1,l,s=>if s.e≠0 then(l,s)else if isF C [125] s then(l,s.next)else if C.tk.length≤s.i then(.nil,bT C 51 s)
  else je stmt f (l.snoc (stmt s).1.1 (stmt s).1.2.1 (stmt s).1.2.2) (stmt s).2
def lC (stmt:PS→(Hd×Sl×Sl)×PS) (s:PS):Sl×PS:=je C stmt (C.tk.length+1) .nil s
def iy (stmts:PS→Sl×PS) (s:PS):Sl×PS:=
 if isF C [123] s then
  if (aV C s).1 then((stmts (aV C s).2.next).1,(stmts (aV C s).2.next).2.shut)else(.nil,(aV C s).2)
 else(.nil,bT C 51 s)
def nP:Nat→PS→(Hd×Sl×Sl)×PS
 |0=>fV C (sS C 0) (uT C 0) (iy C fun s=>(.nil,s))
 |d+1=>fV C (sS C (d+1)) (uT C (d+1)) (iy C (lC C (nP d)))
def jq (d:Nat):PS→Sl×PS:=lC C (nP C d)
def eF (l:List Vr) (ptr:Bool) (most:Nat) (s:PS):List Vr×PS:=
 if cu C s&&decide (most≤l.length)then(l,bT C 53 s)else(l++ [⟨(aK C s).1,ptr⟩],(aK C s).2)
def gG:Nat→List Vr→PS→List Vr×PS
 |0,l,s=>(l,s)
 |f+1,l,s=>if s.e≠0 then(l,s)else
  if isF C [41] (eF C l (gq C [42] s).1 6 (gq C [42] s).2).2 then((eF C l (gq C [42] s).1 6 (gq C [42] s).2).1,(eF C l (gq C [42] s).1 6 (gq C [42] s).2).2.next)
  else gG f (eF C l (gq C [42] s).1 6 (gq C [42] s).2).1 (aY C [44] (eF C l (gq C [42] s).1 6 (gq C [42] s).2).2)
def mM (s:PS):List Vr×PS:=if isF C [41] s then([],s.next)else gG C (C.tk.length+1) [] s
def ji:Nat→List Vr→PS→List Vr×PS
 |0,l,s=>(l,s)
 |f+1,l,s=>if isF C [118,97,114] s||isF C [112,116,114] s then
   ji f (eF C l (isF C [112,116,114] s) 20 s.next).1 (aY C [59] (eF C l (isF C [112,116,114] s) 20 s.next).2)
  else(l,s)
def pY (s:PS):PS:=if isF C [123] s&&(aV C s).1 then(aV C s).2.next else bT C 51 (if isF C [123] s then(aV C s).2 else s)
def qw (s:PS):PS:=if s.e=0∧s.i<C.tk.length then bT C 51 s else s
end
def D9 (C:PC):List UInt8×PS:=aK C (aY C [102,110] ⟨0,0,0,0,0⟩)
def psF (C:PC):List Vr×PS:=mM C (aY C [40] (D9 C).2)
def lsF (C:PC):List Vr×PS:=ji C (C.tk.length+1) [] (pY C (psF C).2)
def ni (C:PC):Sl×PS:=jq C 39 (lsF C).2
def uO (C:PC):Fnc×Nat×Nat:=
 if (qw C (ni C).2).e≠0 then(Fnc.none,(qw C (ni C).2).at_,(qw C (ni C).2).e)
 else(⟨(D9 C).1,(psF C).1,(lsF C).1,(ni C).1⟩,0,0)
def funcF (l:List UInt8):Fnc×Nat×Nat:=
 if (o_ l).2.2≠0 then(Fnc.none,(o_ l).2.1,(o_ l).2.2)else uO ⟨(o_ l).1,l.length⟩
end Go.Proofs.YtpndglghpojjkaaGreat
