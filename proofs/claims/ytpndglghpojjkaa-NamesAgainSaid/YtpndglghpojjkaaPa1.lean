/-
  15 texts of the proof, in one file: no condition.
-/
import Derived.WalkKit
import Derived.WalkSpells
import Derived.WalkLawsBesides
import Derived.Lib.Hide
import Derived.Deep.Draws
import Derived.Lib.SlBytesConst
import Derived.Test.YtpndglghpojjkaaRows
import Derived.ProofKit
import Derived.OpenShut
import Derived.Deep.Matrix
import Derived.Maps.AppendAt
import Derived.Deep.QuietTactic
import Derived.BigQuiet
import Derived.StillTailTactics
import Derived.IntWalk
/- Words for memory that all texts of this seat use: a block that is known whole, and how it is kept. Plain lemmas, no program in sight. -/
namespace Go.Proofs.Ytpndglghpojjkaa
open Go.RowKit

/-- Block g holds just the cells cs, of element type t, none frozen. -/
def Holds (w : World) (g : Nat) (t : TypeId) (cs : Array Value) : Prop := w.heap[g]? = some (.cells cs t (0, 0))

section
variable {w w' : World} {g : Nat} {t : TypeId} {cs : Array Value}
theorem Holds.lt (h : Holds w g t cs) : g < w.heap.size := (Array.getElem?_eq_some_iff.1 h).1
theorem Holds.cell (h : Holds w g t cs) (i : Nat) : w.cell? ⟨g, i, none⟩ = cs[i]? := cell_of_row w g i cs t (0, 0) h
theorem Holds.frozen (h : Holds w g t cs) (i : Nat) : w.frozen? ⟨g, i, none⟩ = false := by
 unfold Holds at h
 simp [World.frozen?, h]
theorem Holds.new (w : World) (t : TypeId) (cs : Array Value) : Holds (w.alloc (.cells cs t)) w.heap.size t cs := heap_alloc_new w _
theorem Holds.alloc (h : Holds w g t cs) (o : Obj) : Holds (w.alloc o) g t cs := (Below.heap_alloc w o g h.lt).trans h
theorem Holds.drewN (h : Holds w g t cs) (n : Nat) : Holds (w.drewN n) g t cs := h
theorem Holds.store (h : Holds w g t cs) (i : Nat) (u : Value) : Holds (w.setCell ⟨g, i, none⟩ u) g t (cs.setIfInBounds i u) := by
 unfold Holds at h ⊢
 simp [World.setCell, Array.getElem?_modify, h]
theorem Holds.apart (h : Holds w g t cs) {p : Addr} (hp : g ≠ p.block) (u : Value) : Holds (w.setCell p u) g t cs := (Below.heap_setCell w p u g hp).trans h
theorem Holds.below {B : Nat} (h : Holds w g t cs) (hb : Below B w w') (hg : g < B) : Holds w' g t cs := (hb.block g hg).trans h
theorem Holds.grown {row : Option Nat} (h : Holds w g t cs) (hb : w.grownBy w' row) (hg : some g ≠ row) : Holds w' g t cs := (hb.block g h.lt hg).trans h
theorem Holds.row (h : Holds w g t cs) (cs' : Array Value) : Holds (w.setRow g cs') g t cs' := by
 unfold Holds at h ⊢
 simp [World.setRow, Array.getElem?_modify, h]
end
/-- The cells vs lie behind the address A, in a block below B. (No cell: A may be whatever it likes.) -/
def Row (w : World) (B : Nat) (A : Option Addr) (vs : List Value) : Prop :=
 vs ≠ [] → ∃ b off, A = some ⟨b, off, none⟩ ∧ b < B ∧ ∀ j u, vs[j]? = some u → w.cell? ⟨b, off + j, none⟩ = some u

section
variable {w w' : World} {B B' : Nat} {A : Option Addr} {vs : List Value}
theorem Row.nil_ (w : World) (B : Nat) (A : Option Addr) : Row w B A [] := fun h => absurd rfl h
theorem Row.keep (h : Row w B A vs) (hk : ∀ p : Addr, p.block < B → w'.cell? p = w.cell? p) : Row w' B A vs := fun hn => by
 obtain ⟨b, off, e, hb, hc⟩ := h hn
 exact ⟨b, off, e, hb, fun j u hu => (hk _ hb).trans (hc j u hu)⟩
theorem Row.more (h : Row w B A vs) (hB : B ≤ B') : Row w B' A vs := fun hn => by
 obtain ⟨b, off, e, hb, hc⟩ := h hn
 exact ⟨b, off, e, by omega, hc⟩
theorem Row.below (h : Row w B A vs) (hb : Below B w w') : Row w' B A vs := h.keep fun _ hp => hb.cell hp
theorem Row.at_ {k : Nat} (h : Row w B A vs) (hk : k < vs.length) : ∃ b off, A = some ⟨b, off, none⟩ ∧ b < B ∧ w.cell? ⟨b, off + k, none⟩ = some vs[k] := by
 obtain ⟨b, off, e, hb, hc⟩ := h (by intro h; subst h; simp at hk)
 exact ⟨b, off, e, hb, hc k _ (List.getElem?_eq_getElem hk)⟩
theorem Row.take (h : Row w B A vs) (k : Nat) : Row w B A (vs.take k) := fun hn => by
 obtain ⟨b, off, e, hb, hc⟩ := h (by rintro rfl; simp at hn)
 refine ⟨b, off, e, hb, fun j u hu => hc j u ?_⟩
 rw [List.getElem?_take] at hu
 split at hu
 ·exact hu
 ·cases hu
end

theorem ret_int {k : IntKind} {a b : Int} (h : a = b) : Ending.returned (.int k a) = .returned (.int k b) := by rw [h]
theorem ret_bool {a b : Bool} (h : a = b) : Ending.returned (.bool a) = .returned (.bool b) := by rw [h]

/-- A byte as a value. -/
def byteV (b : UInt8) : Value := .int .u8 b.toNat
/-- The bytes l lie behind A. -/
def Bytes (w : World) (B : Nat) (A : Option Addr) (l : List UInt8) : Prop := Row w B A (l.map byteV)
theorem Bytes.at_ {w : World} {B : Nat} {A : Option Addr} {l : List UInt8} {k : Nat} (h : Bytes w B A l) (hk : k < l.length) :
  ∃ b off, A = some ⟨b, off, none⟩ ∧ b < B ∧ w.cell? ⟨b, off + k, none⟩ = some (.int .u8 l[k].toNat) := by
 obtain ⟨b, off, e, hb, hc⟩ := Row.at_ h (k := k) (by simpa using hk)
 exact ⟨b, off, e, hb, by simpa [byteV] using hc⟩
/-- The slices ls of bytes lie behind A, each with its bytes. -/
def Slices (w : World) (B : Nat) (A : Option Addr) (ls : List (List UInt8)) : Prop :=
 ∃ vs : List Value, vs.length = ls.length ∧ Row w B A vs ∧ ∀ i (h : i < ls.length), ∃ Ai ci, vs[i]? = some (.slice Ai ls[i].length ci) ∧ Bytes w B Ai ls[i] ∧ ls[i].length ≤ maxLen
theorem Slices.below {w w' : World} {B : Nat} {A : Option Addr} {ls : List (List UInt8)} (h : Slices w B A ls) (hb : Below B w w') : Slices w' B A ls := by
 obtain ⟨vs, hl, hr, hi⟩ := h
 exact ⟨vs, hl, hr.below hb, fun i hlt => by
  obtain ⟨Ai, ci, h1, h2, h3⟩ := hi i hlt
  exact ⟨Ai, ci, h1, Row.below h2 hb, h3⟩⟩
theorem Slices.more {w : World} {B B' : Nat} {A : Option Addr} {ls : List (List UInt8)} (h : Slices w B A ls) (hB : B ≤ B') : Slices w B' A ls := by
 obtain ⟨vs, hl, hr, hi⟩ := h
 exact ⟨vs, hl, hr.more hB, fun i hlt => by
  obtain ⟨Ai, ci, h1, h2, h3⟩ := hi i hlt
  exact ⟨Ai, ci, h1, Row.more h2 hB, h3⟩⟩
theorem Slices.at_ {w : World} {B : Nat} {A : Option Addr} {ls : List (List UInt8)} {k : Nat} (h : Slices w B A ls) (hk : k < ls.length) :
  ∃ b off Ai ci, A = some ⟨b, off, none⟩ ∧ b < B ∧ w.cell? ⟨b, off + k, none⟩ = some (.slice Ai ls[k].length ci) ∧ Bytes w B Ai ls[k] ∧ ls[k].length ≤ maxLen := by
 obtain ⟨vs, hl, hr, hi⟩ := h
 obtain ⟨Ai, ci, h1, h2, h3⟩ := hi k hk
 obtain ⟨b, off, e, hb, hc⟩ := hr.at_ (k := k) (by omega)
 have : vs[k]'(by omega) = .slice Ai ls[k].length ci := by
  have h4 := List.getElem?_eq_getElem (l := vs) (i := k) (by omega)
  rw [h4] at h1
  exact Option.some.inj h1
 exact ⟨b, off, Ai, ci, e, hb, by rw [hc, this], h2, h3⟩

theorem Row.ofBlock {w : World} {g B : Nat} {t : TypeId} {cs : Array Value} {fr : Nat × Nat} (h : w.heap[g]? = some (.cells cs t fr)) (hB : g < B) : Row w B (some ⟨g, 0, none⟩) cs.toList :=
 fun _ => ⟨g, 0, rfl, hB, fun j u hu => by rw [Nat.zero_add, cell_of_row w g j cs t fr h]; simpa using hu⟩
/-- The strings ss lie behind A. -/
def Strs (w : World) (B : Nat) (A : Option Addr) (ss : List ByteArray) : Prop := Row w B A (ss.map Value.string)
theorem Strs.at_ {w : World} {B : Nat} {A : Option Addr} {ss : List ByteArray} {k : Nat} (h : Strs w B A ss) (hk : k < ss.length) :
  ∃ b off, A = some ⟨b, off, none⟩ ∧ b < B ∧ w.cell? ⟨b, off + k, none⟩ = some (.string ss[k]) := by
 obtain ⟨b, off, e, hb, hc⟩ := Row.at_ h (k := k) (by simpa using hk)
 exact ⟨b, off, e, hb, by simpa using hc⟩

/-- The text of the bytes l. -/
def strV (l : List UInt8) : ByteArray := ⟨l.toArray⟩
theorem strV_size (l : List UInt8) : (strV l).size = l.length := by simp [strV, ByteArray.size]
/-- What a row of the call's own holds, read as cells behind its address. -/
theorem own_row {w : World} {base : Nat} {e : TypeId} {v : Value} {n : Nat} {xs : List Value} (h : w.ownsRow base e 1 v n xs) : ∃ A c, v = .slice A n c ∧ Row w w.heap.size A xs ∧ xs.length = n ∧ n ≤ c := by
 have hl := h.1
 rcases h.2 with ⟨rfl, rfl⟩ | ⟨g, cap, cur, rfl, hg, hh, hn, _⟩
 ·have : xs = [] := List.eq_nil_of_length_eq_zero (by omega)
  subst this
  exact ⟨none, 0, rfl, Row.nil_ _ _ _, rfl, Nat.le_refl _⟩
 ·refine ⟨_, cap, rfl, fun _ => ⟨g, 0, rfl, (Array.getElem?_eq_some_iff.1 hh).1, fun j u hu => ?_⟩, by omega, hn⟩
  have := h.cells (g := g) rfl j u hu
  have hadd : (⟨g, 0, none⟩ : Addr).add j = ⟨g, 0 + j, none⟩ := by unfold Addr.add; split <;> simp_all
  rw [← hadd]
  exact this

theorem Bytes.below {w w' : World} {B : Nat} {A : Option Addr} {l : List UInt8} (h : Bytes w B A l) (hb : Below B w w') : Bytes w' B A l := Row.below h hb
theorem Bytes.more {w : World} {B B' : Nat} {A : Option Addr} {l : List UInt8} (h : Bytes w B A l) (hB : B ≤ B') : Bytes w B' A l := Row.more h hB
theorem Bytes.up {w w' : World} {A : Option Addr} {l : List UInt8} (h : Bytes w w.heap.size A l) (hb : Below w.heap.size w w') : Bytes w' w'.heap.size A l := (h.below hb).more hb.size
theorem Slices.up {w w' : World} {A : Option Addr} {l : List (List UInt8)} (h : Slices w w.heap.size A l) (hb : Below w.heap.size w w') : Slices w' w'.heap.size A l := (h.below hb).more hb.size
theorem Strs.up {w w' : World} {A : Option Addr} {l : List ByteArray} (h : Strs w w.heap.size A l) (hb : Below w.heap.size w w') : Strs w' w'.heap.size A l := Row.more (Row.below h hb) hb.size
theorem Bytes.take {w : World} {B : Nat} {A : Option Addr} {l : List UInt8} (h : Bytes w B A l) (k : Nat) : Bytes w B A (l.take k) := by
 have := Row.take h k
 rw [← List.map_take] at this
 exact this
theorem Row.fresh (w : World) (t : TypeId) (vs : List Value) : Row (w.alloc (.cells vs.toArray t)) (w.alloc (.cells vs.toArray t)).heap.size (some ⟨w.heap.size, 0, none⟩) vs := by
 have := Row.ofBlock (heap_alloc_new w (.cells vs.toArray t)) (B := (w.alloc (.cells vs.toArray t)).heap.size) (by simp)
 simpa using this
theorem Slices.one {w : World} (t : TypeId) {A : Option Addr} {n c : Nat} {l : List UInt8} (hn : l.length = n) (hm : n ≤ maxLen) (h : Bytes w w.heap.size A l) :
  Slices (w.alloc (.cells #[.slice A n c] t)) (w.alloc (.cells #[.slice A n c] t)).heap.size (some ⟨w.heap.size, 0, none⟩) [l] := by
 subst hn
 refine ⟨_, rfl, Row.fresh w t [.slice A l.length c], fun i hi => ?_⟩
 match i, hi with
 | 0, _ => exact ⟨A, c, rfl, h.up ((Below.refl _ _).alloc (Nat.le_refl _) _), hm⟩
theorem Slices.two {w : World} (t : TypeId) {A A' : Option Addr} {n c n' c' : Nat} {l l' : List UInt8} (hn : l.length = n) (hm : n ≤ maxLen) (h : Bytes w w.heap.size A l) (hn' : l'.length = n') (hm' : n' ≤ maxLen) (h' : Bytes w w.heap.size A' l') :
  Slices (w.alloc (.cells #[.slice A n c, .slice A' n' c'] t)) (w.alloc (.cells #[.slice A n c, .slice A' n' c'] t)).heap.size (some ⟨w.heap.size, 0, none⟩) [l, l'] := by
 subst hn hn'
 refine ⟨_, rfl, Row.fresh w t [.slice A l.length c, .slice A' l'.length c'], fun i hi => ?_⟩
 match i, hi with
 | 0, _ => exact ⟨A, c, rfl, h.up ((Below.refl _ _).alloc (Nat.le_refl _) _), hm⟩
 | 1, _ => exact ⟨A', c', rfl, h'.up ((Below.refl _ _).alloc (Nat.le_refl _) _), hm'⟩
theorem Strs.new (w : World) (t : TypeId) (ss : List ByteArray) : Strs (w.alloc (.cells (ss.map Value.string).toArray t)) (w.alloc (.cells (ss.map Value.string).toArray t)).heap.size (some ⟨w.heap.size, 0, none⟩) ss := Row.fresh w t _
theorem below_new (w : World) (o : Obj) : Below w.heap.size w (w.alloc o) := (Below.refl _ _).alloc (Nat.le_refl _) _

end Go.Proofs.Ytpndglghpojjkaa
/- What a statement's walk is told of each argument that came in, and two closed facts of the program that every row asks. -/
namespace Go.Proofs.Ytpndglghpojjkaa
open Go.RowKit Go.ChangeShapes Go.WideShapes Go.Deep
open Go.ChangeMaps (open_string)

theorem Try.own : ownKnob Try.prog.godebug = none := by kernel_rfl
theorem Try.laidOut : laidOutB Try.prog = true := by kernel_rfl

/-- The value v, of type t, reads as some datum in W. -/
def ArgOk (t : TypeId) (W : World) (v : Value) : Prop :=
 ∃ (H : Type) (enc : TypeId × Value → H) (d : DataW H) (p : List MemPlace) (base : Nat), Value.okWide Try.prog W .any base t v ∧ DataW.Trod enc Try.prog W 0 (fun _ => true) true t v d p

theorem arg_lt {H : Type} {enc : TypeId × Value → H} {W : World} {t : TypeId} {v : Value} {d : DataW H} {p : List MemPlace} (h : DataW.Trod enc Try.prog W 0 (fun _ => true) true t v d p) : ∀ x ∈ p, x.block < W.heap.size := by
 obtain ⟨m, hm⟩ := h
 exact DataW.trod_lt m _ _ _ hm

set_option maxRecDepth 100000 in
theorem ArgOk.int {W : World} {v : Value} (h : ArgOk 3 W v) : ∃ n : Int, v = .int .i64 n ∧ -9223372036854775808 ≤ n ∧ n ≤ 9223372036854775807 := by
 obtain ⟨H, enc, d, p, base, hok, hf⟩ := h
 obtain ⟨n, rfl, _, _, hw⟩ := open_int Try.underlying3 hok hf
 refine ⟨n, rfl, ?_⟩
 simp [Lit.wf, IntKind.min, IntKind.max, IntKind.signed, IntKind.bits] at hw
 omega
set_option maxRecDepth 100000 in
theorem ArgOk.u8 {W : World} {v : Value} (h : ArgOk 5 W v) : ∃ n : Nat, v = .int .u8 n ∧ n < 256 := by
 obtain ⟨H, enc, d, p, base, hok, hf⟩ := h
 obtain ⟨n, rfl, _, _, hw⟩ := open_int Try.underlying5 hok hf
 have := bounds_u8 hw
 exact ⟨n.toNat, by rw [Int.toNat_of_nonneg this.1], by omega⟩

end Go.Proofs.Ytpndglghpojjkaa
/- The document's texts, plainly: tokens, and how a function is read out of them (P6.1, P7.1, P7.2). No program in sight. -/
namespace Go.Proofs.Ytpndglghpojjkaa

/-- A token: its kind (0: a name, 1: a number, 2: a sign), its text, where it begins. -/
structure Tok where
 k : Nat
 t : List UInt8
 at_ : Nat
def letC (c : UInt8) : Bool := (97 ≤ c.toNat && c.toNat ≤ 122) || (65 ≤ c.toNat && c.toNat ≤ 90) || c.toNat == 95
def digC (c : UInt8) : Bool := 48 ≤ c.toNat && c.toNat ≤ 57
def wsC (c : UInt8) : Bool := c.toNat == 32 || c.toNat == 9 || c.toNat == 13 || c.toNat == 10
/-- How many of the first bytes are such. -/
def span_ (p : UInt8 → Bool) : List UInt8 → Nat
 | [] => 0
 | c :: r => if p c then span_ p r + 1 else 0
/-- A number's value, and whether it has grown too great. -/
def numG : List UInt8 → Nat → Bool → Nat × Bool
 | [], n, g => (n, g)
 | c :: r, n, g => if 922337203685477580 < n then numG r n true else numG r (10 * n + (c.toNat - 48)) g
def signs1 : List UInt8 := [61, 60, 62, 43, 45, 42, 47, 37, 38, 33, 40, 41, 123, 125, 91, 93, 44, 59]
/-- Is it one of the signs of two bytes? -/
def two_ (l : List UInt8) : Bool := l.take 2 == [61, 61] || l.take 2 == [33, 61] || l.take 2 == [60, 61] || l.take 2 == [62, 61] || l.take 2 == [38, 38] || l.take 2 == [124, 124]
/-- Tokens, from a place on: those so far; where, which error. -/
def lexL : Nat → List UInt8 → Nat → List Tok → List Tok × Nat × Nat
 | 0, _, _, out => (out, 0, 0)
 | f + 1, l, i, out => match l with
  | [] => (out, 0, 0)
  | c :: r =>
   if wsC c then lexL f r (i + 1) out
   else if c.toNat = 35 then lexL f (l.drop (span_ (fun x => x.toNat != 10) l)) (i + span_ (fun x => x.toNat != 10) l) out
   else if letC c then
    if 32 < span_ (fun x => letC x || digC x) l then ([], i, 53)
    else lexL f (l.drop (span_ (fun x => letC x || digC x) l)) (i + span_ (fun x => letC x || digC x) l) (out ++ [⟨0, l.take (span_ (fun x => letC x || digC x) l), i⟩])
   else if digC c then
    if (numG (l.take (span_ digC l)) 0 false).2 || 9223372036854775807 < (numG (l.take (span_ digC l)) 0 false).1 then ([], i, 53)
    else if (match l.drop (span_ digC l) with | [] => false | d :: _ => letC d) || (c.toNat == 48 && 1 < span_ digC l) then ([], i, 50)
    else lexL f (l.drop (span_ digC l)) (i + span_ digC l) (out ++ [⟨1, l.take (span_ digC l), i⟩])
   else if two_ l then lexL f (l.drop 2) (i + 2) (out ++ [⟨2, l.take 2, i⟩])
   else if signs1.contains c then lexL f r (i + 1) (out ++ [⟨2, [c], i⟩])
   else ([], i, 50)
def lexF (l : List UInt8) : List Tok × Nat × Nat := if 4096 < l.length then ([], 0, 53) else lexL (l.length + 1) l 0 []

/-- Expressions; nil: none. -/
inductive Ex where
 | nil : Ex
 | mk (k : Nat) (n : Int) (nm : List UInt8) (a b : Ex) : Ex
/-- Conditions. -/
inductive Cn where
 | nil : Cn
 | mk (k : Nat) (a b : Ex) (p q : Cn) (nm : List UInt8) : Cn
/-- Arguments of calls. -/
structure Ag where
 ptr : Bool
 nm : List UInt8
 e : Ex
/-- A statement without its blocks. -/
structure Hd where
 k : Nat
 x : List UInt8
 y : List UInt8
 e : Ex
 f : Ex
 c : Cn
 args : List Ag
 at_ : Nat
/-- Statements, each with its blocks. -/
inductive Sl where
 | nil : Sl
 | cons (h : Hd) (t e r : Sl) : Sl
structure Vr where
 nm : List UInt8
 ptr : Bool
structure Fnc where
 nm : List UInt8
 ps : List Vr
 ls : List Vr
 body : Sl
def Fnc.none : Fnc := ⟨[], [], [], .nil⟩
def Sl.len : Sl → Nat
 | .nil => 0
 | .cons _ _ _ r => r.len + 1
def Sl.snoc : Sl → Hd → Sl → Sl → Sl
 | .nil, h, t, e => .cons h t e .nil
 | .cons h0 t0 e0 r, h, t, e => .cons h0 t0 e0 (r.snoc h t e)
theorem Sl.snoc_len : ∀ (l : Sl) (h : Hd) (t e : Sl), (l.snoc h t e).len = l.len + 1
 | .nil, _, _, _ => rfl
 | .cons _ _ _ r, h, t, e => by
  show (r.snoc h t e).len + 1 = r.len + 1 + 1
  rw [Sl.snoc_len r h t e]

/-- What a parser reads. -/
structure PC where
 tk : List Tok
 end_ : Nat
/-- Where a parser stands. -/
structure PS where
 i : Nat
 e : Nat
 at_ : Nat
 deep : Nat
 n : Nat
section
variable (C : PC)
def failF (k : Nat) (s : PS) : PS := if s.e = 0 then { s with e := k, at_ := match C.tk[s.i]? with | some t => t.at_ | none => C.end_ } else s
def isF (t : List UInt8) (s : PS) : Bool := s.e == 0 && (match C.tk[s.i]? with | some x => x.k != 1 && x.t == t | none => false)
def PS.next (s : PS) : PS := { s with i := s.i + 1 }
def PS.shut (s : PS) : PS := { s with deep := s.deep - 1 }
def takeF (t : List UInt8) (s : PS) : Bool × PS := if isF C t s then (true, s.next) else (false, s)
def wantF (t : List UInt8) (s : PS) : PS := if isF C t s then s.next else failF C 51 s
def words_ : List (List UInt8) := [[102, 110], [118, 97, 114], [112, 116, 114], [105, 102], [101, 108, 115, 101], [119, 104, 105, 108, 101], [114, 101, 116, 117, 114, 110], [97, 115, 115, 101, 114, 116], [110, 117, 108, 108], [99, 101, 108, 108], [97, 114, 114, 97, 121]]
def wordF (t : List UInt8) : Bool := words_.any fun x => x == t
def namedF (s : PS) : Bool := s.e == 0 && (match C.tk[s.i]? with | some x => x.k == 0 && !wordF x.t | none => false)
def nameF (s : PS) : List UInt8 × PS := if namedF C s then ((match C.tk[s.i]? with | some x => x.t | none => []), s.next) else ([], failF C 51 s)
def openF (s : PS) : Bool × PS := if s.e ≠ 0 then (false, s) else if 40 ≤ s.deep then (false, failF C 52 s) else (true, { s with deep := s.deep + 1 })
def w64 (x : Int) : Int := (x + 9223372036854775808) % 18446744073709551616 - 9223372036854775808
/-- A number's text read, as 64 bits wrap. -/
def numF : List UInt8 → Int → Int
 | [], n => n
 | c :: r, n => numF r (w64 (w64 (10 * n) + (c - 48).toNat))
def unF (sum un : PS → Ex × PS) (s : PS) : Ex × PS :=
 if s.e ≠ 0 then (.nil, failF C 51 s) else
 match C.tk[s.i]? with
 | none => (.nil, failF C 51 s)
 | some x =>
  if isF C [45] s then
   if (openF C s).1 then (.mk 7 0 [] (un (openF C s).2.next).1 .nil, (un (openF C s).2.next).2.shut) else (.nil, (openF C s).2)
  else if isF C [40] s then
   if (openF C s).1 then ((sum (openF C s).2.next).1, (wantF C [41] (sum (openF C s).2.next).2).shut) else (.nil, (openF C s).2)
  else if x.k = 1 then (.mk 0 (numF x.t 0) [] .nil .nil, s.next)
  else if namedF C s then (.mk 1 0 (nameF C s).1 .nil .nil, (nameF C s).2)
  else (.nil, failF C 51 s)
/-- Which of the signs of a product is next (0: none). -/
def prodK (s : PS) : Nat := if isF C [42] s then 4 else if isF C [47] s then 5 else if isF C [37] s then 6 else 0
def sumK (s : PS) : Nat := if isF C [45] s then 3 else if isF C [43] s then 2 else 0
/-- More parts of a sum, or of a product. -/
def moreL (kf : PS → Nat) (part : PS → Ex × PS) : Nat → Ex → PS → Ex × PS
 | 0, a, s => (a, s)
 | f + 1, a, s => if s.e ≠ 0 then (a, s) else if kf s = 0 then (a, s) else moreL kf part f (.mk (kf s) 0 [] a (part s.next).1) (part s.next).2
def prodF (un : PS → Ex × PS) (s : PS) : Ex × PS := moreL (prodK C) un (C.tk.length + 1) (un s).1 (un s).2
def sumF (un : PS → Ex × PS) (s : PS) : Ex × PS := moreL (sumK C) (prodF C un) (C.tk.length + 1) (prodF C un s).1 (prodF C un s).2
/-- A part of a product, where so many more may be opened. -/
def unD : Nat → PS → Ex × PS
 | 0 => unF C (fun s => (.nil, s)) (fun s => (.nil, s))
 | d + 1 => unF C (sumF C (unD d)) (unD d)
def prodD (d : Nat) : PS → Ex × PS := prodF C (unD C d)
def sumD (d : Nat) : PS → Ex × PS := sumF C (unD C d)

def cmpT : List (List UInt8) := [[61, 61], [33, 61], [60], [60, 61], [62], [62, 61]]
/-- Behind a sum: which comparison. -/
def cmpF (sum : PS → Ex × PS) (a : Ex) : Nat → List (List UInt8) → PS → Cn × PS
 | _, [], s => (.nil, failF C 51 s)
 | k, t :: r, s => if isF C t s then (.mk k a (sum s.next).1 .nil .nil [], (sum s.next).2) else cmpF sum a (k + 1) r s
def txtAt (i : Nat) : List UInt8 := match C.tk[i]? with | some x => x.t | none => []
def nullF (s : PS) : Bool := namedF C s && (decide (s.i + 2 < C.tk.length) && (txtAt C (s.i + 2) == [110, 117, 108, 108] && (txtAt C (s.i + 1) == [61, 61] || txtAt C (s.i + 1) == [33, 61])))
def notF (sum : PS → Ex × PS) (cond not_ : PS → Cn × PS) (s : PS) : Cn × PS :=
 if isF C [33] s then
  if (openF C s).1 then (.mk 8 .nil .nil (not_ (openF C s).2.next).1 .nil [], (not_ (openF C s).2.next).2.shut) else (.nil, (openF C s).2)
 else if isF C [40] s then
  if (openF C s).1 then ((cond (openF C s).2.next).1, (wantF C [41] (cond (openF C s).2.next).2).shut) else (.nil, (openF C s).2)
 else if nullF C s then
  ((if txtAt C (s.i + 1) == [33, 61] then .mk 8 .nil .nil (.mk 9 .nil .nil .nil .nil (txtAt C s.i)) .nil [] else .mk 9 .nil .nil .nil .nil (txtAt C s.i)), { s with i := s.i + 3 })
 else cmpF C sum (sum s).1 0 cmpT (sum s).2
/-- More parts of a condition. -/
def joinL (t : List UInt8) (k : Nat) (part : PS → Cn × PS) : Nat → Cn → PS → Cn × PS
 | 0, c, s => (c, s)
 | f + 1, c, s => if isF C t s then joinL t k part f (.mk k .nil .nil c (part s.next).1 []) (part s.next).2 else (c, s)
def andF (not_ : PS → Cn × PS) (s : PS) : Cn × PS := joinL C [38, 38] 6 not_ (C.tk.length + 1) (not_ s).1 (not_ s).2
def condF (not_ : PS → Cn × PS) (s : PS) : Cn × PS := joinL C [124, 124] 7 (andF C not_) (C.tk.length + 1) (andF C not_ s).1 (andF C not_ s).2
def notD : Nat → PS → Cn × PS
 | 0 => notF C (sumD C 0) (fun s => (.nil, s)) (fun s => (.nil, s))
 | d + 1 => notF C (sumD C (d + 1)) (condF C (notD d)) (notD d)
def andD (d : Nat) : PS → Cn × PS := andF C (notD C d)
def condD (d : Nat) : PS → Cn × PS := condF C (notD C d)

/-- A call's arguments, behind its bracket. -/
def argsL (sum : PS → Ex × PS) : Nat → List Ag → PS → List Ag × PS
 | 0, _, s => ([], s)
 | f + 1, l, s => if s.e ≠ 0 then ([], s) else
  if isF C [41] (sum s).2 then (l ++ [⟨false, [], (sum s).1⟩], (sum s).2.next)
  else argsL sum f (l ++ [⟨false, [], (sum s).1⟩]) (wantF C [44] (sum s).2)
def argsF (sum : PS → Ex × PS) (s : PS) : List Ag × PS := if isF C [41] s then ([], s.next) else argsL C sum (C.tk.length + 1) [] s
def valueF (sum : PS → Ex × PS) (h : Hd) (s : PS) : Hd × PS :=
 if isF C [110, 117, 108, 108] s then ({ h with k := 3 }, s.next)
 else if isF C [38] s then ({ h with k := 1, y := (nameF C s.next).1 }, (nameF C s.next).2)
 else if isF C [42] s then ({ h with k := 4, y := (nameF C s.next).1 }, (nameF C s.next).2)
 else if namedF C s && (decide (s.i + 1 < C.tk.length) && txtAt C (s.i + 1) == [91]) then
  ({ h with k := 6, y := (nameF C s).1, e := (sum (nameF C s).2.next).1 }, wantF C [93] (sum (nameF C s).2.next).2)
 else if namedF C s && (decide (s.i + 1 < C.tk.length) && txtAt C (s.i + 1) == [40]) then
  ({ h with k := 8, y := (nameF C s).1, args := (argsF C sum (nameF C s).2.next).1 }, (argsF C sum (nameF C s).2.next).2)
 else ({ h with k := 0, e := (sum s).1 }, (sum s).2)
def knownF (s : PS) : Bool := namedF C s || isF C [42] s || isF C [114, 101, 116, 117, 114, 110] s || isF C [97, 115, 115, 101, 114, 116] s || isF C [105, 102] s || isF C [119, 104, 105, 108, 101] s
def hd0 (n : Nat) : Hd := ⟨0, [], [], .nil, .nil, .nil, [], n⟩
def PS.one (s : PS) : PS := { s with n := s.n + 1 }
/-- A statement that is neither if nor while, up to its end. -/
def plainF (sum : PS → Ex × PS) (cond : PS → Cn × PS) (n : Nat) (s : PS) : Hd × PS :=
 if isF C [114, 101, 116, 117, 114, 110] s then ({ hd0 n with k := 9, e := (sum s.next).1 }, (sum s.next).2)
 else if isF C [97, 115, 115, 101, 114, 116] s then ({ hd0 n with k := 12, c := (cond (wantF C [40] s.next)).1 }, wantF C [41] (cond (wantF C [40] s.next)).2)
 else if isF C [42] s then ({ hd0 n with k := 5, x := (nameF C s.next).1, e := (sum (wantF C [61] (nameF C s.next).2)).1 }, (sum (wantF C [61] (nameF C s.next).2)).2)
 else if isF C [40] (nameF C s).2 then ({ hd0 n with k := 8, y := (nameF C s).1, args := (argsF C sum (nameF C s).2.next).1 }, (argsF C sum (nameF C s).2.next).2)
 else if isF C [91] (nameF C s).2 then
  ({ hd0 n with k := 7, y := (nameF C s).1, e := (sum (nameF C s).2.next).1, f := (sum (wantF C [61] (wantF C [93] (sum (nameF C s).2.next).2))).1 }, (sum (wantF C [61] (wantF C [93] (sum (nameF C s).2.next).2))).2)
 else valueF C sum { hd0 n with x := (nameF C s).1 } (wantF C [61] (nameF C s).2)
/-- An if, or a while: its head. -/
def testF (cond : PS → Cn × PS) (s : PS) : Cn × PS := ((cond (wantF C [40] s.next)).1, wantF C [41] (cond (wantF C [40] s.next)).2)
def stmtF (sum : PS → Ex × PS) (cond : PS → Cn × PS) (block : PS → Sl × PS) (s : PS) : (Hd × Sl × Sl) × PS :=
 if knownF C s && decide (200 ≤ s.n) then ((hd0 s.n, .nil, .nil), failF C 53 s)
 else if isF C [105, 102] s.one then
  if isF C [101, 108, 115, 101] (block (testF C cond s.one).2).2 then
   (({ hd0 s.n with k := 10, c := (testF C cond s.one).1 }, (block (testF C cond s.one).2).1, (block (block (testF C cond s.one).2).2.next).1), (block (block (testF C cond s.one).2).2.next).2)
  else (({ hd0 s.n with k := 10, c := (testF C cond s.one).1 }, (block (testF C cond s.one).2).1, .nil), (block (testF C cond s.one).2).2)
 else if isF C [119, 104, 105, 108, 101] s.one then
  (({ hd0 s.n with k := 11, c := (testF C cond s.one).1 }, (block (testF C cond s.one).2).1, .nil), (block (testF C cond s.one).2).2)
 else (((plainF C sum cond s.n s.one).1, .nil, .nil), wantF C [59] (plainF C sum cond s.n s.one).2)
/-- Statements up to the bracket. -/
def stmtsL (stmt : PS → (Hd × Sl × Sl) × PS) : Nat → Sl → PS → Sl × PS
 | 0, l, s => (l, s)
 | f + 1, l, s => if s.e ≠ 0 then (l, s) else if isF C [125] s then (l, s.next) else if C.tk.length ≤ s.i then (.nil, failF C 51 s)
  else stmtsL stmt f (l.snoc (stmt s).1.1 (stmt s).1.2.1 (stmt s).1.2.2) (stmt s).2
def stmtsF (stmt : PS → (Hd × Sl × Sl) × PS) (s : PS) : Sl × PS := stmtsL C stmt (C.tk.length + 1) .nil s
def blockF (stmts : PS → Sl × PS) (s : PS) : Sl × PS :=
 if isF C [123] s then
  if (openF C s).1 then ((stmts (openF C s).2.next).1, (stmts (openF C s).2.next).2.shut) else (.nil, (openF C s).2)
 else (.nil, failF C 51 s)
def stmtD : Nat → PS → (Hd × Sl × Sl) × PS
 | 0 => stmtF C (sumD C 0) (condD C 0) (blockF C fun s => (.nil, s))
 | d + 1 => stmtF C (sumD C (d + 1)) (condD C (d + 1)) (blockF C (stmtsF C (stmtD d)))
def stmtsD (d : Nat) : PS → Sl × PS := stmtsF C (stmtD C d)

def moreV (l : List Vr) (ptr : Bool) (most : Nat) (s : PS) : List Vr × PS :=
 if namedF C s && decide (most ≤ l.length) then (l, failF C 53 s) else (l ++ [⟨(nameF C s).1, ptr⟩], (nameF C s).2)
def paramsL : Nat → List Vr → PS → List Vr × PS
 | 0, l, s => (l, s)
 | f + 1, l, s => if s.e ≠ 0 then (l, s) else
  if isF C [41] (moreV C l (takeF C [42] s).1 6 (takeF C [42] s).2).2 then ((moreV C l (takeF C [42] s).1 6 (takeF C [42] s).2).1, (moreV C l (takeF C [42] s).1 6 (takeF C [42] s).2).2.next)
  else paramsL f (moreV C l (takeF C [42] s).1 6 (takeF C [42] s).2).1 (wantF C [44] (moreV C l (takeF C [42] s).1 6 (takeF C [42] s).2).2)
def paramsF (s : PS) : List Vr × PS := if isF C [41] s then ([], s.next) else paramsL C (C.tk.length + 1) [] s
def localsL : Nat → List Vr → PS → List Vr × PS
 | 0, l, s => (l, s)
 | f + 1, l, s => if isF C [118, 97, 114] s || isF C [112, 116, 114] s then
   localsL f (moreV C l (isF C [112, 116, 114] s) 20 s.next).1 (wantF C [59] (moreV C l (isF C [112, 116, 114] s) 20 s.next).2)
  else (l, s)
def bodyAt (s : PS) : PS := if isF C [123] s && (openF C s).1 then (openF C s).2.next else failF C 51 (if isF C [123] s then (openF C s).2 else s)
def restF (s : PS) : PS := if s.e = 0 ∧ s.i < C.tk.length then failF C 51 s else s
end
def headF (C : PC) : List UInt8 × PS := nameF C (wantF C [102, 110] ⟨0, 0, 0, 0, 0⟩)
def psF (C : PC) : List Vr × PS := paramsF C (wantF C [40] (headF C).2)
def lsF (C : PC) : List Vr × PS := localsL C (C.tk.length + 1) [] (bodyAt C (psF C).2)
def bodyF (C : PC) : Sl × PS := stmtsD C 39 (lsF C).2
/-- A function's text read: the function, where, which error. -/
def funcP (C : PC) : Fnc × Nat × Nat :=
 if (restF C (bodyF C).2).e ≠ 0 then (Fnc.none, (restF C (bodyF C).2).at_, (restF C (bodyF C).2).e)
 else (⟨(headF C).1, (psF C).1, (lsF C).1, (bodyF C).1⟩, 0, 0)
def funcF (l : List UInt8) : Fnc × Nat × Nat :=
 if (lexF l).2.2 ≠ 0 then (Fnc.none, (lexF l).2.1, (lexF l).2.2) else funcP ⟨(lexF l).1, l.length⟩
end Go.Proofs.Ytpndglghpojjkaa
/- What each part of the document's parser keeps, plainly: places go on, what is open is shut again, errors stay. No program in sight. -/
namespace Go.Proofs.Ytpndglghpojjkaa

/-- From s to s2 the parser has gone on. -/
structure Stp (C : PC) (s s2 : PS) : Prop where
 i1 : s.i ≤ s2.i
 i2 : s.i ≤ C.tk.length → s2.i ≤ C.tk.length
 dp : s2.deep = s.deep
 er : s.e ≠ 0 → s2.e ≠ 0
 nn : (s.n ≤ 201 ∧ (s.e = 0 → s.n ≤ 200)) → (s2.n ≤ 201 ∧ (s2.e = 0 → s2.n ≤ 200))
 pl : ∀ M, (∀ t ∈ C.tk, t.at_ ≤ M) → C.end_ ≤ M → s.at_ ≤ M → s2.at_ ≤ M
 ec : s.e ≤ 100 → s2.e ≤ 100
section
variable {C : PC} {s s2 s3 : PS}
theorem Stp.refl (s : PS) : Stp C s s := ⟨Nat.le_refl _, id, rfl, id, id, fun _ _ _ h => h, id⟩
theorem Stp.trans (h : Stp C s s2) (h2 : Stp C s2 s3) : Stp C s s3 :=
 ⟨Nat.le_trans h.i1 h2.i1, fun x => h2.i2 (h.i2 x), h2.dp.trans h.dp, fun x => h2.er (h.er x), fun x => h2.nn (h.nn x), fun M a b c => h2.pl M a b (h.pl M a b c), fun x => h2.ec (h.ec x)⟩
theorem Stp.fail (k : Nat) (hk : k ≠ 0 ∧ k ≤ 100) (s : PS) : Stp C s (failF C k s) := by
 unfold failF
 by_cases h : s.e = 0
 ·rw [if_pos h]
  refine ⟨Nat.le_refl _, id, rfl, fun x => absurd h x, fun x => ⟨x.1, fun y => absurd y hk.1⟩, fun M a b c => ?_, fun _ => hk.2⟩
  show (match C.tk[s.i]? with | some t => t.at_ | none => C.end_) ≤ M
  split
  ·rename_i t ht
   exact a t (List.mem_of_getElem? ht)
  ·exact b
 ·rw [if_neg h]
  exact Stp.refl s
theorem Stp.next (h : s.i < C.tk.length) : Stp C s s.next := ⟨Nat.le_succ _, fun _ => h, rfl, id, id, fun _ _ _ x => x, id⟩
theorem isF_lt {t : List UInt8} (h : isF C t s = true) : s.i < C.tk.length := by
 unfold isF at h
 cases hx : C.tk[s.i]? with
 | none => rw [hx] at h; simp at h
 | some x => exact (List.getElem?_eq_some_iff.1 hx).1
theorem isF_e {t : List UInt8} (h : isF C t s = true) : s.e = 0 := by
 unfold isF at h
 simp at h
 exact h.1
theorem namedF_lt (h : namedF C s = true) : s.i < C.tk.length := by
 unfold namedF at h
 cases hx : C.tk[s.i]? with
 | none => rw [hx] at h; simp at h
 | some x => exact (List.getElem?_eq_some_iff.1 hx).1
theorem Stp.is_ {t : List UInt8} (h : isF C t s = true) : Stp C s s.next := Stp.next (isF_lt h)
theorem Stp.take_ (t : List UInt8) (s : PS) : Stp C s (takeF C t s).2 := by
 unfold takeF
 split
 ·exact Stp.is_ ‹_›
 ·exact Stp.refl s
theorem Stp.want (t : List UInt8) (s : PS) : Stp C s (wantF C t s) := by
 unfold wantF
 split
 ·exact Stp.is_ ‹_›
 ·exact Stp.fail 51 (by decide) s
theorem Stp.name (s : PS) : Stp C s (nameF C s).2 := by
 unfold nameF
 split
 ·exact Stp.next (namedF_lt ‹_›)
 ·exact Stp.fail 51 (by decide) s
theorem openF_true (h : (openF C s).1 = true) : (openF C s).2 = { s with deep := s.deep + 1 } ∧ s.e = 0 ∧ s.deep < 40 := by
 unfold openF at h ⊢
 split at h
 ·cases h
 ·split at h
  ·cases h
  ·rw [if_neg ‹_›, if_neg ‹_›]
   exact ⟨rfl, by omega, by omega⟩
theorem Stp.open_no (h : (openF C s).1 = false) : Stp C s (openF C s).2 := by
 unfold openF at h ⊢
 split
 ·exact Stp.refl s
 ·split
  ·exact Stp.fail 52 (by decide) s
  ·rw [if_neg ‹_›, if_neg ‹_›] at h; cases h
/-- What is opened at a sign is shut behind. -/
theorem Stp.bracket {t : List UInt8} (hi : isF C t s = true) (h : (openF C s).1 = true) (h2 : Stp C (openF C s).2.next s2) : Stp C s s2.shut := by
 obtain ⟨e, _, _⟩ := openF_true h
 rw [e] at h2
 have hlt := isF_lt hi
 have a1 := h2.i1
 have a2 := h2.dp
 simp only [PS.next] at a1 a2
 refine ⟨by simp only [PS.shut]; omega, fun _ => h2.i2 hlt, ?_, fun x => h2.er x, fun x => h2.nn x, fun M a b c => h2.pl M a b c, fun x => h2.ec x⟩
 simp only [PS.shut]
 omega

theorem unF_stp {sum un : PS → Ex × PS} (hs : ∀ s, Stp C s (sum s).2) (hu : ∀ s, Stp C s (un s).2) (s : PS) : Stp C s (unF C sum un s).2 := by
 unfold unF
 split
 ·exact Stp.fail 51 (by decide) s
 ·split
  ·exact Stp.fail 51 (by decide) s
  ·rename_i x hx
   split
   ·split
    ·exact Stp.bracket ‹isF C [45] s = true› ‹_› (hu _)
    ·exact Stp.open_no (by simpa using ‹¬ (openF C s).1 = true›)
   ·split
    ·split
     ·exact Stp.bracket ‹isF C [40] s = true› ‹_› ((hs _).trans (Stp.want _ _))
     ·exact Stp.open_no (by simpa using ‹¬ (openF C s).1 = true›)
    ·split
     ·exact Stp.next (List.getElem?_eq_some_iff.1 hx).1
     ·split
      ·exact Stp.name s
      ·exact Stp.fail 51 (by decide) s
theorem prodK_lt (h : prodK C s ≠ 0) : s.i < C.tk.length := by
 unfold prodK at h
 split at h
 ·exact isF_lt ‹_›
 ·split at h
  ·exact isF_lt ‹_›
  ·split at h
   ·exact isF_lt ‹_›
   ·exact absurd rfl h
theorem sumK_lt (h : sumK C s ≠ 0) : s.i < C.tk.length := by
 unfold sumK at h
 split at h
 ·exact isF_lt ‹_›
 ·split at h
  ·exact isF_lt ‹_›
  ·exact absurd rfl h
theorem moreL_stp {kf : PS → Nat} {part : PS → Ex × PS} (hk : ∀ s, kf s ≠ 0 → s.i < C.tk.length) (hp : ∀ s, Stp C s (part s).2) : ∀ (f : Nat) (a : Ex) (s : PS), Stp C s (moreL kf part f a s).2
 | 0, _, s => Stp.refl s
 | f + 1, a, s => by
  unfold moreL
  split
  ·exact Stp.refl s
  ·split
   ·exact Stp.refl s
   ·exact ((Stp.next (hk s ‹_›)).trans (hp _)).trans (moreL_stp hk hp f _ _)
theorem prodF_stp {un : PS → Ex × PS} (hu : ∀ s, Stp C s (un s).2) (s : PS) : Stp C s (prodF C un s).2 := (hu s).trans (moreL_stp (fun _ => prodK_lt) hu _ _ _)
theorem sumF_stp {un : PS → Ex × PS} (hu : ∀ s, Stp C s (un s).2) (s : PS) : Stp C s (sumF C un s).2 := (prodF_stp hu s).trans (moreL_stp (fun _ => sumK_lt) (prodF_stp hu) _ _ _)
theorem unD_stp : ∀ (d : Nat) (s : PS), Stp C s (unD C d s).2
 | 0, s => unF_stp (fun s => Stp.refl s) (fun s => Stp.refl s) s
 | d + 1, s => unF_stp (sumF_stp (unD_stp d)) (unD_stp d) s
theorem prodD_stp (d : Nat) (s : PS) : Stp C s (prodD C d s).2 := prodF_stp (unD_stp d) s
theorem sumD_stp (d : Nat) (s : PS) : Stp C s (sumD C d s).2 := sumF_stp (unD_stp d) s
theorem cmpF_stp {sum : PS → Ex × PS} (hs : ∀ s, Stp C s (sum s).2) (a : Ex) : ∀ (l : List (List UInt8)) (k : Nat) (s : PS), Stp C s (cmpF C sum a k l s).2
 | [], _, s => Stp.fail 51 (by decide) s
 | t :: r, k, s => by
  unfold cmpF
  split
  ·exact (Stp.is_ ‹_›).trans (hs _)
  ·exact cmpF_stp hs a r (k + 1) s
theorem notF_stp {sum : PS → Ex × PS} {cond not_ : PS → Cn × PS} (hs : ∀ s, Stp C s (sum s).2) (hc : ∀ s, Stp C s (cond s).2) (hn : ∀ s, Stp C s (not_ s).2) (s : PS) : Stp C s (notF C sum cond not_ s).2 := by
 unfold notF
 split
 ·split
  ·exact Stp.bracket ‹isF C [33] s = true› ‹_› (hn _)
  ·exact Stp.open_no (by simpa using ‹¬ (openF C s).1 = true›)
 ·split
  ·split
   ·exact Stp.bracket ‹isF C [40] s = true› ‹_› ((hc _).trans (Stp.want _ _))
   ·exact Stp.open_no (by simpa using ‹¬ (openF C s).1 = true›)
  ·split
   ·rename_i h
    unfold nullF at h
    simp only [Bool.and_eq_true, decide_eq_true_eq] at h
    exact ⟨by simp, fun _ => by simp only; omega, rfl, id, id, fun _ _ _ x => x, id⟩
   ·exact (hs s).trans (cmpF_stp hs _ _ _ _)
theorem joinL_stp {t : List UInt8} {k : Nat} {part : PS → Cn × PS} (hp : ∀ s, Stp C s (part s).2) : ∀ (f : Nat) (c : Cn) (s : PS), Stp C s (joinL C t k part f c s).2
 | 0, _, s => Stp.refl s
 | f + 1, c, s => by
  unfold joinL
  split
  ·exact ((Stp.is_ ‹_›).trans (hp _)).trans (joinL_stp hp f _ _)
  ·exact Stp.refl s
theorem andF_stp {n : PS → Cn × PS} (hn : ∀ s, Stp C s (n s).2) (s : PS) : Stp C s (andF C n s).2 := (hn s).trans (joinL_stp hn _ _ _)
theorem condF_stp {n : PS → Cn × PS} (hn : ∀ s, Stp C s (n s).2) (s : PS) : Stp C s (condF C n s).2 := (andF_stp hn s).trans (joinL_stp (andF_stp hn) _ _ _)
theorem notD_stp : ∀ (d : Nat) (s : PS), Stp C s (notD C d s).2
 | 0, s => notF_stp (sumD_stp 0) (fun s => Stp.refl s) (fun s => Stp.refl s) s
 | d + 1, s => notF_stp (sumD_stp (d + 1)) (condF_stp (notD_stp d)) (notD_stp d) s
theorem andD_stp (d : Nat) (s : PS) : Stp C s (andD C d s).2 := andF_stp (notD_stp d) s
theorem condD_stp (d : Nat) (s : PS) : Stp C s (condD C d s).2 := condF_stp (notD_stp d) s
theorem argsL_stp {sum : PS → Ex × PS} (hs : ∀ s, Stp C s (sum s).2) : ∀ (f : Nat) (l : List Ag) (s : PS), Stp C s (argsL C sum f l s).2
 | 0, _, s => Stp.refl s
 | f + 1, l, s => by
  unfold argsL
  split
  ·exact Stp.refl s
  ·split
   ·exact (hs s).trans (Stp.is_ ‹_›)
   ·exact ((hs s).trans (Stp.want _ _)).trans (argsL_stp hs f _ _)
theorem argsF_stp {sum : PS → Ex × PS} (hs : ∀ s, Stp C s (sum s).2) (s : PS) : Stp C s (argsF C sum s).2 := by
 unfold argsF
 split
 ·exact Stp.is_ ‹_›
 ·exact argsL_stp hs _ _ _
theorem namedAt_next {b : Bool} (h : (namedF C s && (decide (s.i + 1 < C.tk.length) && b)) = true) : Stp C (nameF C s).2 (nameF C s).2.next := by
 simp only [Bool.and_eq_true, decide_eq_true_eq] at h
 refine Stp.next ?_
 unfold nameF
 rw [if_pos h.1]
 exact h.2.1
theorem valueF_stp {sum : PS → Ex × PS} (hs : ∀ s, Stp C s (sum s).2) (h : Hd) (s : PS) : Stp C s (valueF C sum h s).2 := by
 unfold valueF
 split
 ·exact Stp.is_ ‹_›
 ·split
  ·exact (Stp.is_ ‹_›).trans (Stp.name _)
  ·split
   ·exact (Stp.is_ ‹_›).trans (Stp.name _)
   ·split
    ·exact (((Stp.name s).trans (namedAt_next ‹_›)).trans (hs _)).trans (Stp.want _ _)
    ·split
     ·exact ((Stp.name s).trans (namedAt_next ‹_›)).trans (argsF_stp hs _)
     ·exact hs s
theorem plainF_stp {sum : PS → Ex × PS} {cond : PS → Cn × PS} (hs : ∀ s, Stp C s (sum s).2) (hc : ∀ s, Stp C s (cond s).2) (n : Nat) (s : PS) : Stp C s (plainF C sum cond n s).2 := by
 unfold plainF
 split
 ·exact (Stp.is_ ‹_›).trans (hs _)
 ·split
  ·exact (((Stp.is_ ‹_›).trans (Stp.want _ _)).trans (hc _)).trans (Stp.want _ _)
  ·split
   ·exact (((Stp.is_ ‹_›).trans (Stp.name _)).trans (Stp.want _ _)).trans (hs _)
   ·split
    ·exact ((Stp.name s).trans (Stp.is_ ‹_›)).trans (argsF_stp hs _)
    ·split
     ·exact (((((Stp.name s).trans (Stp.is_ ‹_›)).trans (hs _)).trans (Stp.want _ _)).trans (Stp.want _ _)).trans (hs _)
     ·exact ((Stp.name s).trans (Stp.want _ _)).trans (valueF_stp hs _ _)
theorem testF_stp {cond : PS → Cn × PS} (hc : ∀ s, Stp C s (cond s).2) (h : s.i < C.tk.length) : Stp C s (testF C cond s).2 := (((Stp.next h).trans (Stp.want _ _)).trans (hc _)).trans (Stp.want _ _)
/-- One statement more. -/
theorem Stp.one (hn : s.n < 200) : Stp C s s.one := ⟨Nat.le_refl _, id, rfl, id, fun _ => ⟨by simp only [PS.one]; omega, fun _ => by simp only [PS.one]; omega⟩, fun _ _ _ x => x, id⟩
theorem blockF_stp {stmts : PS → Sl × PS} (hs : ∀ s, Stp C s (stmts s).2) (s : PS) : Stp C s (blockF C stmts s).2 := by
 unfold blockF
 split
 ·split
  ·exact Stp.bracket ‹isF C [123] s = true› ‹_› (hs _)
  ·exact Stp.open_no (by simpa using ‹¬ (openF C s).1 = true›)
 ·exact Stp.fail 51 (by decide) s
theorem isF_not {t : List UInt8} (h : s.e ≠ 0) : isF C t s = false := by
 cases hx : isF C t s with
 | false => rfl
 | true => exact absurd (isF_e hx) h
theorem stmtF_stp {sum : PS → Ex × PS} {cond : PS → Cn × PS} {block : PS → Sl × PS} (hs : ∀ s, Stp C s (sum s).2) (hc : ∀ s, Stp C s (cond s).2) (hb : ∀ s, Stp C s (block s).2) (s : PS) (he : s.e = 0) : Stp C s (stmtF C sum cond block s).2 := by
 unfold stmtF
 by_cases hk : knownF C s = true
 ·rw [hk]
  by_cases hn : 200 ≤ s.n
  ·rw [if_pos (by simpa using hn)]
   exact Stp.fail 53 (by decide) s
  ·rw [if_neg (by simpa using hn)]
   have h1 := Stp.one (C := C) (s := s) (by omega)
   split
   ·rename_i hi
    have h2 := (h1.trans (testF_stp hc (isF_lt hi))).trans (hb _)
    split
    ·exact (h2.trans (Stp.is_ ‹_›)).trans (hb _)
    ·exact h2
   ·split
    ·rename_i hi
     exact (h1.trans (testF_stp hc (isF_lt hi))).trans (hb _)
    ·exact (h1.trans (plainF_stp hs hc _ _)).trans (Stp.want _ _)
 ·have hk' : knownF C s = false := by simpa using hk
  rw [hk']
  unfold knownF at hk'
  simp only [Bool.or_eq_false_iff] at hk'
  obtain ⟨⟨⟨⟨⟨k1, k2⟩, k3⟩, k4⟩, k5⟩, k6⟩ := hk'
  rw [if_neg (by simp), if_neg (by rw [show isF C [105, 102] s.one = isF C [105, 102] s from rfl, k5]; simp), if_neg (by rw [show isF C [119, 104, 105, 108, 101] s.one = isF C [119, 104, 105, 108, 101] s from rfl, k6]; simp)]
  have hnm : (nameF C s.one).2 = failF C 51 s.one := by
   unfold nameF
   rw [if_neg (by rw [show namedF C s.one = namedF C s from rfl, k1]; simp)]
  have he1 : (nameF C s.one).2.e ≠ 0 := by
   rw [hnm]
   unfold failF
   rw [if_pos (show s.one.e = 0 from he)]
   simp
  have hp : plainF C sum cond s.n s.one = valueF C sum { hd0 s.n with x := (nameF C s.one).1 } (wantF C [61] (nameF C s.one).2) := by
   unfold plainF
   rw [if_neg (by rw [show isF C [114, 101, 116, 117, 114, 110] s.one = isF C [114, 101, 116, 117, 114, 110] s from rfl, k3]; simp), if_neg (by rw [show isF C [97, 115, 115, 101, 114, 116] s.one = isF C [97, 115, 115, 101, 114, 116] s from rfl, k4]; simp), if_neg (by rw [show isF C [42] s.one = isF C [42] s from rfl, k2]; simp), if_neg (by rw [isF_not he1]; simp), if_neg (by rw [isF_not he1]; simp)]
  rw [hp]
  have h2 := ((Stp.want [61] (nameF C s.one).2).trans (valueF_stp hs { hd0 s.n with x := (nameF C s.one).1 } _)).trans (Stp.want (C := C) [59] _)
  have h0 : Stp C s (nameF C s.one).2 := by
   rw [hnm]
   have := Stp.fail (C := C) 51 (by decide) s.one
   exact ⟨this.i1, this.i2, this.dp, this.er, fun x => by
    rw [← hnm]
    refine ⟨?_, fun y => absurd y he1⟩
    rw [hnm]
    unfold failF
    rw [if_pos (show s.one.e = 0 from he)]
    show s.n + 1 ≤ 201
    have := x.2 he
    omega, this.pl, this.ec⟩
  exact h0.trans h2
theorem stmtsL_stp {stmt : PS → (Hd × Sl × Sl) × PS} (hs : ∀ s, s.e = 0 → Stp C s (stmt s).2) : ∀ (f : Nat) (l : Sl) (s : PS), Stp C s (stmtsL C stmt f l s).2
 | 0, _, s => Stp.refl s
 | f + 1, l, s => by
  unfold stmtsL
  split
  ·exact Stp.refl s
  ·split
   ·exact Stp.is_ ‹_›
   ·split
    ·exact Stp.fail 51 (by decide) s
    ·exact (hs s (by omega)).trans (stmtsL_stp hs f _ _)
theorem stmtsF_stp {stmt : PS → (Hd × Sl × Sl) × PS} (hs : ∀ s, s.e = 0 → Stp C s (stmt s).2) (s : PS) : Stp C s (stmtsF C stmt s).2 := stmtsL_stp hs _ _ _
theorem stmtD_stp : ∀ (d : Nat) (s : PS), s.e = 0 → Stp C s (stmtD C d s).2
 | 0, s, he => stmtF_stp (sumD_stp 0) (condD_stp 0) (blockF_stp fun s => Stp.refl s) s he
 | d + 1, s, he => stmtF_stp (sumD_stp (d + 1)) (condD_stp (d + 1)) (blockF_stp (stmtsF_stp (stmtD_stp d))) s he
theorem stmtsD_stp (d : Nat) (s : PS) : Stp C s (stmtsD C d s).2 := stmtsF_stp (stmtD_stp d) s
/-- A block, where so many more may be opened. -/
def blockD (C : PC) : Nat → PS → Sl × PS
 | 0 => blockF C fun s => (.nil, s)
 | d + 1 => blockF C (stmtsD C d)
theorem blockD_stp : ∀ (d : Nat) (s : PS), Stp C s (blockD C d s).2
 | 0, s => blockF_stp (fun s => Stp.refl s) s
 | d + 1, s => blockF_stp (stmtsD_stp d) s
/-- A statement moves on, or fails. -/
theorem failF_e (k : Nat) (hk : k ≠ 0) (s : PS) : (failF C k s).e ≠ 0 := by
 unfold failF
 split
 ·exact hk
 ·assumption
theorem moreV_stp (l : List Vr) (p : Bool) (m : Nat) (s : PS) : Stp C s (moreV C l p m s).2 := by
 unfold moreV
 split
 ·exact Stp.fail 53 (by decide) s
 ·exact Stp.name s
theorem paramsL_stp : ∀ (f : Nat) (l : List Vr) (s : PS), Stp C s (paramsL C f l s).2
 | 0, _, s => Stp.refl s
 | f + 1, l, s => by
  unfold paramsL
  split
  ·exact Stp.refl s
  ·split
   ·exact ((Stp.take_ _ s).trans (moreV_stp _ _ _ _)).trans (Stp.is_ ‹_›)
   ·exact (((Stp.take_ _ s).trans (moreV_stp _ _ _ _)).trans (Stp.want _ _)).trans (paramsL_stp f _ _)
theorem paramsF_stp (s : PS) : Stp C s (paramsF C s).2 := by
 unfold paramsF
 split
 ·exact Stp.is_ ‹_›
 ·exact paramsL_stp _ _ _
theorem localsL_stp : ∀ (f : Nat) (l : List Vr) (s : PS), Stp C s (localsL C f l s).2
 | 0, _, s => Stp.refl s
 | f + 1, l, s => by
  unfold localsL
  split
  ·rename_i h
   have hlt : s.i < C.tk.length := by
    simp only [Bool.or_eq_true] at h
    rcases h with h | h <;> exact isF_lt h
   exact (((Stp.next hlt).trans (moreV_stp _ _ _ _)).trans (Stp.want _ _)).trans (localsL_stp f _ _)
  ·exact Stp.refl s
end
end Go.Proofs.Ytpndglghpojjkaa
/- Names, plainly: what a name is in a function, which statements keep the rules, how they are resolved: the document's way and the program's; both are the same for what a text tells (P9.1). No program in sight. -/
namespace Go.Proofs.Ytpndglghpojjkaa

/-- What a name is among variables: 0: global, 1: an integer, 2: a pointer. -/
def kindL : List Vr → List UInt8 → Nat
 | [], _ => 0
 | v :: l, x => if v.nm == x then (if v.ptr then 2 else 1) else kindL l x
def Ex.name : Ex → List UInt8
 | .nil => []
 | .mk _ _ nm _ _ => nm
section
variable (K : List UInt8 → Nat)
def ptrF : Ex → Bool
 | .nil => false
 | .mk k _ nm _ _ => k == 1 && K nm == 2
/-- Is it turned into an assignment of pointers? -/
def turned (h : Hd) : Bool := h.k == 0 && K h.x == 2 && ptrF K h.e
def freeP : Ex → Bool
 | .nil => true
 | .mk k _ nm a b => (k != 1 || K nm != 2) && freeP a && freeP b
def condP : Cn → Bool
 | .nil => true
 | .mk k a b p q nm => (k != 9 || K nm == 2) && freeP K a && freeP K b && condP p && condP q
def argP (a : Ag) : Bool := if a.ptr then K a.nm == 2 else ptrF K a.e || freeP K a.e
def soundP (h : Hd) : Bool :=
 if h.k = 0 then (if K h.x = 2 then ptrF K h.e else freeP K h.e)
 else if h.k = 2 then K h.x == 2 && K h.y == 2
 else if h.k = 1 then K h.x == 2 && K h.y == 0
 else if h.k = 3 then K h.x == 2
 else if h.k = 4 then K h.x != 2 && K h.y == 2
 else if h.k = 5 then K h.x == 2 && freeP K h.e
 else if h.k = 6 then K h.x != 2 && K h.y == 0 && freeP K h.e
 else if h.k = 7 then K h.y == 0 && (freeP K h.e && freeP K h.f)
 else if h.k = 8 then (h.x == [] || K h.x != 2) && K h.y == 0 && h.args.all (argP K)
 else if h.k = 9 then freeP K h.e
 else if h.k = 10 ∨ h.k = 11 ∨ h.k = 12 then condP K h.c
 else true
/-- The first statement that does not keep the rules. -/
def firstP : Sl → Option Nat
 | .nil => none
 | .cons h t e r => if soundP K h then (match firstP t with | some a => some a | none => match firstP e with | some a => some a | none => firstP r) else some h.at_
def argL (a : Ag) : Ag := if ptrF K a.e && !a.ptr then ⟨true, a.e.name, .nil⟩ else a
def headL (h : Hd) : Hd := if ptrF K h.e && h.k == 0 then { h with k := 2, y := h.e.name, e := .nil, args := h.args.map (argL K) } else { h with args := h.args.map (argL K) }
def listP : Sl → Sl
 | .nil => .nil
 | .cons h t e r => .cons (headL K h) (listP t) (listP e) (listP r)
end
/-- What a text's expressions, conditions, statements are like. -/
def WfE : Ex → Prop
 | .nil => True
 | .mk k _ _ a b => (k = 1 → a = .nil ∧ b = .nil) ∧ WfE a ∧ WfE b
def WfC : Cn → Prop
 | .nil => True
 | .mk k a b p q _ => (k = 9 → a = .nil ∧ b = .nil ∧ p = .nil ∧ q = .nil) ∧ WfE a ∧ WfE b ∧ WfC p ∧ WfC q
structure WfH (h : Hd) (tt ee : Sl) : Prop where
 e : WfE h.e
 f : WfE h.f
 c : WfC h.c
 a : ∀ a ∈ h.args, WfE a.e ∧ (a.ptr = true → a.e = Ex.nil)
 args : h.k ≠ 8 → h.args = []
 k0 : h.k = 0 → h.f = .nil ∧ h.c = .nil ∧ tt = .nil ∧ ee = .nil
 k2 : h.k = 2 → h.e = .nil
 k : h.k ≤ 12
def WfS : Sl → Prop
 | .nil => True
 | .cons h t e r => WfH h t e ∧ WfS t ∧ WfS e ∧ WfS r
section
variable {K : List UInt8 → Nat}
theorem hd_args {h : Hd} (e : h.args = []) : ({ h with args := [] } : Hd) = h := by
 cases h
 simp only at e
 rw [e]
/-- A pointer's name is no sum without pointers. -/
theorem ptr_not_free : ∀ {e : Ex}, ptrF K e = true → freeP K e = false
 | .nil, h => by cases h
 | .mk k n nm a b, h => by
  unfold ptrF at h
  simp at h
  unfold freeP
  simp [h.1, h.2]
/-- What is resolved keeps the rules, and is resolved as it is. -/
theorem argL_again (a : Ag) (h : argP K a = true) (_h2 : a.ptr = true → a.e = Ex.nil) : argP K (argL K a) = true ∧ argL K (argL K a) = argL K a := by
 unfold argL argP at *
 cases hp : a.ptr with
 | true =>
  rw [hp] at h
  simp only [if_true] at h
  simp [hp, h]
 | false =>
  rw [hp] at h
  simp only [Bool.false_eq_true, if_false] at h
  cases hq : ptrF K a.e with
  | true =>
   have hn : K a.e.name = 2 := by
    cases he : a.e with
    | nil => rw [he] at hq; cases hq
    | mk k n nm x y => rw [he] at hq; unfold ptrF at hq; simp at hq; exact hq.2
   simp [hn, ptrF]
  | false =>
   rw [hq] at h
   simp at h
   simp [hp, hq, h]
theorem map_all {α : Type} {l : List α} {f : α → α} {p : α → Bool} (h : ∀ a ∈ l, p (f a) = true ∧ f (f a) = f a) : (l.map f).all p = true ∧ (l.map f).map f = l.map f := by
 constructor
 ·rw [List.all_eq_true]
  intro x hx
  obtain ⟨a, ha, rfl⟩ := List.mem_map.1 hx
  exact (h a ha).1
 ·rw [List.map_map]
  exact List.map_congr_left fun a ha => (h a ha).2
theorem head_again {h : Hd} {t e : Sl} (H : WfH h t e) (hs : soundP K h = true) : soundP K (headL K h) = true ∧ headL K (headL K h) = headL K h := by
 have hm : ∀ a ∈ h.args, h.args.all (argP K) = true → argP K (argL K a) = true ∧ argL K (argL K a) = argL K a := fun a ha hall => argL_again a (List.all_eq_true.1 hall a ha) (H.a a ha).2
 by_cases h0 : h.k = 0
 ·have e0 := H.args (by omega)
  cases hp : ptrF K h.e with
  | true =>
   have hn : K h.e.name = 2 := by
    cases he : h.e with
    | nil => rw [he] at hp; cases hp
    | mk k n nm x y => rw [he] at hp; unfold ptrF at hp; simp at hp; exact hp.2
   have hx : K h.x = 2 := by
    unfold soundP at hs
    rw [if_pos h0] at hs
    by_cases hx : K h.x = 2
    ·exact hx
    ·rw [if_neg hx, ptr_not_free hp] at hs
     cases hs
   have hh : headL K h = { h with k := 2, y := h.e.name, e := .nil, args := [] } := by unfold headL; simp [hp, h0, e0]
   rw [hh]
   refine ⟨by unfold soundP; simp [hx, hn], ?_⟩
   unfold headL
   simp [ptrF]
  | false =>
   have hh : headL K h = h := by unfold headL; rw [hp]; simp only [Bool.false_and, Bool.false_eq_true, if_false, e0, List.map_nil]; exact hd_args e0
   rw [hh]
   exact ⟨hs, hh⟩
 ·have hb : (h.k == 0) = false := by simpa using h0
  by_cases h8 : h.k = 8
  ·have hall : h.args.all (argP K) = true := by
    unfold soundP at hs
    rw [if_neg h0, if_neg (by omega), if_neg (by omega), if_neg (by omega), if_neg (by omega), if_neg (by omega), if_neg (by omega), if_neg (by omega), if_pos h8] at hs
    simp only [Bool.and_eq_true] at hs
    exact hs.2
   obtain ⟨m1, m2⟩ := map_all (l := h.args) (f := argL K) (p := argP K) fun a ha => hm a ha hall
   have hh : headL K h = { h with args := h.args.map (argL K) } := by unfold headL; rw [hb]; simp
   rw [hh]
   refine ⟨?_, ?_⟩
   ·unfold soundP at hs ⊢
    simp only
    rw [if_neg h0, if_neg (by omega), if_neg (by omega), if_neg (by omega), if_neg (by omega), if_neg (by omega), if_neg (by omega), if_neg (by omega), if_pos h8] at hs ⊢
    simp only [Bool.and_eq_true] at hs ⊢
    exact ⟨hs.1, m1⟩
   ·unfold headL
    simp only [hb, Bool.and_false, Bool.false_eq_true, if_false, m2]
  ·have e0 := H.args h8
   have hh : headL K h = h := by unfold headL; rw [hb]; simp only [Bool.and_false, Bool.false_eq_true, if_false, e0, List.map_nil]; exact hd_args e0
   rw [hh]
   exact ⟨hs, hh⟩
theorem first_again : ∀ {l : Sl}, WfS l → firstP K l = none → firstP K (listP K l) = none ∧ listP K (listP K l) = listP K l
 | .nil, _, _ => ⟨rfl, rfl⟩
 | .cons h t e r, ⟨H, ht, he, hr⟩, hf => by
  unfold firstP at hf
  cases hs : soundP K h with
  | false => rw [hs] at hf; simp at hf
  | true =>
   rw [hs] at hf
   simp only [if_true] at hf
   cases ht2 : firstP K t with
   | some a => rw [ht2] at hf; simp at hf
   | none =>
    rw [ht2] at hf
    simp only at hf
    cases he2 : firstP K e with
    | some a => rw [he2] at hf; simp at hf
    | none =>
     rw [he2] at hf
     simp only at hf
     obtain ⟨a1, a2⟩ := first_again ht ht2
     obtain ⟨b1, b2⟩ := first_again he he2
     obtain ⟨c1, c2⟩ := first_again hr hf
     obtain ⟨d1, d2⟩ := head_again H hs
     refine ⟨?_, ?_⟩
     ·unfold listP firstP
      rw [d1, a1, b1, c1]
      simp
     ·show Sl.cons (headL K (headL K h)) (listP K (listP K t)) (listP K (listP K e)) (listP K (listP K r)) = Sl.cons (headL K h) (listP K t) (listP K e) (listP K r)
      rw [d2, a2, b2, c2]
end
end Go.Proofs.Ytpndglghpojjkaa
/- Regions that leave their order open and whose operations call functions and make memory: ONE lexical walk over generic values serves every order. Each operation i has a relation V i between a world and a value, kept by whatever the other operations do (G); a relation C says what holds of the world when a set L of operations has been carried out. -/
namespace Go.Proofs.Ytpndglghpojjkaa
open Go.RowKit

/-- The operations that o waits for, by its own edges. -/
def depsOf (o : Oper) : List Nat := (o.after.toList.filter fun e => Region.binds .any e).map (·.on)

/-- What holds of the values that o waits for. -/
def DepF (ops : Array Oper) (V : Nat → World → Value → Prop) (tmps : Array Value) (w : World) : List Nat → Prop
 | [] => True
 | j :: r => (match (ops[j]?).bind (·.dst) with | some d => V j w (tmps.getD d undef) | none => True) ∧ DepF ops V tmps w r

/-- What an operation yields meets R; it neither panics nor is stuck. -/
def relUpon (P : Program) (R : Value → World → Prop) : Result Next → Prop
 | .ok (.value v) w' => R v w'
 | .ok .skip w' => R undef w'
 | .ok (.enter f args) w' => Calls P f args w' fun e w'' => ∃ v, e = .returned v ∧ R v w''
 | _ => False

def Step1 (P : Program) (ops : Array Oper) (V : Nat → World → Value → Prop) (C : (Nat → Bool) → World → Prop) (G : Nat → World → World → Prop) (i : Nat) (o : Oper) (a : Act) : Prop :=
 ∀ w L, C L w → L i = false → (∀ j ∈ depsOf o, L j = true) → (∀ j oj, ops[j]? = some oj → i ∈ depsOf oj → L j = false) → DepF ops V a.tmps w (depsOf o) →
  if Region.wanted o (yielded ops a.tmps) then relUpon P (fun v w' => C (fun k => k == i || L k) w' ∧ G i w w' ∧ V i w' v) ((execOp a.eval o).run P w)
  else V i w undef ∧ C (fun k => k == i || L k) w

/-- The shape of a region that the law takes; closed: by the kernel. -/
def lexOk (ops : Array Oper) : Bool :=
 (List.range ops.size).all fun i => match ops[i]? with
  | none => true
  | some o => (depsOf o).all (· < i) && (match o.op with | .select .. => false | _ => true) &&
   (List.range ops.size).all fun j => match ops[j]? with
    | none => true
    | some oj => match oj.dst with
     | none => true
     | some d => (i == j || o.dst != some d) && (!(o.looksAt ops).contains d || (depsOf o).contains j || (depsOf oj).contains i)

section
variable {P : Program} {ops : Array Oper} {V : Nat → World → Value → Prop} {C : (Nat → Bool) → World → Prop} {G : Nat → World → World → Prop} {Q : Act → World → Prop}

theorem lexOk_spec (h : lexOk ops = true) {i : Nat} {o : Oper} (hi : ops[i]? = some o) :
  (∀ j ∈ depsOf o, j < i) ∧ (∀ cs b, o.op ≠ .select cs b) ∧ ∀ j oj d, ops[j]? = some oj → oj.dst = some d → (i ≠ j → o.dst ≠ some d) ∧ (d ∈ o.looksAt ops → j ∈ depsOf o ∨ i ∈ depsOf oj) := by
 have hlt : i < ops.size := (Array.getElem?_eq_some_iff.1 hi).1
 have h1 := List.all_eq_true.1 h i (List.mem_range.2 hlt)
 simp only [hi, Bool.and_eq_true] at h1
 obtain ⟨⟨ha, hb⟩, hc⟩ := h1
 refine ⟨fun j hj => by simpa using List.all_eq_true.1 ha j hj, fun cs b e => by rw [e] at hb; simp at hb, fun j oj d hj hd => ?_⟩
 have hjl : j < ops.size := (Array.getElem?_eq_some_iff.1 hj).1
 have h2 := List.all_eq_true.1 hc j (List.mem_range.2 hjl)
 simp only [hj, hd, Bool.and_eq_true, Bool.or_eq_true, beq_iff_eq, bne_iff_ne, Bool.not_eq_true'] at h2
 refine ⟨fun hne => (h2.1.resolve_left hne), fun hm => ?_⟩
 rcases h2.2 with (h3 | h3) | h3
 ·rw [List.contains_iff_mem.2 hm] at h3
  cases h3
 ·exact .inl (List.contains_iff_mem.1 h3)
 ·exact .inr (List.contains_iff_mem.1 h3)

/-- The first operations' values laid into a frame. -/
def putN (ops : Array Oper) (x : Nat → Value) (a0 : Act) : Nat → Act
 | 0 => a0
 | n + 1 => (putN ops x a0 n).put ((ops[n]?).bind (·.dst)) (x n)

theorem put_size (a : Act) (d : Option Tmp) (v : Value) : (a.put d v).tmps.size = a.tmps.size := by cases d <;> simp [Act.put]
theorem put_defers (a : Act) (d : Option Tmp) (v : Value) : (a.put d v).defers = a.defers := by cases d <;> rfl
theorem putN_size (x : Nat → Value) (a0 : Act) (n : Nat) : (putN ops x a0 n).tmps.size = a0.tmps.size := by
 induction n with
 | zero => rfl
 | succ n ih => show ((putN ops x a0 n).put _ _).tmps.size = _; rw [put_size, ih]
theorem putN_defers (x : Nat → Value) (a0 : Act) (n : Nat) : (putN ops x a0 n).defers = a0.defers := by
 induction n with
 | zero => rfl
 | succ n ih => show ((putN ops x a0 n).put _ _).defers = _; rw [put_defers, ih]
theorem put_get (a : Act) (d : Tmp) (v : Value) (t : Tmp) : (a.put (some d) v).tmps.getD t undef = if t = d ∧ t < a.tmps.size then v else a.tmps.getD t undef := by
 simp only [Act.put, Array.getD_eq_getD_getElem?, Array.getElem?_setIfInBounds]
 by_cases h : d = t
 ·subst h
  by_cases h2 : d < a.tmps.size
  ·simp [h2]
  ·simp [h2]
 ·rw [if_neg h, if_neg (fun e => h e.1.symm)]
theorem putN_other (x : Nat → Value) (a0 : Act) (n : Nat) (t : Tmp) (h : ∀ j, j < n → (ops[j]?).bind (·.dst) ≠ some t) : (putN ops x a0 n).tmps.getD t undef = a0.tmps.getD t undef := by
 induction n with
 | zero => rfl
 | succ n ih =>
  show ((putN ops x a0 n).put _ _).tmps.getD t undef = _
  rw [← ih fun j hj => h j (by omega)]
  have hn := h n (by omega)
  cases hd : (ops[n]?).bind (·.dst) with
  | none => rfl
  | some d =>
   rw [put_get, if_neg]
   rintro ⟨rfl, _⟩
   exact hn hd
theorem putN_at (x : Nat → Value) (a0 : Act) (n : Nat) (t : Tmp) (j : Nat) (hj : j < n) (hd : (ops[j]?).bind (·.dst) = some t) (huniq : ∀ k, k < n → (ops[k]?).bind (·.dst) = some t → k = j) (ht : t < a0.tmps.size) :
  (putN ops x a0 n).tmps.getD t undef = x j := by
 induction n with
 | zero => omega
 | succ n ih =>
  show ((putN ops x a0 n).put _ _).tmps.getD t undef = _
  by_cases e : j = n
  ·subst e
   rw [hd, put_get, if_pos ⟨rfl, by rw [putN_size]; exact ht⟩]
  ·have := ih (by omega) (fun k hk hkd => huniq k (by omega) hkd)
   rw [← this]
   cases hd2 : (ops[n]?).bind (·.dst) with
   | none => rfl
   | some d =>
    rw [put_get, if_neg]
    rintro ⟨rfl, _⟩
    exact e (huniq n (by omega) hd2).symm

/-- Where the walk stands: which operations have come up, what their values are. -/
structure Lex (ops : Array Oper) (V : Nat → World → Value → Prop) (C : (Nat → Bool) → World → Prop) (a0 : Act) (listed : Array Bool) (a : Act) (w : World) : Prop where
 cls : C (fun k => listed.getD k true) w
 lsize : listed.size = ops.size
 size : a.tmps.size = a0.tmps.size
 defers : a.defers = a0.defers
 closed : ∀ (i : Nat) o, ops[i]? = some o → listed.getD i true = true → ∀ j ∈ depsOf o, listed.getD j true = true
 done : ∀ (i : Nat) o, ops[i]? = some o → listed.getD i true = true → ∀ d, o.dst = some d → V i w (a.tmps.getD d undef)
 rest : ∀ t, (∀ (i : Nat) o, ops[i]? = some o → listed.getD i true = true → o.dst ≠ some t) → a.tmps.getD t undef = a0.tmps.getD t undef

theorem getD_out {x : Array Value} {t : Nat} (h : x.size ≤ t) : x.getD t undef = undef := by
 rw [Array.getD_eq_getD_getElem?, Array.getElem?_eq_none h]
 rfl
/-- The values that a frame holds for the operations. -/
def valsOf (ops : Array Oper) (a : Act) (k : Nat) : Value := match (ops[k]?).bind (·.dst) with | some d => a.tmps.getD d undef | none => undef

theorem putN_self {a a0 : Act} (hs : a.tmps.size = a0.tmps.size) (n : Nat) (t : Tmp) (h : ∃ j, j < n ∧ (ops[j]?).bind (·.dst) = some t) : (putN ops (valsOf ops a) a0 n).tmps.getD t undef = a.tmps.getD t undef := by
 induction n with
 | zero => obtain ⟨j, hj, _⟩ := h; omega
 | succ n ih =>
  show ((putN ops _ a0 n).put _ (valsOf ops a n)).tmps.getD t undef = _
  by_cases e : (ops[n]?).bind (·.dst) = some t
  ·have hv : valsOf ops a n = a.tmps.getD t undef := by unfold valsOf; rw [e]
   rw [e, put_get, hv, putN_size]
   by_cases ht : t < a0.tmps.size
   ·rw [if_pos ⟨rfl, ht⟩]
   ·rw [if_neg (fun h => ht h.2), getD_out (x := (putN ops (valsOf ops a) a0 n).tmps) (t := t) (by rw [putN_size]; exact Nat.le_of_not_lt ht), getD_out (x := a.tmps) (t := t) (by rw [hs]; exact Nat.le_of_not_lt ht)]
  ·have h' : ∃ j, j < n ∧ (ops[j]?).bind (·.dst) = some t := by
    obtain ⟨j, hj, hd⟩ := h
    refine ⟨j, ?_, hd⟩
    rcases Nat.lt_or_ge j n with hl | hl
    ·exact hl
    ·obtain rfl : j = n := by omega
     exact absurd hd e
   rw [← ih h']
   cases hd : (ops[n]?).bind (·.dst) with
   | none => rfl
   | some d =>
    rw [put_get, if_neg]
    rintro ⟨rfl, _⟩
    exact e hd

theorem get_of_getD {x y : Array Value} (hs : x.size = y.size) {t : Nat} (h : x.getD t undef = y.getD t undef) : x[t]? = y[t]? := by
 rw [Array.getD_eq_getD_getElem?, Array.getD_eq_getD_getElem?] at h
 by_cases ht : t < x.size
 ·rw [Array.getElem?_eq_getElem ht, Array.getElem?_eq_getElem (by omega)] at h ⊢
  simpa using h
 ·rw [Array.getElem?_eq_none (by omega), Array.getElem?_eq_none (by omega)]

theorem wanted_of {o : Oper} {a b : Act} (hs : a.tmps.size = b.tmps.size) (h : ∀ t ∈ o.looksAt ops, a.tmps.getD t undef = b.tmps.getD t undef) :
  Region.wanted o (yielded ops a.tmps) = Region.wanted o (yielded ops b.tmps) := by
 unfold Region.wanted
 cases hg : o.guard with
 | none => rfl
 | some g =>
  obtain ⟨j, want⟩ := g
  simp only
  congr 1
  unfold yielded
  cases hd : (ops[j]?).bind (·.dst) with
  | none => rfl
  | some d =>
   simp only [Option.bind_some]
   rw [get_of_getD hs (h d ?_)]
   unfold Oper.looksAt
   simp only [hg]
   refine List.mem_append_right _ ?_
   first
    | (rw [hd]; simp; done)
    | (simp [hd]; done)
    | simp_all

/-- How many operations have not come up. -/
def unlisted (n : Nat) (listed : Array Bool) : Nat := ((List.range n).filter fun i => !listed.getD i true).length

theorem unlisted_set {n : Nat} {listed : Array Bool} (hs : listed.size = n) {i : Nat} (hi : i < n) (hu : listed.getD i true = false) : unlisted n (listed.setIfInBounds i true) + 1 = unlisted n listed := by
 have key : ∀ l : List Nat, l.Nodup → (∀ k ∈ l, k < n) → ((l.filter fun k => !(listed.setIfInBounds i true).getD k true).length + (if i ∈ l then 1 else 0) = (l.filter fun k => !listed.getD k true).length) := by
  intro l
  induction l with
  | nil => simp
  | cons k l ih =>
   intro hn hl
   rw [List.nodup_cons] at hn
   have := ih hn.2 fun j hj => hl j (List.mem_cons_of_mem _ hj)
   have hg : (listed.setIfInBounds i true).getD k true = if k = i then true else listed.getD k true := by
    simp only [Array.getD_eq_getD_getElem?, Array.getElem?_setIfInBounds]
    by_cases e : i = k
    ·subst e; simp [hs, hi]
    ·rw [if_neg e, if_neg (fun h => e h.symm)]
   rw [List.filter_cons, List.filter_cons, hg]
   by_cases e : k = i
   ·subst e
    simp only [if_true, Bool.not_true, Bool.false_eq_true, if_false, hu, Bool.not_false, List.length_cons, List.mem_cons, true_or]
    rw [if_neg hn.1] at this
    omega
   ·rw [if_neg e]
    have hm : (i ∈ k :: l) ↔ i ∈ l := by simp [Ne.symm e]
    by_cases hk : listed.getD k true = true
    ·simp only [hk, Bool.not_true, Bool.false_eq_true, if_false, hm]
     exact this
    ·simp only [hk, Bool.not_false, if_true, List.length_cons, hm]
     omega
 have := key (List.range n) List.nodup_range (fun k hk => List.mem_range.1 hk)
 rw [if_pos (List.mem_range.2 hi)] at this
 exact this

/-- Is each operation's slot one of the frame's? -/
def dstIn (ops : Array Oper) (n : Nat) : Bool := ops.toList.all fun o => match o.dst with | some d => decide (d < n) | none => true

theorem DepF.get {tmps : Array Value} {w : World} {l : List Nat} (h : DepF ops V tmps w l) {j : Nat} (hj : l.contains j = true) {d : Tmp} (hd : (ops[j]?).bind (·.dst) = some d) : V j w (tmps.getD d undef) := by
 induction l with
 | nil => cases hj
 | cons k l ih =>
  by_cases e : j = k
  ·subst e
   have := h.1
   rw [hd] at this
   exact this
  ·refine ih h.2 ?_
   rw [List.contains_cons] at hj
   simpa [e] using hj
theorem relUpon_value {A B : World → Prop} {D : World → Value → Prop} {r : Result Next} {v : Value} {w' : World} (hr : r = .ok (.value v) w') (h1 : A w') (h2 : B w') (h3 : D w' v) :
  relUpon P (fun v w' => A w' ∧ B w' ∧ D w' v) r := by
 subst hr
 exact ⟨h1, h2, h3⟩
theorem relUpon_skip {A B : World → Prop} {D : World → Value → Prop} {r : Result Next} {w' : World} (hr : r = .ok .skip w') (h1 : A w') (h2 : B w') (h3 : D w' undef) :
  relUpon P (fun v w' => A w' ∧ B w' ∧ D w' v) r := by
 subst hr
 exact ⟨h1, h2, h3⟩
theorem relUpon_call {A B : World → Prop} {D : World → Value → Prop} {r : Result Next} {f : FuncId} {args : Array Value} {w : World} {R : Ending → World → Prop} (hr : r = .ok (.enter f args) w) (hc : Calls P f args w R)
  (h : ∀ e w', R e w' → ∃ v, e = .returned v ∧ A w' ∧ B w' ∧ D w' v) : relUpon P (fun v w' => A w' ∧ B w' ∧ D w' v) r := by
 subst hr
 exact hc.mono h

/-! ### The law by a table: each operation alone, its operands' values behind a function -/

/-- What is told of an operation: the slots that it reads, each with the operation that writes it (none: what the frame held before); its guard's slot; operations that wait for it. -/
structure Reads where
 reads : List (Tmp × Option Nat)
 guard : Tmp := 0
 next : List Nat := []

/-- Operands read by a function on slots. -/
def evalOf (f : Tmp → Value) : Operand → Value
 | .tmp t => f t
 | .const v => v
 | .global g => .pointer (some ⟨g, 0, none⟩)
 | .func g => .func (.func g) #[] #[]

def Facts (V : Nat → World → Value → Prop) (a0 : Act) (w : World) (f : Tmp → Value) : List (Tmp × Option Nat) → Prop
 | [] => True
 | (t, some j) :: r => V j w (f t) ∧ Facts V a0 w f r
 | (t, none) :: r => f t = a0.tmps.getD t undef ∧ Facts V a0 w f r

def wantedBy (o : Oper) (v : Value) : Bool :=
 match o.guard with
 | none => true
 | some (_, want) => (match v with | .bool b => some b | _ => none) == some want

def Step2 (P : Program) (V : Nat → World → Value → Prop) (C : (Nat → Bool) → World → Prop) (G : Nat → World → World → Prop) (a0 : Act) (i : Nat) (o : Oper) (r : Reads) : Prop :=
 ∀ w L (f : Tmp → Value), C L w → L i = false → (∀ j ∈ depsOf o, L j = true) → (∀ j ∈ r.next, L j = false) → Facts V a0 w f r.reads →
  if wantedBy o (f r.guard) = true then relUpon P (fun v w' => C (fun k => k == i || L k) w' ∧ G i w w' ∧ V i w' v) ((execOp (evalOf f) o).run P w)
  else V i w undef ∧ C (fun k => k == i || L k) w

def StepAll (P : Program) (V : Nat → World → Value → Prop) (C : (Nat → Bool) → World → Prop) (G : Nat → World → World → Prop) (a0 : Act) : Nat → List Oper → List Reads → Prop
 | _, [], _ => True
 | i, o :: l, rs => Step2 P V C G a0 i o (rs.headD ⟨[], 0, []⟩) ∧ StepAll P V C G a0 (i + 1) l rs.tail

/-- The table fits the region; closed: by the kernel. -/
def tabOk (ops : Array Oper) (R : List Reads) : Bool :=
 (List.range ops.size).all fun i => match ops[i]? with
  | none => true
  | some o =>
   ((R.drop i).headD ⟨[], 0, []⟩).reads.all (fun p => match p.2 with
    | some j => (match ops[j]? with | some oj => oj.dst == some p.1 | none => false) && (depsOf o).contains j
    | none => (List.range ops.size).all fun j => match ops[j]? with | some oj => oj.dst != some p.1 || (depsOf oj).contains i | none => true) &&
   (match o.guard with
    | none => true
    | some (j, _) => match ops[j]? with | some oj => oj.dst == some ((R.drop i).headD ⟨[], 0, []⟩).guard | none => false) &&
   ((R.drop i).headD ⟨[], 0, []⟩).next.all (fun j => match ops[j]? with | some oj => (depsOf oj).contains i | none => false)

theorem StepAll.get {a0 : Act} (l : List Oper) : ∀ (R : List Reads) (i k : Nat) (o : Oper), StepAll P V C G a0 i l R → l[k]? = some o → Step2 P V C G a0 (i + k) o ((R.drop k).headD ⟨[], 0, []⟩) := by
 induction l with
 | nil => intro R i k o _ hk; simp at hk
 | cons o' l ih =>
  intro R i k o h hk
  cases k with
  | zero =>
   simp at hk
   subst hk
   exact h.1
  | succ k =>
   have h2 := ih R.tail (i + 1) k o h.2 (by simpa using hk)
   rw [List.drop_tail, Nat.add_assoc, Nat.add_comm 1 k] at h2
   exact h2

theorem evalOf_tmps (a : Act) : evalOf (fun t => a.tmps.getD t undef) = a.eval := by
 funext x
 cases x <;> rfl

theorem Facts.of {a0 a : Act} {w : World} {o : Oper} {i : Nat} (hD : DepF ops V a.tmps w (depsOf o)) (ha : ∀ t : Tmp, (∀ (j : Nat) (oj : Oper), ops[j]? = some oj → oj.dst = some t → i ∈ depsOf oj) → a.tmps.getD t undef = a0.tmps.getD t undef) :
  ∀ l : List (Tmp × Option Nat), (l.all fun p => match p.2 with
    | some j => (match ops[j]? with | some oj => oj.dst == some p.1 | none => false) && (depsOf o).contains j
    | none => (List.range ops.size).all fun j => match ops[j]? with | some oj => oj.dst != some p.1 || (depsOf oj).contains i | none => true) = true → Facts V a0 w (fun t => a.tmps.getD t undef) l := by
 intro l
 induction l with
 | nil => intro _; trivial
 | cons p l ih =>
  intro h
  rw [List.all_cons, Bool.and_eq_true] at h
  obtain ⟨t, s⟩ := p
  cases s with
  | some j =>
   simp only [Bool.and_eq_true] at h
   refine ⟨?_, ih h.2⟩
   cases hj : ops[j]? with
   | none => rw [hj] at h; exact absurd h.1.1 (by simp)
   | some oj =>
    rw [hj] at h
    exact hD.get h.1.2 (by rw [hj]; simpa using h.1.1)
  | none =>
   refine ⟨ha t fun j oj hj hd => ?_, ih h.2⟩
   have h3 := List.all_eq_true.1 h.1 j (List.mem_range.2 (Array.getElem?_eq_some_iff.1 hj).1)
   simp only [hj, hd, bne_self_eq_false, Bool.false_or] at h3
   exact List.contains_iff_mem.1 h3

theorem Step1.of {a0 : Act} {R : List Reads} (hok : lexOk ops = true) (htab : tabOk ops R = true) (hall : StepAll P V C G a0 0 ops.toList R) (x : Nat → Value) (i : Nat) (o : Oper) (hi : ops[i]? = some o) :
  Step1 P ops V C G i o (putN ops x a0 i) := by
 intro w L hC hL hd hn hD
 have hilt := (Array.getElem?_eq_some_iff.1 hi).1
 have ht := List.all_eq_true.1 htab i (List.mem_range.2 hilt)
 simp only [hi, Bool.and_eq_true] at ht
 have h2 := StepAll.get ops.toList R 0 i o hall (by simpa using hi)
 rw [Nat.zero_add] at h2
 generalize (R.drop i).headD ⟨[], 0, []⟩ = r at ht h2
 have hnx : ∀ j ∈ r.next, L j = false := fun j hj => by
  have := List.all_eq_true.1 ht.2 j hj
  cases hoj : ops[j]? with
  | none => rw [hoj] at this; exact absurd this (by simp)
  | some oj => rw [hoj] at this; exact hn j oj hoj (List.contains_iff_mem.1 this)
 have hf := Facts.of (a0 := a0) (a := putN ops x a0 i) hD (fun t h => putN_other x a0 i t fun j hj hjd => by
  cases hoj : ops[j]? with
  | none => rw [hoj] at hjd; cases hjd
  | some oj =>
   rw [hoj] at hjd
   have := (lexOk_spec hok hoj).1 i (h j oj hoj hjd)
   omega) r.reads ht.1.1
 have h3 := h2 w L (fun t => (putN ops x a0 i).tmps.getD t undef) hC hL hd hnx hf
 rw [evalOf_tmps] at h3
 have hw : Region.wanted o (yielded ops (putN ops x a0 i).tmps) = wantedBy o ((putN ops x a0 i).tmps.getD r.guard undef) := by
  unfold Region.wanted wantedBy
  cases hg : o.guard with
  | none => rfl
  | some g =>
   obtain ⟨j, want⟩ := g
   have h4 := ht.1.2
   rw [hg] at h4
   simp only at h4 ⊢
   cases hoj : ops[j]? with
   | none => rw [hoj] at h4; exact absurd h4 (by simp)
   | some oj =>
    rw [hoj] at h4
    have hdst : oj.dst = some r.guard := by simpa using h4
    unfold yielded
    simp only [hoj, Option.bind_some, hdst]
    rw [Array.getD_eq_getD_getElem?]
    cases (putN ops x a0 i).tmps[r.guard]? with
    | none => rfl
    | some v => cases v <;> rfl
 rw [hw]
 exact h3

/-- Where the frame's slots come from behind the region: an operation, or the frame before. -/
def framed (x : Nat → Value) : List (Option Nat) → List Value → List Value
 | d :: ds, v :: vs => (match d with | some j => x j | none => v) :: framed x ds vs
 | _, vs => vs
theorem framed_length (x : Nat → Value) : ∀ (ds : List (Option Nat)) (vs : List Value), (framed x ds vs).length = vs.length
 | [], vs => by cases vs <;> rfl
 | d :: ds, [] => rfl
 | d :: ds, v :: vs => by simp [framed, framed_length x ds vs]
theorem framed_get (x : Nat → Value) : ∀ (ds : List (Option Nat)) (vs : List Value) (t : Nat), t < vs.length → (framed x ds vs).getD t undef = match ds.getD t none with | some j => x j | none => vs.getD t undef
 | [], vs, t, _ => by cases vs <;> rfl
 | d :: ds, [], t, h => by simp at h
 | d :: ds, v :: vs, 0, _ => by cases d <;> rfl
 | d :: ds, v :: vs, t + 1, h => by
  have := framed_get x ds vs t (by simpa using h)
  simpa [framed] using this
/-- closed: by the kernel -/
def framedOk (ops : Array Oper) (D : List (Option Nat)) (n : Nat) : Bool :=
 (List.range n).all fun t => match D.getD t none with
  | some j => match ops[j]? with | some oj => oj.dst == some t | none => false
  | none => (List.range ops.size).all fun j => match ops[j]? with | some oj => oj.dst != some t | none => true

theorem putN_framed {a0 : Act} {D : List (Option Nat)} (hok : lexOk ops = true) (hf : framedOk ops D a0.tmps.size = true) (x : Nat → Value) : putN ops x a0 ops.size = ⟨(framed x D a0.tmps.toList).toArray, a0.defers⟩ := by
 have hd := putN_defers (ops := ops) x a0 ops.size
 have ht : (putN ops x a0 ops.size).tmps = (framed x D a0.tmps.toList).toArray := by
  apply Array.ext_getElem?
  intro t
  have hsz : (putN ops x a0 ops.size).tmps.size = (framed x D a0.tmps.toList).toArray.size := by rw [putN_size]; simp [framed_length]
  apply get_of_getD hsz
  by_cases hlt : t < a0.tmps.size
  ·have h1 := List.all_eq_true.1 hf t (List.mem_range.2 hlt)
   have h2 := framed_get x D a0.tmps.toList t (by simpa using hlt)
   have h3 : (framed x D a0.tmps.toList).toArray.getD t undef = (framed x D a0.tmps.toList).getD t undef := by simp [Array.getD_eq_getD_getElem?]
   rw [h3, h2]
   cases hD : D.getD t none with
   | some j =>
    rw [hD] at h1
    simp only at h1
    cases hoj : ops[j]? with
    | none => rw [hoj] at h1; exact absurd h1 (by simp)
    | some oj =>
     rw [hoj] at h1
     have hdst : oj.dst = some t := by simpa using h1
     have hjl := (Array.getElem?_eq_some_iff.1 hoj).1
     refine putN_at x a0 ops.size t j hjl (by rw [hoj]; exact hdst) (fun k hk hkd => ?_) hlt
     cases hok2 : ops[k]? with
     | none => rw [hok2] at hkd; cases hkd
     | some ok =>
      rw [hok2] at hkd
      by_cases e : j = k
      ·exact e.symm
      ·exact absurd hdst (((lexOk_spec hok hoj).2.2 k ok t hok2 hkd).1 e)
   | none =>
    rw [hD] at h1
    rw [putN_other]
    ·simp [Array.getD_eq_getD_getElem?]
    ·intro j hj hjd
     cases hoj : ops[j]? with
     | none => rw [hoj] at hjd; cases hjd
     | some oj =>
      rw [hoj] at hjd
      have h4 := List.all_eq_true.1 h1 j (List.mem_range.2 hj)
      rw [hoj] at h4
      simp only [bne_iff_ne] at h4
      exact h4 hjd
  ·rw [getD_out (x := (putN ops x a0 ops.size).tmps) (t := t) (by rw [putN_size]; omega), getD_out (x := (framed x D a0.tmps.toList).toArray) (t := t) (by simp [framed_length]; omega)]
 cases h1 : putN ops x a0 ops.size
 rw [h1] at hd ht
 simp only at hd ht
 rw [hd, ht]

/-- Each relation of the list is kept by what the other operations do, but those that it waits for. -/
def AllKept (G : Nat → World → World → Prop) : Nat → List (World → Value → Prop) → List Reads → Prop
 | _, [], _ => True
 | j, f :: r, rs => (∀ i, i ≠ j → ((rs.headD ⟨[], 0, []⟩).reads.all fun p => p.2 != some i) = true → ∀ w w' v, G i w w' → f w v → f w' v) ∧ AllKept G (j + 1) r rs.tail
theorem AllKept.get : ∀ (l : List (World → Value → Prop)) (R : List Reads) (n : Nat), AllKept G n l R → ∀ i j, i ≠ n + j → (((R.drop j).headD ⟨[], 0, []⟩).reads.all fun p => p.2 != some i) = true → ∀ w w' v, G i w w' → (l.getD j fun _ _ => True) w v → (l.getD j fun _ _ => True) w' v
 | [], _, _, _, _, _, _, _ => by intro w w' v _ _; exact trivial
 | f :: r, R, n, h, i, 0, hne, hr => h.1 i hne hr
 | f :: r, R, n, h, i, j + 1, hne, hr => AllKept.get r R.tail (n + 1) h.2 i j (by omega) (by rw [List.drop_tail]; exact hr)
theorem Step2.live {b : Bool} {X Y : Prop} (hb : b = true) (h : X) : if b = true then X else Y := by rw [if_pos hb]; exact h
theorem Step2.dead {b : Bool} {X A B : Prop} (hb : b = false) (h1 : B) (h2 : A) : if b = true then X else A ∧ B := by subst hb; exact ⟨h2, h1⟩
end

end Go.Proofs.Ytpndglghpojjkaa
/- Rows that the call itself owns: kept by what others do; append onto them, in a plain region and in one that draws its order. No program in sight. -/
namespace Go.Proofs.Ytpndglghpojjkaa
open Go.RowKit

theorem grown_of_below {w w' : World} (h : Below w.heap.size w w') (row : Option Nat) : w.grownBy w' row := ⟨h.os, h.tape, h.output, h.size, fun k hk _ => h.block k hk⟩
theorem own_below {w w' : World} {base : Nat} {e : TypeId} {size : Nat} {v : Value} {n : Nat} {xs : List Value} (h : w.ownsRow base e size v n xs) (hb : Below w.heap.size w w') : w'.ownsRow base e size v n xs := by
 refine h.kept (grown_of_below hb none) ?_
 cases v.ownBlock
 ·exact .inl rfl
 ·exact .inr (by simp)
/-- A row of one element type is kept by what is written to a row of another. -/
theorem own_other {w w' : World} {base base' : Nat} {e e' : TypeId} {size size' : Nat} {v v' : Value} {n n' : Nat} {xs xs' : List Value} (h : w.ownsRow base e size v n xs) (h' : w.ownsRow base' e' size' v' n' xs') (hne : e ≠ e')
  (hg : w.grownBy w' v'.ownBlock) : w'.ownsRow base e size v n xs := by
 refine h.kept hg ?_
 rcases h.2 with ⟨rfl, _⟩ | ⟨g, cap, cur, rfl, _, hh, _⟩
 ·exact .inl rfl
 ·right
  rcases h'.2 with ⟨rfl, _⟩ | ⟨g', cap', cur', rfl, _, hh', _⟩
  ·simp [Value.ownBlock]
  ·intro he
   have : g = g' := by simpa [Value.ownBlock] using he
   subst this
   rw [hh] at hh'
   injection hh' with h1
   injection h1 with _ h2
   exact hne h2
theorem own_base {w : World} {base base' : Nat} {e : TypeId} {size : Nat} {v : Value} {n : Nat} {xs : List Value} (h : w.ownsRow base e size v n xs) (hB : base' ≤ base) : w.ownsRow base' e size v n xs := by
 refine ⟨h.1, ?_⟩
 rcases h.2 with h2 | ⟨g, cap, cur, h3, h4, h5⟩
 ·exact .inl h2
 ·exact .inr ⟨g, cap, cur, h3, by omega, h5⟩

section
variable {P : Program} (w : World)

theorem run_append_empty (base : Nat) (t ty e : TypeId) (i : TypeInfo) (size : Nat) (ht : P.underlying t = some (.slice e)) (hi : P.info? e = some i)
  (v : Value) (n : Nat) (xs : List Value) (hown : w.ownsRow base e size v n xs) (c : Nat) : (Builtin.append_ #[t, t] ty #[v, .slice none 0 c]).run P w = .ok v w := by
 rcases hown.2 with ⟨rfl, _⟩ | ⟨g, cap, cur, rfl, _, _, hnc, _⟩
 ·simp [Builtin.append_, run_underlying ht, sizeOf, typeInfo, hi, Builtin.lenOf, Builtin.firstCells]
 ·simp [Builtin.append_, run_underlying ht, sizeOf, typeInfo, hi, Builtin.lenOf, Builtin.firstCells, hnc, storeCells]

end

/-- A block's row of one cell, just made. -/
theorem Row.one (w : World) (t : TypeId) (x : Value) : Row (w.alloc (.cells #[x] t)) (w.alloc (.cells #[x] t)).heap.size (some ⟨w.heap.size, 0, none⟩) [x] := Row.fresh w t [x]

/-- Every owned row of element type e stays owned. -/
def Keeps (B : Nat) (e : TypeId) (w w' : World) : Prop := ∀ v n xs, w.ownsRow B e 1 v n xs → w'.ownsRow B e 1 v n xs
theorem Keeps.refl (B : Nat) (e : TypeId) (w : World) : Keeps B e w w := fun _ _ _ h => h
theorem Keeps.below {B : Nat} {e : TypeId} {w w' : World} (hb : Below w.heap.size w w') : Keeps B e w w' := fun _ _ _ h => own_below h hb
theorem Keeps.other {B B' : Nat} {e e' : TypeId} {w w' : World} {v : Value} {n : Nat} {xs : List Value} (h : w.ownsRow B' e' 1 v n xs) (hne : e ≠ e') (hg : w.grownBy w' v.ownBlock) : Keeps B e w w' := fun _ _ _ h' => own_other h' h hne hg
/-- No block but these two has turned. -/
def Apart2 (b c : Option Nat) (w w' : World) : Prop := ∀ k, k < w.heap.size → some k ≠ b → some k ≠ c → w'.heap[k]? = w.heap[k]?
theorem Apart2.refl (b c : Option Nat) (w : World) : Apart2 b c w w := fun _ _ _ _ => rfl
theorem Apart2.below {b c : Option Nat} {w w' : World} (hb : Below w.heap.size w w') : Apart2 b c w w' := fun k hk _ _ => hb.block k hk
theorem Apart2.left {b c : Option Nat} {w w' : World} (hg : w.grownBy w' b) : Apart2 b c w w' := fun k hk h _ => hg.block k hk h
theorem Apart2.right {b c : Option Nat} {w w' : World} (hg : w.grownBy w' c) : Apart2 b c w w' := fun k hk _ h => hg.block k hk h
end Go.Proofs.Ytpndglghpojjkaa
/- What a call may write: a list of blocks. Rows that lie apart from them are kept. No program in sight. -/
namespace Go.Proofs.Ytpndglghpojjkaa
open Go.RowKit

/-- Of the blocks that were there only those of M may have turned. -/
structure Writes (M : List (Option Nat)) (w w' : World) : Prop where
 os : w'.os = w.os
 tape : w'.tape = w.tape
 output : w'.output = w.output
 size : w.heap.size ≤ w'.heap.size
 block : ∀ k, k < w.heap.size → some k ∉ M → w'.heap[k]? = w.heap[k]?

section
variable {M M' : List (Option Nat)} {w w' w'' : World}
theorem Writes.refl (M : List (Option Nat)) (w : World) : Writes M w w := ⟨rfl, rfl, rfl, Nat.le_refl _, fun _ _ _ => rfl⟩
theorem Writes.of_below (h : Below w.heap.size w w') (M : List (Option Nat)) : Writes M w w' := ⟨h.os, h.tape, h.output, h.size, fun k hk _ => h.block k hk⟩
theorem Writes.of_grown {r : Option Nat} (h : w.grownBy w' r) (hr : r ∈ M) : Writes M w w' := ⟨h.os, h.tape, h.output, h.size, fun k hk hn => h.block k hk (fun e => hn (by rw [e]; exact hr))⟩
theorem Writes.store (w : World) {p : Addr} (hp : some p.block ∈ M) (u : Value) : Writes M w (w.setCell p u) :=
 ⟨rfl, rfl, rfl, by simp [World.setCell], fun k _ hn => Below.heap_setCell w p u k (fun e => hn (by rw [e]; exact hp))⟩
theorem Writes.alloc (M : List (Option Nat)) (w : World) (o : Obj) : Writes M w (w.alloc o) := .of_below (below_new w o) M
/-- One behind the other: the second may besides write what the first has made. -/
theorem Writes.then_ (h : Writes M w w') (h' : Writes M' w' w'') (hM : ∀ k, k < w.heap.size → some k ∈ M' → some k ∈ M) : Writes M w w'' :=
 ⟨h'.os.trans h.os, h'.tape.trans h.tape, h'.output.trans h.output, Nat.le_trans h.size h'.size, fun k hk hn =>
  (h'.block k (Nat.lt_of_lt_of_le hk h.size) (fun e => hn (hM k hk e))).trans (h.block k hk hn)⟩
theorem Writes.trans (h : Writes M w w') (h' : Writes M w' w'') : Writes M w w'' := h.then_ h' fun _ _ e => e
theorem Writes.more (h : Writes M w w') (hM : ∀ b ∈ M, b ∈ M') : Writes M' w w' := ⟨h.os, h.tape, h.output, h.size, fun k hk hn => h.block k hk (fun e => hn (hM _ e))⟩
theorem Writes.below {B : Nat} (h : Writes M w w') (hB : B ≤ w.heap.size) (hM : ∀ k, some k ∈ M → B ≤ k) : Below B w w' :=
 ⟨h.os, h.tape, h.output, h.size, fun k hk => h.block k (by omega) (fun e => by have := hM k e; omega)⟩
theorem Writes.heap (h : Writes M w w') {g : Nat} {o : Obj} (hg : w.heap[g]? = some o) (hn : some g ∉ M) : w'.heap[g]? = some o :=
 (h.block g (Array.getElem?_eq_some_iff.1 hg).1 hn).trans hg
theorem Writes.holds (h : Writes M w w') {g : Nat} {t : TypeId} {cs : Array Value} (hg : Holds w g t cs) (hn : some g ∉ M) : Holds w' g t cs := h.heap hg hn
theorem Writes.own (h : Writes M w w') {B : Nat} {e : TypeId} {v : Value} {n : Nat} {xs : List Value} {size : Nat} (ho : w.ownsRow B e size v n xs) (hn : v.ownBlock = none ∨ v.ownBlock ∉ M) : w'.ownsRow B e size v n xs := by
 refine ⟨ho.1, ?_⟩
 rcases ho.2 with h1 | ⟨g, cap, cur, rfl, hb, hg, r⟩
 ·exact .inl h1
 ·refine .inr ⟨g, cap, cur, rfl, hb, h.heap hg ?_, r⟩
  rcases hn with hn | hn
  ·simp [Value.ownBlock] at hn
  ·exact hn
/-- The block that an address lies in. -/
def blk (A : Option Addr) : Option Nat := A.map (·.block)
theorem Writes.row (h : Writes M w w') {B : Nat} {A : Option Addr} {vs : List Value} (hr : Row w B A vs) (hB : B ≤ w.heap.size) (hn : vs ≠ [] → blk A ∉ M) : Row w' B A vs := fun hne => by
 obtain ⟨b, off, rfl, hb, hc⟩ := hr hne
 refine ⟨b, off, rfl, hb, fun j u hu => ?_⟩
 have := h.block b (by omega) (hn hne)
 rw [← hc j u hu]
 exact World.cell?_of_block this
end

end Go.Proofs.Ytpndglghpojjkaa
/- The parser of the document's texts in memory: where it lies, trees, and the walks of its small functions. -/
namespace Go.Proofs.Ytpndglghpojjkaa
open Go.RowKit Go.Deep

def Tok.cells (t : Tok) : List Value := [.int .i64 t.k, .string (strV t.t), .int .i64 t.at_]
/-- Where a parser lies. -/
structure PL where
 g : Nat
 A : Option Addr
 c : Nat
/-- What is known of a parser's tokens. -/
structure PC.Fit (C : PC) : Prop where
 len : C.tk.length ≤ 4096
 end_ : C.end_ ≤ 4096
 at_ : ∀ t ∈ C.tk, t.at_ ≤ 4096
 txt : ∀ t ∈ C.tk, t.t.length ≤ 4096 ∧ t.k ≤ 2
/-- What is known of where it stands. -/
structure PS.Ok (C : PC) (s : PS) : Prop where
 i : s.i ≤ C.tk.length
 n : s.n ≤ 1000
 at_ : s.at_ ≤ 4096
 e : s.e ≤ 100
 deep : s.deep ≤ 40
def PS.cells (C : PC) (L : PL) (s : PS) : Array Value := #[.slice L.A C.tk.length L.c, .int .i64 s.i, .int .i64 C.end_, .int .i64 s.e, .int .i64 s.at_, .int .i64 s.deep, .int .i64 s.n]
/-- The parser stands at s in w. -/
structure PAt (C : PC) (L : PL) (s : PS) (w : World) : Prop where
 fit : C.Fit
 ok : s.Ok C
 hold : Holds w L.g 51 (s.cells C L)
 row : Row w L.g L.A (C.tk.flatMap Tok.cells)
def PL.v (L : PL) : Value := .pointer (some ⟨L.g, 0, none⟩)
section
variable {C : PC} {L : PL} {s s2 : PS} {w w' : World}
theorem PAt.lt (h : PAt C L s w) : L.g < w.heap.size := h.hold.lt
theorem PAt.below {B : Nat} (h : PAt C L s w) (hb : Below B w w') (hB : L.g < B) : PAt C L s w' :=
 ⟨h.fit, h.ok, h.hold.below hb hB, h.row.keep fun p hp => hb.cell (by omega)⟩
theorem PAt.up (h : PAt C L s w) (hb : Below w.heap.size w w') : PAt C L s w' := h.below hb h.lt
theorem PAt.writes {M : List (Option Nat)} (h : PAt C L s w) (hW : Writes M w w') (hM : ∀ k, some k ∈ M → L.g < k) : PAt C L s w' :=
 ⟨h.fit, h.ok, hW.holds h.hold fun e => by have := hM _ e; omega, hW.row h.row (Nat.le_of_lt h.lt) fun hn e => by
  obtain ⟨b, off, hA, hb, _⟩ := h.row hn
  rw [hA] at e
  have := hM b e
  omega⟩
/-- A cell of the parser is turned. -/
theorem PAt.store (h : PAt C L s w) (i : Nat) (v : Value) (hc : (s.cells C L).setIfInBounds i v = s2.cells C L) (ho : s2.Ok C) : PAt C L s2 (w.setCell ⟨L.g, i, none⟩ v) ∧ Writes [some L.g] w (w.setCell ⟨L.g, i, none⟩ v) := by
 refine ⟨⟨h.fit, ho, ?_, h.row.keep fun p hp => ?_⟩, Writes.store w (by simp) v⟩
 ·rw [← hc]
  exact h.hold.store i v
 ·exact World.cell?_of_block (Below.heap_setCell w ⟨L.g, i, none⟩ v p.block (by simp only; omega))
theorem PAt.facts (h : PAt C L s w) : L.g < w.heap.size ∧ w.cell? ⟨L.g, 0, none⟩ = some (.slice L.A C.tk.length L.c) ∧ w.cell? ⟨L.g, 1, none⟩ = some (.int .i64 s.i) ∧ w.cell? ⟨L.g, 2, none⟩ = some (.int .i64 C.end_) ∧ w.cell? ⟨L.g, 3, none⟩ = some (.int .i64 s.e) ∧
  w.cell? ⟨L.g, 4, none⟩ = some (.int .i64 s.at_) ∧ w.cell? ⟨L.g, 5, none⟩ = some (.int .i64 s.deep) ∧ w.cell? ⟨L.g, 6, none⟩ = some (.int .i64 s.n) ∧ (∀ i, w.frozen? ⟨L.g, i, none⟩ = false) :=
 ⟨h.lt, by rw [h.hold.cell]; rfl, by rw [h.hold.cell]; rfl, by rw [h.hold.cell]; rfl, by rw [h.hold.cell]; rfl, by rw [h.hold.cell]; rfl, by rw [h.hold.cell]; rfl, by rw [h.hold.cell]; rfl, fun i => h.hold.frozen i⟩
theorem PAt.bounds (h : PAt C L s w) : C.tk.length ≤ 4096 ∧ C.end_ ≤ 4096 ∧ s.i ≤ C.tk.length ∧ s.e ≤ 100 ∧ s.at_ ≤ 4096 ∧ s.deep ≤ 40 ∧ s.n ≤ 1000 := ⟨h.fit.len, h.fit.end_, h.ok.i, h.ok.e, h.ok.at_, h.ok.deep, h.ok.n⟩
theorem tok_at (l : List Tok) : ∀ (k : Nat) (hk : k < l.length) (r : Nat) (v : Value), l[k].cells[r]? = some v → (l.flatMap Tok.cells)[k * 3 + r]? = some v := by
 induction l with
 | nil => intro k hk; simp at hk
 | cons a l ih =>
  intro k hk r v h
  rw [List.flatMap_cons]
  cases k with
  | zero =>
   have hr : r < a.cells.length := (List.getElem?_eq_some_iff.1 h).1
   rw [Nat.zero_mul, Nat.zero_add, List.getElem?_append_left hr]
   exact h
  | succ k =>
   have hc : a.cells.length = 3 := rfl
   rw [List.getElem?_append_right (by rw [hc]; omega), hc]
   have := ih k (by simpa using hk) r v (by simpa using h)
   rw [← this]
   congr 1
   omega
/-- The k-th token's cells. -/
theorem PAt.tok (h : PAt C L s w) {k : Nat} (hk : k < C.tk.length) : ∃ b off, L.A = some ⟨b, off, none⟩ ∧ b < L.g ∧ w.cell? ⟨b, off + k * 3, none⟩ = some (.int .i64 C.tk[k].k) ∧ w.cell? ⟨b, off + k * 3 + 1, none⟩ = some (.string (strV C.tk[k].t)) ∧ w.cell? ⟨b, off + k * 3 + 2, none⟩ = some (.int .i64 C.tk[k].at_) := by
 obtain ⟨b, off, e, hb, hc⟩ := h.row (by
  intro e
  have := tok_at C.tk k hk 0 _ rfl
  rw [e] at this
  cases this)
 exact ⟨b, off, e, hb, by have := hc _ _ (tok_at C.tk k hk 0 _ rfl); simpa [Nat.add_assoc] using this, by have := hc _ _ (tok_at C.tk k hk 1 _ rfl); simpa [Nat.add_assoc] using this, by have := hc _ _ (tok_at C.tk k hk 2 _ rfl); simpa [Nat.add_assoc] using this⟩
end
theorem below_drewN {B : Nat} {w w' : World} (h : Below B w w') (n : Nat) : Below B w (w'.drewN n) := ⟨h.os, h.tape, h.output, h.size, h.block⟩
theorem strV_toList (l : List UInt8) : (strV l).toList = l := by
 unfold strV
 rw [ByteArray.toList_eq]
set_option maxRecDepth 100000 in
set_option maxHeartbeats 1000000 in
theorem pfail_any {C : PC} {L : PL} (w : World) (s : PS) (k : Nat) (hP : PAt C L s w) (hk : k ≠ 0 ∧ k ≤ 100) :
  Calls Try.prog 19 #[.pointer (some ⟨L.g, 0, none⟩), .int .i64 k] w fun e w' => e = .returned (.tuple #[]) ∧ PAt C L (failF C k s) w' ∧ Writes [some L.g] w w' := by
 obtain ⟨h0, c0, c1, c2, c3, c4, c5, c6, hfz⟩ := hP.facts
 obtain ⟨b1, b2, b3, b4, b5, b6, b7⟩ := hP.bounds
 by_cases he : s.e = 0
 ·have he' : ((s.e : Int) == 0) = true := by simp; omega
  have s1 := hP.store (s2 := { s with e := k }) 3 (.int .i64 k) rfl ⟨hP.ok.i, hP.ok.n, hP.ok.at_, hk.2, hP.ok.deep⟩
  have s2 := s1.1.store (s2 := { s with e := k, at_ := C.end_ }) 4 (.int .i64 C.end_) rfl ⟨hP.ok.i, hP.ok.n, b2, hk.2, hP.ok.deep⟩
  have hW := Lib.hid (s1.2.trans s2.2)
  obtain ⟨wa, hwa⟩ : ∃ x, x = (w.setCell ⟨L.g, 3, none⟩ (.int .i64 k)).setCell ⟨L.g, 4, none⟩ (.int .i64 C.end_) := ⟨_, rfl⟩
  rw [← hwa] at s2 hW
  have hPa := s2.1
  clear s1 s2 hP
  obtain ⟨a0, d0, d1, d2, d3, d4, d5, d6, dfz⟩ := hPa.facts
  by_cases hi : s.i < C.tk.length
  ·have hF : failF C k s = { s with e := k, at_ := C.tk[s.i].at_ } := by unfold failF; rw [if_pos he, List.getElem?_eq_getElem hi]
   rw [hF]
   clear hF
   obtain ⟨b, off, hA, hbg, t0, t1, t2⟩ := hPa.tok hi
   have hPa := Lib.hid hPa
   go_enter Try.func19, Try.ntmps19
   go_wp2_with fail
   rw [← hwa]
   go_quiet (fail)
   have hPb := hPa.out.up (below_drewN (Below.refl _ wa) nq)
   have hWb := Lib.hid (hW.out.trans (Writes.of_below (below_drewN (Below.refl _ wa) nq) _))
   obtain ⟨wb, hwb⟩ : ∃ x, x = wa.drewN nq := ⟨_, rfl⟩
   rw [← hwb] at hPb hWb ⊢
   clear hwb a0 d0 d1 d2 d3 d4 d5 d6 dfz t0 t1 t2 hPa hwa hW
   obtain ⟨a0, d0, d1, d2, d3, d4, d5, d6, dfz⟩ := hPb.facts
   obtain ⟨b', off', hA', hbg, t0, t1, t2⟩ := hPb.tok hi
   rw [hA] at hA'
   injection hA' with hA'
   injection hA' with hb1 hb2
   subst hb1 hb2
   have hPb := Lib.hid hPb
   go_wp2_with fail
   go_still_tail 14, (by kernel_rfl)
   have hPc := hPb.out.up (Below.refl _ wb).drew
   have hWc := hWb.out.trans (Writes.of_below (Below.refl _ wb).drew _)
   change wpList _ _ _ _ _ wb.drew
   obtain ⟨wc, hwc⟩ : ∃ x, x = wb.drew := ⟨_, rfl⟩
   rw [← hwc] at hPc hWc ⊢
   clear hwc a0 d0 d1 d2 d3 d4 d5 d6 dfz t0 t1 t2 hPb hWb
   obtain ⟨a0, d0, d1, d2, d3, d4, d5, d6, dfz⟩ := hPc.facts
   have hPc := Lib.hid hPc
   have hWc := Lib.hid hWc
   go_wp2_with fail
   go_end0
   have s3 := hPc.out.store (s2 := { s with e := k, at_ := C.tk[s.i].at_ }) 4 (.int .i64 C.tk[s.i].at_) rfl ⟨hPc.out.ok.i, hPc.out.ok.n, hPc.out.fit.at_ _ (List.getElem_mem hi), hPc.out.ok.e, hPc.out.ok.deep⟩
   exact ⟨rfl, s3.1, hWc.out.trans s3.2⟩
  ·have hF : failF C k s = { s with e := k, at_ := C.end_ } := by unfold failF; rw [if_pos he, List.getElem?_eq_none (by omega)]
   rw [hF]
   clear hF
   have hPa := Lib.hid hPa
   go_enter Try.func19, Try.ntmps19
   go_wp2_with fail
   rw [← hwa]
   go_quiet (fail)
   go_wp2_with fail
   go_end0
   exact ⟨rfl, hPa.out.up (below_drewN (Below.refl _ _) _), hW.out.trans (Writes.of_below (below_drewN (Below.refl _ _) _) _)⟩
 ·have he' : ((s.e : Int) == 0) = false := by simp; omega
  have hF : failF C k s = s := by unfold failF; rw [if_neg he]
  rw [hF]
  clear hF
  have hP := Lib.hid hP
  go_enter Try.func19, Try.ntmps19
  go_wp2_with fail
  go_end0
  exact ⟨rfl, hP.out, Writes.refl _ _⟩
set_option maxRecDepth 100000 in
set_option maxHeartbeats 1000000 in
theorem is_any {C : PC} {L : PL} (w : World) (s : PS) (t : List UInt8) (hP : PAt C L s w) :
  Calls Try.prog 17 #[.pointer (some ⟨L.g, 0, none⟩), .string ⟨t.toArray⟩] w fun e w' => e = .returned (.bool (isF C t s)) ∧ ∃ n, w' = w.drewN n := by
 obtain ⟨a0, d0, d1, d2, d3, d4, d5, d6, dfz⟩ := hP.facts
 obtain ⟨b1, b2, b3, b4, b5, b6, b7⟩ := hP.bounds
 by_cases he : s.e = 0
 ·have he' : ((s.e : Int) == 0) = true := by simp; omega
  by_cases hi : s.i < C.tk.length
  ·have hi2 : decide (s.i < C.tk.length) = true := by simpa using hi
   obtain ⟨b, off, hA, hbg, t0, t1, t2⟩ := hP.tok hi
   have hk := (hP.fit.txt _ (List.getElem_mem hi)).2
   obtain ⟨x, hx⟩ : ∃ x, x = C.tk[s.i] := ⟨_, rfl⟩
   have hF : isF C t s = (x.k != 1 && x.t == t) := by unfold isF; rw [he, List.getElem?_eq_getElem hi, hx]; rfl
   rw [← hx] at t0 t1 t2 hk
   rw [hF]
   clear hF hx hP he
   by_cases h1 : x.k = 1
   ·have h1' : ((x.k : Int) != 1) = false := by simp; omega
    have hR : (x.k != 1 && x.t == t) = false := by simp [h1]
    rw [hR]
    clear hR h1
    go_enter Try.func17, Try.ntmps17
    go_wp2_with fail
    go_quiet (fail)
    go_wp2_with fail
    go_ret
    exact ⟨rfl, _, rfl⟩
   ·have h1' : ((x.k : Int) != 1) = true := by simp; omega
    have hst : Hid (((strV x.t).toList == t) = (x.t == t)) := Lib.hid (by rw [strV_toList])
    have hR : (x.k != 1 && x.t == t) = (x.t == t) := by simp [h1]
    rw [hR]
    clear hR h1
    go_enter Try.func17, Try.ntmps17
    go_wp2_with fail
    go_quiet (fail)
    go_wp2_with fail
    go_ret
    exact ⟨ret_bool hst.out, _, rfl⟩
  ·have hi2 : decide (s.i < C.tk.length) = false := by simpa using hi
   have hF : isF C t s = false := by unfold isF; rw [List.getElem?_eq_none (by omega)]; simp
   rw [hF]
   clear hF hP he
   go_enter Try.func17, Try.ntmps17
   go_wp2_with fail
   go_quiet (fail)
   go_wp2_with fail
   go_ret
   exact ⟨rfl, _, rfl⟩
 ·have he' : ((s.e : Int) == 0) = false := by simp; omega
  have hF : isF C t s = false := by unfold isF; rw [show (s.e == 0) = false by simpa using he]; rfl
  rw [hF]
  clear hF hP
  go_enter Try.func17, Try.ntmps17
  go_wp2_with fail
  go_quiet (fail)
  go_wp2_with fail
  go_ret
  exact ⟨rfl, _, rfl⟩
/-- What a call of the parser leaves: it stands at s2, nothing of ahead has turned but its own block. -/
structure Moved (C : PC) (L : PL) (s2 : PS) (w w' : World) : Prop where
 at_ : PAt C L s2 w'
 wr : Writes [some L.g] w w'
section
variable {C : PC} {L : PL} {s s2 s3 : PS} {w w' w'' : World}
theorem Moved.refl (h : PAt C L s w) : Moved C L s w w := ⟨h, Writes.refl _ _⟩
theorem Moved.drewN (h : PAt C L s w) (n : Nat) : Moved C L s w (w.drewN n) := ⟨h.up (below_drewN (Below.refl _ _) _), Writes.of_below (below_drewN (Below.refl _ _) _) _⟩
theorem Moved.trans (h : Moved C L s w w') (h2 : Moved C L s2 w' w'') : Moved C L s2 w w'' := ⟨h2.at_, h.wr.trans h2.wr⟩
theorem Moved.below (h : Moved C L s w w') (hb : Below w'.heap.size w' w'') : Moved C L s w w'' := ⟨h.at_.up hb, h.wr.trans (Writes.of_below hb _)⟩
theorem Moved.store (h : Moved C L s w w') (i : Nat) (v : Value) (hc : (s.cells C L).setIfInBounds i v = s2.cells C L) (ho : s2.Ok C) : Moved C L s2 w (w'.setCell ⟨L.g, i, none⟩ v) := by
 have := h.at_.store (s2 := s2) i v hc ho
 exact ⟨this.1, h.wr.trans this.2⟩
theorem Moved.next (h : Moved C L s w w') (hi : s.i < C.tk.length) : Moved C L s.next w (w'.setCell ⟨L.g, 1, none⟩ (.int .i64 ((s.i : Int) + 1))) := by
 refine h.store 1 _ ?_ ⟨hi, h.at_.ok.n, h.at_.ok.at_, h.at_.ok.e, h.at_.ok.deep⟩
 simp [PS.cells, PS.next]
end
set_option maxRecDepth 100000 in
set_option maxHeartbeats 1000000 in
theorem take_any {C : PC} {L : PL} (w : World) (s : PS) (t : List UInt8) (hP : PAt C L s w) :
  Calls Try.prog 15 #[.pointer (some ⟨L.g, 0, none⟩), .string ⟨t.toArray⟩] w fun e w' => e = .returned (.bool (isF C t s)) ∧ Moved C L (if isF C t s then s.next else s) w w' := by
 obtain ⟨b1, b2, b3, b4, b5, b6, b7⟩ := hP.bounds
 have hc := is_any w s t hP
 cases hi : isF C t s with
 | false =>
  rw [hi] at hc
  simp only [Bool.false_eq_true, if_false]
  have hP := Lib.hid hP
  clear hi
  go_enter Try.func15, Try.ntmps15
  go_wp2_with fail
  refine hc.mono ?_
  rintro e w1 ⟨rfl, n, rfl⟩
  go_wp2_with fail
  go_ret
  exact ⟨rfl, Moved.drewN hP.out n⟩
 | true =>
  rw [hi] at hc
  simp only [if_true]
  have hlt := isF_lt hi
  have hP := Lib.hid hP
  clear hi
  go_enter Try.func15, Try.ntmps15
  go_wp2_with fail
  refine hc.mono ?_
  clear hc
  rintro e w1 ⟨rfl, n, hw1⟩
  have hM := Moved.drewN hP.out n
  rw [← hw1] at hM
  clear hw1 hP
  obtain ⟨a0, d0, d1, d2, d3, d4, d5, d6, dfz⟩ := hM.at_.facts
  have hM := Lib.hid hM
  go_wp2_with fail
  go_ret
  exact ⟨rfl, hM.out.next hlt⟩
set_option maxRecDepth 100000 in
set_option maxHeartbeats 1000000 in
theorem want_any {C : PC} {L : PL} (w : World) (s : PS) (t : List UInt8) (hP : PAt C L s w) :
  Calls Try.prog 13 #[.pointer (some ⟨L.g, 0, none⟩), .string ⟨t.toArray⟩] w fun e w' => e = .returned (.tuple #[]) ∧ Moved C L (wantF C t s) w w' := by
 have hc := take_any w s t hP
 unfold wantF
 cases hi : isF C t s with
 | false =>
  rw [hi] at hc
  simp only [Bool.false_eq_true, if_false] at hc ⊢
  clear hi hP
  go_enter Try.func13, Try.ntmps13
  go_wp2_with fail
  refine hc.mono ?_
  clear hc
  rintro e w1 ⟨rfl, hM⟩
  have hc := pfail_any w1 s 51 hM.at_ (by decide)
  have hM := Lib.hid hM
  go_wp2_with fail
  refine hc.mono ?_
  clear hc
  rintro e w2 ⟨rfl, hP, hW⟩
  have hM2 := Lib.hid (hM.out.trans ⟨hP, hW⟩)
  clear hP hW hM
  go_wp2_with fail
  go_end0
  exact ⟨rfl, hM2.out⟩
 | true =>
  rw [hi] at hc
  simp only [if_true] at hc ⊢
  clear hi hP
  go_enter Try.func13, Try.ntmps13
  go_wp2_with fail
  refine hc.mono ?_
  clear hc
  rintro e w1 ⟨rfl, hM⟩
  have hM := Lib.hid hM
  go_wp2_with fail
  go_end0
  exact ⟨rfl, hM.out⟩
end Go.Proofs.Ytpndglghpojjkaa
/- The parser of the document's texts: names, brackets, numbers: their walks. -/
namespace Go.Proofs.Ytpndglghpojjkaa
open Go.RowKit Go.Deep

def wordsV : List Value := words_.map fun l => .string (strV l)
theorem word_at (k : Nat) (hk : k < 11) : wordsV[k]? = some (.string (strV (words_.getD k []))) := by
 match k, hk with
 | 0, _ => rfl
 | 1, _ => rfl
 | 2, _ => rfl
 | 3, _ => rfl
 | 4, _ => rfl
 | 5, _ => rfl
 | 6, _ => rfl
 | 7, _ => rfl
 | 8, _ => rfl
 | 9, _ => rfl
 | 10, _ => rfl
theorem any_take_snoc {α : Type} (l : List α) (p : α → Bool) (k : Nat) (hk : k < l.length) : (l.take (k + 1)).any p = ((l.take k).any p || p l[k]) := by
 rw [List.take_succ_eq_append_getElem hk, List.any_append]
 simp
set_option maxRecDepth 100000 in
set_option maxHeartbeats 1000000 in
theorem word_any (w : World) (t : List UInt8) :
  Calls Try.prog 61 #[.string (strV t)] w fun e w' => e = .returned (.bool (wordF t)) ∧ Below w.heap.size w w' := by
 obtain ⟨wa, hwa⟩ : ∃ x, x = w.alloc (.cells #[.string ⟨#[102, 110]⟩, .string ⟨#[118, 97, 114]⟩, .string ⟨#[112, 116, 114]⟩, .string ⟨#[105, 102]⟩, .string ⟨#[101, 108, 115, 101]⟩, .string ⟨#[119, 104, 105, 108, 101]⟩, .string ⟨#[114, 101, 116, 117, 114, 110]⟩, .string ⟨#[97, 115, 115, 101, 114, 116]⟩, .string ⟨#[110, 117, 108, 108]⟩, .string ⟨#[99, 101, 108, 108]⟩, .string ⟨#[97, 114, 114, 97, 121]⟩] 9) := ⟨_, rfl⟩
 have hH : Holds wa w.heap.size 9 wordsV.toArray := by rw [hwa]; exact Holds.new w _ _
 have hB : Hid (Below w.heap.size w wa) := Lib.hid (by rw [hwa]; exact below_new w _)
 go_enter Try.func61, Try.ntmps61
 go_wp2_with fail
 rw [← hwa]
 clear hwa
 obtain ⟨g, hg⟩ : ∃ x, x = w.heap.size := ⟨_, rfl⟩
 rw [← hg] at hH ⊢
 clear hg
 have hH := Lib.hid hH
 go_loop [4] (fun i => ∃ k : Nat, k ≤ 11 ∧ i = .int .i64 k ∧ Hid ((words_.take k).any (fun x => x == t) = false)) (fun i => 11 - (intOf i).toNat)
 case atStart => exact ⟨0, by omega, rfl, Lib.hid rfl⟩
 case round =>
  obtain ⟨k, hk, rfl, hT⟩ := hrel
  by_cases hlt : k < 11
  ·have hlt' : (k : Int) < 11 := by omega
   have hc : wa.cell? ⟨g, k, none⟩ = some (.string (strV (words_.getD k []))) := by rw [hH.out.cell]; simpa using word_at k hlt
   have hs := any_take_snoc words_ (fun x => x == t) k hlt
   have hgd : words_.getD k [] = words_[k] := by rw [List.getD_eq_getElem?_getD, List.getElem?_eq_getElem hlt]; rfl
   rw [hgd] at hc
   have he : ((strV words_[k]).toList == (strV t).toList) = (words_[k] == t) := by rw [strV_toList, strV_toList]
   have hl := hH.out.lt
   cases hx : (words_[k] == t) with
   | true =>
    rw [hx] at he
    have hr : Hid (wordF t = true) := Lib.hid (List.any_eq_true.2 ⟨_, List.getElem_mem hlt, hx⟩)
    clear hs hx hgd
    generalize strV words_[k] = sk at hc he
    go_wp2_with fail
    go_ret
    rw [hr.out]
    exact ⟨rfl, hB.out⟩
   | false =>
    rw [hx] at he
    have hT2 : Hid ((words_.take (k + 1)).any (fun x => x == t) = false) := Lib.hid (by rw [hs, hT.out, hx]; rfl)
    clear hs hx hgd hT
    generalize strV words_[k] = sk at hc he
    go_wp2_with fail
    go_round
    case rel => exact ⟨k + 1, by omega, by go_num, hT2⟩
    case measure => simp [intOf]; omega
  ·obtain rfl : k = 11 := by omega
   have hr : Hid (wordF t = false) := Lib.hid hT.out
   clear hT
   go_wp2_with fail
   go_ret
   rw [hr.out]
   exact ⟨rfl, hB.out⟩
set_option maxRecDepth 100000 in
set_option maxHeartbeats 2000000 in
theorem named_any {C : PC} {L : PL} (w : World) (s : PS) (hP : PAt C L s w) :
  Calls Try.prog 41 #[.pointer (some ⟨L.g, 0, none⟩)] w fun e w' => e = .returned (.bool (namedF C s)) ∧ Below w.heap.size w w' := by
 obtain ⟨a0, d0, d1, d2, d3, d4, d5, d6, dfz⟩ := hP.facts
 obtain ⟨b1, b2, b3, b4, b5, b6, b7⟩ := hP.bounds
 by_cases he : s.e = 0
 ·have he' : ((s.e : Int) == 0) = true := by simp; omega
  by_cases hi : s.i < C.tk.length
  ·have hi2 : decide (s.i < C.tk.length) = true := by simpa using hi
   obtain ⟨b, off, hA, hbg, t0, t1, t2⟩ := hP.tok hi
   have hk := (hP.fit.txt _ (List.getElem_mem hi)).2
   obtain ⟨x, hx⟩ : ∃ x, x = C.tk[s.i] := ⟨_, rfl⟩
   have hF : namedF C s = (x.k == 0 && !wordF x.t) := by unfold namedF; rw [he, List.getElem?_eq_getElem hi, hx]; rfl
   rw [← hx] at t0 t1 t2 hk
   rw [hF]
   clear hF hx he
   by_cases h1 : x.k = 0
   ·have h1' : ((x.k : Int) == 0) = true := by simp; omega
    have hR : (x.k == 0 && !wordF x.t) = !wordF x.t := by simp [h1]
    rw [hR]
    clear hR h1
    have hP := Lib.hid hP
    go_enter Try.func41, Try.ntmps41
    go_wp2_with fail
    go_still_tail 43, (by kernel_rfl)
    have hb := (Below.refl w.heap.size w).drew
    change wpList _ _ _ _ _ w.drew
    obtain ⟨wb, hwb⟩ : ∃ x, x = w.drew := ⟨_, rfl⟩
    rw [← hwb] at hb ⊢
    clear hwb
    have hb := Lib.hid hb
    clear t0 t1 t2 d0 d1 d2 d3 d4 d5 d6 dfz
    go_wp2_with fail
    refine (word_any wb x.t).mono ?_
    rintro e w1 ⟨rfl, hb1⟩
    have hb2 := Lib.hid (hb.out.trans (hb1.mono hb.out.size))
    clear hb1
    go_wp2_with fail
    go_ret
    exact ⟨rfl, hb2.out⟩
   ·have h1' : ((x.k : Int) == 0) = false := by simp; omega
    have hR : (x.k == 0 && !wordF x.t) = false := by simp [h1]
    rw [hR]
    clear hR h1
    go_enter Try.func41, Try.ntmps41
    go_wp2_with fail
    go_quiet (fail)
    go_wp2_with fail
    go_ret
    exact ⟨rfl, below_drewN (Below.refl _ _) _⟩
  ·have hi2 : decide (s.i < C.tk.length) = false := by simpa using hi
   have hF : namedF C s = false := by unfold namedF; rw [List.getElem?_eq_none (by omega)]; simp
   rw [hF]
   clear hF hP he
   go_enter Try.func41, Try.ntmps41
   go_wp2_with fail
   go_quiet (fail)
   go_wp2_with fail
   go_ret
   exact ⟨rfl, below_drewN (Below.refl _ _) _⟩
 ·have he' : ((s.e : Int) == 0) = false := by simp; omega
  have hF : namedF C s = false := by unfold namedF; rw [show (s.e == 0) = false by simpa using he]; rfl
  rw [hF]
  clear hF hP
  go_enter Try.func41, Try.ntmps41
  go_wp2_with fail
  go_quiet (fail)
  go_wp2_with fail
  go_ret
  exact ⟨rfl, below_drewN (Below.refl _ _) _⟩
set_option maxRecDepth 100000 in
set_option maxHeartbeats 1000000 in
theorem name_any {C : PC} {L : PL} (w : World) (s : PS) (hP : PAt C L s w) :
  Calls Try.prog 14 #[.pointer (some ⟨L.g, 0, none⟩)] w fun e w' => e = .returned (.string (strV (nameF C s).1)) ∧ Moved C L (nameF C s).2 w w' ∧ (nameF C s).1.length ≤ 4096 := by
 have hc := named_any w s hP
 cases hi : namedF C s with
 | false =>
  have hF : nameF C s = ([], failF C 51 s) := by unfold nameF; rw [hi]; rfl
  rw [hF]
  clear hF
  rw [hi] at hc
  have hP := Lib.hid hP
  clear hi
  go_enter Try.func14, Try.ntmps14
  go_wp2_with fail
  refine hc.mono ?_
  clear hc
  rintro e w1 ⟨rfl, hb⟩
  have hM := (Moved.refl hP.out).below hb
  have hc := pfail_any w1 s 51 hM.at_ (by decide)
  have hM := Lib.hid hM
  clear hb
  go_wp2_with fail
  refine hc.mono ?_
  clear hc
  rintro e w2 ⟨rfl, hP, hW⟩
  have hM2 := Lib.hid (hM.out.trans ⟨hP, hW⟩)
  clear hP hW hM
  go_wp2_with fail
  go_ret
  exact ⟨rfl, hM2.out, by simp⟩
 | true =>
  have hlt := namedF_lt hi
  have hF : nameF C s = (C.tk[s.i].t, s.next) := by unfold nameF; rw [hi, List.getElem?_eq_getElem hlt]; rfl
  rw [hF]
  clear hF
  rw [hi] at hc
  have htx := (hP.fit.txt _ (List.getElem_mem hlt)).1
  obtain ⟨b1, b2, b3, b4, b5, b6, b7⟩ := hP.bounds
  have hP := Lib.hid hP
  clear hi
  go_enter Try.func14, Try.ntmps14
  go_wp2_with fail
  refine hc.mono ?_
  clear hc
  rintro e w1 ⟨rfl, hb⟩
  have hM := (Moved.refl hP.out).below hb
  obtain ⟨a0, d0, d1, d2, d3, d4, d5, d6, dfz⟩ := hM.at_.facts
  have hM2 := hM.next hlt
  obtain ⟨wb, hwb⟩ : ∃ x, x = w1.setCell ⟨L.g, 1, none⟩ (.int .i64 ((s.i : Int) + 1)) := ⟨_, rfl⟩
  rw [← hwb] at hM2
  obtain ⟨b, off, hA, hbg, t0, t1, t2⟩ := hM2.at_.tok hlt
  have hwr : IntKind.i64.wrap ((s.i : Int) + 1) = (s.i : Int) + 1 := IntWalk.i64_in _ (by omega)
  have hsub : IntKind.i64.wrap ((s.i : Int) + 1 - 1) = (s.i : Int) := by rw [IntWalk.i64_in _ (by omega)]; omega
  clear hb hM hP
  go_wp2_with fail
  rw [← hwb]
  clear hwb a0 d0 d1 d2 d3 d4 d5 d6 dfz
  obtain ⟨a0, d0, d1, d2, d3, d4, d5, d6, dfz⟩ := hM2.at_.facts
  have e1 : ((s.next.i : Nat) : Int) = (s.i : Int) + 1 := by simp [PS.next]
  rw [e1] at d1
  have hM2 := Lib.hid hM2
  clear e1
  go_quiet (fail)
  go_wp2_with fail
  go_ret
  exact ⟨rfl, hM2.out.below (below_drewN (Below.refl _ _) _), htx⟩
set_option maxRecDepth 100000 in
set_option maxHeartbeats 1000000 in
theorem open_any {C : PC} {L : PL} (w : World) (s : PS) (hP : PAt C L s w) :
  Calls Try.prog 18 #[.pointer (some ⟨L.g, 0, none⟩)] w fun e w' => e = .returned (.bool (openF C s).1) ∧ Moved C L (openF C s).2 w w' := by
 obtain ⟨a0, d0, d1, d2, d3, d4, d5, d6, dfz⟩ := hP.facts
 obtain ⟨b1, b2, b3, b4, b5, b6, b7⟩ := hP.bounds
 by_cases he : s.e = 0
 ·have he' : ((s.e : Int) != 0) = false := by simp; omega
  by_cases hd : 40 ≤ s.deep
  ·have hF : openF C s = (false, failF C 52 s) := by unfold openF; rw [if_neg (by omega), if_pos hd]
   rw [hF]
   have hc := pfail_any w s 52 hP (by decide)
   clear hF hP
   go_enter Try.func18, Try.ntmps18
   go_wp2_with fail
   refine hc.mono ?_
   clear hc
   rintro e w1 ⟨rfl, hP, hW⟩
   have hM := Lib.hid (⟨hP, hW⟩ : Moved _ _ _ _ _)
   clear hP hW
   go_wp2_with fail
   go_ret
   exact ⟨rfl, hM.out⟩
  ·have hF : openF C s = (true, { s with deep := s.deep + 1 }) := by unfold openF; rw [if_neg (by omega), if_neg hd]
   rw [hF]
   have hP := Lib.hid hP
   clear hF
   go_enter Try.func18, Try.ntmps18
   go_wp2_with fail
   go_ret
   exact ⟨rfl, (Moved.refl hP.out).store 5 _ (by simp [PS.cells]) ⟨hP.out.ok.i, hP.out.ok.n, hP.out.ok.at_, hP.out.ok.e, by simp only; omega⟩⟩
 ·have he' : ((s.e : Int) != 0) = true := by simp; omega
  have hF : openF C s = (false, s) := by unfold openF; rw [if_pos he]
  rw [hF]
  have hP := Lib.hid hP
  clear hF
  go_enter Try.func18, Try.ntmps18
  go_wp2_with fail
  go_ret
  exact ⟨rfl, Moved.refl hP.out⟩
end Go.Proofs.Ytpndglghpojjkaa
/- Numbers' texts, trees of expressions in memory, and the walks of what reads expressions. -/
namespace Go.Proofs.Ytpndglghpojjkaa
open Go.RowKit Go.Deep

theorem numF_snoc (l : List UInt8) (c : UInt8) (n : Int) : numF (l ++ [c]) n = w64 (w64 (10 * numF l n) + (c - 48).toNat) := by
 induction l generalizing n with
 | nil => rfl
 | cons a r ih => exact ih _
theorem w64_eq (x : Int) : w64 x = wrap64 x := by unfold w64 wrap64; rfl
theorem sub48 (c : UInt8) : (((c - 48).toNat : Nat) : Int) = ((c.toNat : Int) - 48) % 256 := by
 have h := c.toNat_lt
 rw [UInt8.toNat_sub]
 simp
 omega
theorem take_snocB (s : ByteArray) (k : Nat) (h : k < s.size) : s.data.toList.take (k + 1) = s.data.toList.take k ++ [s[k]] := by
 rw [List.take_succ_eq_append_getElem (by simpa using h)]; rfl
set_option maxRecDepth 100000 in
set_option maxHeartbeats 1000000 in
theorem number_any (w : World) (s : ByteArray) (hs : s.size ≤ 4096) :
  Calls Try.prog 100 #[.string s] w fun e w' => e = .returned (.int .i64 (numF s.data.toList 0)) ∧ w' = w := by
 go_enter Try.func100, Try.ntmps100
 go_wp2_with fail
 go_loop [3, 4] (fun n i => ∃ k : Nat, k ≤ s.size ∧ i = .int .i64 k ∧ n = .int .i64 (numF (s.data.toList.take k) 0)) (fun _ i => s.size - (intOf i).toNat)
 case atStart => exact ⟨0, Nat.zero_le _, rfl, rfl⟩
 case round =>
  obtain ⟨k, hk, rfl, rfl⟩ := hrel
  by_cases hlt : k < s.size
  ·have HS : Hid (numF (s.data.toList.take (k + 1)) 0 = wrap64 (wrap64 (10 * numF (s.data.toList.take k) 0) + ((s[k].toNat : Int) - 48) % 256)) := Lib.hid (by rw [take_snocB s k hlt, numF_snoc, w64_eq, w64_eq, sub48])
   generalize numF (s.data.toList.take k) 0 = n0 at HS ⊢
   go_wp2_with fail
   go_round
   case rel => exact ⟨k + 1, by omega, by go_num, by rw [HS.out]⟩
   case measure => simp [intOf]; omega
  ·go_wp2_with fail
   go_ret
   exact ⟨ret_int (by rw [List.take_of_length_le (by simp; omega)]), rfl⟩

/-- The tree e stands at v, in blocks of S. -/
def ExAt (w : World) (S : Nat → Prop) : Ex → Value → Prop
 | .nil, v => v = .pointer none
 | .mk k n nm a b, v => ∃ g va vb, v = .pointer (some ⟨g, 0, none⟩) ∧ S g ∧ nm.length ≤ 4096 ∧ k ≤ 7 ∧
   Holds w g 117 #[.int .i64 k, .int .i64 n, .string (strV nm), va, vb] ∧ ExAt w S a va ∧ ExAt w S b vb
theorem ExAt.keep {w w' : World} {S : Nat → Prop} (hk : ∀ x, x < w.heap.size → S x → w'.heap[x]? = w.heap[x]?) : ∀ {e : Ex} {v : Value}, ExAt w S e v → ExAt w' S e v
 | .nil, _, h => h
 | .mk _ _ _ _ _, _, h => by
  obtain ⟨g, va, vb, e, hS, hn, hk7, hH, ha, hb⟩ := h
  exact ⟨g, va, vb, e, hS, hn, hk7, (hk g hH.lt hS).trans hH, ha.keep hk, hb.keep hk⟩
theorem ExAt.mono {w : World} {S S' : Nat → Prop} (hk : ∀ x, x < w.heap.size → S x → S' x) : ∀ {e : Ex} {v : Value}, ExAt w S e v → ExAt w S' e v
 | .nil, _, h => h
 | .mk _ _ _ _ _, _, h => by
  obtain ⟨g, va, vb, e, hS, hn, hk7, hH, ha, hb⟩ := h
  exact ⟨g, va, vb, e, hk g hH.lt hS, hn, hk7, hH, ha.mono hk, hb.mono hk⟩
theorem ExAt.below {w w' : World} {S : Nat → Prop} {e : Ex} {v : Value} (h : ExAt w S e v) (hb : Below w.heap.size w w') : ExAt w' S e v := h.keep fun x hx _ => hb.block x hx
theorem ExAt.writes {w w' : World} {M : List (Option Nat)} {S : Nat → Prop} {e : Ex} {v : Value} (h : ExAt w S e v) (hW : Writes M w w') (hM : ∀ k, some k ∈ M → ¬ S k) : ExAt w' S e v := h.keep fun x hx hS => hW.block x hx fun e => hM x e hS
/-- Blocks from B on. -/
def Ge (B x : Nat) : Prop := B ≤ x
theorem ExAt.ge {w : World} {B B' : Nat} {e : Ex} {v : Value} (h : ExAt w (Ge B') e v) (hB : B ≤ B') : ExAt w (Ge B) e v := h.mono fun _ _ h => Nat.le_trans hB h
theorem ExAt.node {w : World} {S : Nat → Prop} {a b : Ex} {va vb : Value} (k : Nat) (n : Int) (nm : List UInt8) (hk : k ≤ 7) (hn : nm.length ≤ 4096) (hS : S w.heap.size) (ha : ExAt w S a va) (hb : ExAt w S b vb) :
  ExAt (w.alloc (.cells #[.int .i64 k, .int .i64 n, .string (strV nm), va, vb] 117)) S (.mk k n nm a b) (.pointer (some ⟨w.heap.size, 0, none⟩)) :=
 ⟨_, va, vb, rfl, hS, hn, hk, Holds.new _ _ _, ha.below (below_new w _), hb.below (below_new w _)⟩
theorem ExAt.new {w : World} {B g : Nat} {a b : Ex} {va vb : Value} (k : Nat) (n : Int) (nm : List UInt8) (hk : k ≤ 7) (hn : nm.length ≤ 4096) (hB : B ≤ w.heap.size) (hg : g = w.heap.size) (ha : ExAt w (Ge B) a va) (hb : ExAt w (Ge B) b vb) :
  ExAt (w.alloc (.cells #[.int .i64 k, .int .i64 n, .string (strV nm), va, vb] 117)) (Ge B) (.mk k n nm a b) (.pointer (some ⟨g, 0, none⟩)) := by
 subst hg
 exact ExAt.node k n nm hk hn hB ha hb
theorem setCell_size (w : World) (p : Addr) (v : Value) : (w.setCell p v).heap.size = w.heap.size := by simp [World.setCell]
/-- Trees from B on stay when blocks ahead of B turn. -/
theorem ExAt.pw {w w' : World} {B g : Nat} {e : Ex} {v : Value} (h : ExAt w (Ge B) e v) (hW : Writes [some g] w w') (hg : g < B) : ExAt w' (Ge B) e v :=
 h.writes hW fun k hk hge => by simp at hk; subst hk; exact absurd hge (Nat.not_le_of_lt hg)
theorem ExAt.nil_ (w : World) (S : Nat → Prop) : ExAt w S .nil (.pointer none) := rfl
theorem ExAt.vp {w : World} {S : Nat → Prop} {e : Ex} {v : Value} (h : ExAt w S e v) : ∃ p, v = .pointer p := by
 cases e with
 | nil => exact ⟨_, h⟩
 | mk k n nm a b =>
  obtain ⟨g, va, vb, e, _⟩ := h
  exact ⟨_, e⟩

/-- What a call that reads an expression leaves. -/
def ExPost (C : PC) (L : PL) (r : Ex × PS) (w : World) (e : Ending) (w' : World) : Prop := ∃ p, e = .returned (.pointer p) ∧ Moved C L r.2 w w' ∧ ExAt w' (Ge w.heap.size) r.1 (.pointer p)
theorem ExPost.of {C : PC} {L : PL} {r : Ex × PS} {w w' : World} {p : Option Addr} (h : Moved C L r.2 w w') (h2 : ExAt w' (Ge w.heap.size) r.1 (.pointer p)) : ExPost C L r w (.returned (.pointer p)) w' := ⟨p, rfl, h, h2⟩
end Go.Proofs.Ytpndglghpojjkaa
/- The parser's small functions, told from where a walk began; and the walk of a product's parts. -/
namespace Go.Proofs.Ytpndglghpojjkaa
open Go.RowKit Go.Deep

section
variable {C : PC} {L : PL} {s s2 : PS} {w0 w w' : World}
theorem is_from (hM : Moved C L s w0 w) (t : List UInt8) {b : Bool} (hb : isF C t s = b) : Calls Try.prog 17 #[.pointer (some ⟨L.g, 0, none⟩), .string ⟨t.toArray⟩] w fun e w' => e = .returned (.bool b) ∧ Moved C L s w0 w' ∧ Writes [some L.g] w w' := by
 refine (is_any w s t hM.at_).mono ?_
 rintro e w' ⟨rfl, n, rfl⟩
 rw [hb]
 exact ⟨rfl, hM.below (below_drewN (Below.refl _ _) _), Writes.of_below (below_drewN (Below.refl _ _) _) _⟩
theorem take_no (hM : Moved C L s w0 w) (t : List UInt8) (hb : isF C t s = false) : Calls Try.prog 15 #[.pointer (some ⟨L.g, 0, none⟩), .string ⟨t.toArray⟩] w fun e w' => e = .returned (.bool false) ∧ Moved C L s w0 w' ∧ Writes [some L.g] w w' := by
 refine (take_any w s t hM.at_).mono ?_
 rintro e w' ⟨rfl, h⟩
 rw [hb] at h ⊢
 exact ⟨rfl, hM.trans h, h.wr⟩
theorem take_yes (hM : Moved C L s w0 w) (t : List UInt8) (hb : isF C t s = true) (hs : s.next = s2) : Calls Try.prog 15 #[.pointer (some ⟨L.g, 0, none⟩), .string ⟨t.toArray⟩] w fun e w' => e = .returned (.bool true) ∧ Moved C L s2 w0 w' ∧ Writes [some L.g] w w' := by
 subst hs
 refine (take_any w s t hM.at_).mono ?_
 rintro e w' ⟨rfl, h⟩
 rw [hb] at h ⊢
 exact ⟨rfl, hM.trans h, h.wr⟩
theorem want_from (hM : Moved C L s w0 w) (t : List UInt8) (hs : wantF C t s = s2) : Calls Try.prog 13 #[.pointer (some ⟨L.g, 0, none⟩), .string ⟨t.toArray⟩] w fun e w' => e = .returned (.tuple #[]) ∧ Moved C L s2 w0 w' ∧ Writes [some L.g] w w' := by
 subst hs
 refine (want_any w s t hM.at_).mono ?_
 rintro e w' ⟨rfl, h⟩
 exact ⟨rfl, hM.trans h, h.wr⟩
theorem fail_from (hM : Moved C L s w0 w) (k : Nat) (hk : k ≠ 0 ∧ k ≤ 100) (hs : failF C k s = s2) : Calls Try.prog 19 #[.pointer (some ⟨L.g, 0, none⟩), .int .i64 k] w fun e w' => e = .returned (.tuple #[]) ∧ Moved C L s2 w0 w' ∧ Writes [some L.g] w w' := by
 subst hs
 refine (pfail_any w s k hM.at_ hk).mono ?_
 rintro e w' ⟨rfl, h1, h2⟩
 exact ⟨rfl, hM.trans ⟨h1, h2⟩, h2⟩
theorem named_from (hM : Moved C L s w0 w) {b : Bool} (hb : namedF C s = b) : Calls Try.prog 41 #[.pointer (some ⟨L.g, 0, none⟩)] w fun e w' => e = .returned (.bool b) ∧ Moved C L s w0 w' ∧ Writes [some L.g] w w' := by
 refine (named_any w s hM.at_).mono ?_
 rintro e w' ⟨rfl, h⟩
 rw [hb]
 exact ⟨rfl, hM.below h, Writes.of_below h _⟩
theorem name_from (hM : Moved C L s w0 w) {x : List UInt8} (hs : nameF C s = (x, s2)) : Calls Try.prog 14 #[.pointer (some ⟨L.g, 0, none⟩)] w fun e w' => e = .returned (.string (strV x)) ∧ Moved C L s2 w0 w' ∧ x.length ≤ 4096 ∧ Writes [some L.g] w w' := by
 refine (name_any w s hM.at_).mono ?_
 rintro e w' ⟨rfl, h, hl⟩
 rw [hs] at h hl ⊢
 exact ⟨rfl, hM.trans h, hl, h.wr⟩
theorem open_from (hM : Moved C L s w0 w) {b : Bool} (hs : openF C s = (b, s2)) : Calls Try.prog 18 #[.pointer (some ⟨L.g, 0, none⟩)] w fun e w' => e = .returned (.bool b) ∧ Moved C L s2 w0 w' ∧ Writes [some L.g] w w' := by
 refine (open_any w s hM.at_).mono ?_
 rintro e w' ⟨rfl, h⟩
 rw [hs] at h ⊢
 exact ⟨rfl, hM.trans h, h.wr⟩
theorem Moved.shut (h : Moved C L s w0 w) (hd : 1 ≤ s.deep) : Moved C L s.shut w0 (w.setCell ⟨L.g, 5, none⟩ (.int .i64 ((s.deep : Int) - 1))) := by
 refine h.store 5 _ ?_ ⟨h.at_.ok.i, h.at_.ok.n, h.at_.ok.at_, h.at_.ok.e, by have := h.at_.ok.deep; simp only [PS.shut]; omega⟩
 simp [PS.cells, PS.shut]
 omega
theorem Moved.facts (h : Moved C L s w0 w) : L.g < w.heap.size ∧ w.cell? ⟨L.g, 0, none⟩ = some (.slice L.A C.tk.length L.c) ∧ w.cell? ⟨L.g, 1, none⟩ = some (.int .i64 s.i) ∧ w.cell? ⟨L.g, 2, none⟩ = some (.int .i64 C.end_) ∧ w.cell? ⟨L.g, 3, none⟩ = some (.int .i64 s.e) ∧
  w.cell? ⟨L.g, 4, none⟩ = some (.int .i64 s.at_) ∧ w.cell? ⟨L.g, 5, none⟩ = some (.int .i64 s.deep) ∧ w.cell? ⟨L.g, 6, none⟩ = some (.int .i64 s.n) ∧ (∀ i, w.frozen? ⟨L.g, i, none⟩ = false) := h.at_.facts
theorem Moved.bounds (h : Moved C L s w0 w) : C.tk.length ≤ 4096 ∧ C.end_ ≤ 4096 ∧ s.i ≤ C.tk.length ∧ s.e ≤ 100 ∧ s.at_ ≤ 4096 ∧ s.deep ≤ 40 ∧ s.n ≤ 1000 := h.at_.bounds
theorem i64_next {i : Nat} (h : i ≤ 5000) : IntKind.i64.wrap ((i : Int) + 1) = (i : Int) + 1 := IntWalk.i64_in _ (by omega)
theorem i64_pred {i : Nat} (h : 1 ≤ i) (h2 : i ≤ 5000) : IntKind.i64.wrap ((i : Int) - 1) = (i : Int) - 1 := IntWalk.i64_in _ (by omega)
end
/-- Function f reads as F does, where m or more are open. -/
def Reads6 (f : Nat) (m : Nat) (F : PC → PS → Ex × PS) : Prop := ∀ (C : PC) (L : PL) (w : World) (s : PS), PAt C L s w → m ≤ s.deep → Calls Try.prog f #[.pointer (some ⟨L.g, 0, none⟩)] w (ExPost C L (F C s) w)
theorem Reads6.from_ {f m : Nat} {F : PC → PS → Ex × PS} (h : Reads6 f m F) {C : PC} {L : PL} {s : PS} {w0 w : World} {r : Ex × PS} (hM : Moved C L s w0 w) (hm : m ≤ s.deep) (hr : F C s = r) :
  Calls Try.prog f #[.pointer (some ⟨L.g, 0, none⟩)] w fun e w' => ∃ p, e = .returned (.pointer p) ∧ Moved C L r.2 w0 w' ∧ ExAt w' (Ge w0.heap.size) r.1 (.pointer p) ∧ Writes [some L.g] w w' := by
 subst hr
 refine (h C L w s hM.at_ hm).mono ?_
 rintro e w' ⟨p, rfl, h1, h2⟩
 exact ⟨p, rfl, hM.trans h1, h2.ge hM.wr.size, h1.wr⟩
/-- The k-th token's cells, its place known. -/
theorem Moved.tok {C : PC} {L : PL} {s : PS} {w0 w : World} (h : Moved C L s w0 w) {k b off : Nat} {x : Tok} (hx : C.tk[k]? = some x) (hA : L.A = some ⟨b, off, none⟩) :
  w.cell? ⟨b, off + k * 3, none⟩ = some (.int .i64 x.k) ∧ w.cell? ⟨b, off + k * 3 + 1, none⟩ = some (.string (strV x.t)) ∧ w.cell? ⟨b, off + k * 3 + 2, none⟩ = some (.int .i64 x.at_) := by
 obtain ⟨hk, rfl⟩ := List.getElem?_eq_some_iff.1 hx
 obtain ⟨b', off', hA', _, h1, h2, h3⟩ := h.at_.tok hk
 rw [hA] at hA'
 injection hA' with hA'
 injection hA' with e1 e2
 subst e1 e2
 exact ⟨h1, h2, h3⟩
theorem pair_of {α β : Type} {x : α × β} {a : α} (h : x.1 = a) : x = (a, x.2) := by rw [← h]
set_option maxRecDepth 100000 in
set_option maxHeartbeats 4000000 in
theorem un_step (m : Nat) (sum un : PC → PS → Ex × PS) (hsum : Reads6 62 (m + 1) sum) (hun : Reads6 92 (m + 1) un)
  (hs1 : ∀ C s, Stp C s (sum C s).2) (hs2 : ∀ C s, Stp C s (un C s).2) : Reads6 92 m (fun C => unF C (sum C) (un C)) := by
 intro C L w s hP hm
 obtain ⟨a0, d0, d1, d2, d3, d4, d5, d6, dfz⟩ := hP.facts
 obtain ⟨b1, b2, b3, b4, b5, b6, b7⟩ := hP.bounds
 have hM := Lib.hid (Moved.refl hP)
 have hlt0 := hP.lt
 show Calls _ _ _ _ (ExPost C L (unF C (sum C) (un C) s) w)
 obtain ⟨R, hR⟩ : ∃ x, x = unF C (sum C) (un C) s := ⟨_, rfl⟩
 rw [← hR]
 by_cases he : s.e = 0
 case neg =>
  have he' : ((s.e : Int) != 0) = true := by simp; omega
  have hF : Hid (R = (.nil, failF C 51 s)) := Lib.hid (by rw [hR]; unfold unF; rw [if_pos he])
  clear hP he hR
  go_enter Try.func92, Try.ntmps92
  go_wp2_with fail
  go_quiet (fail)
  go_wp2_with fail
  refine (fail_from (hM.out.below (below_drewN (Below.refl _ _) _)) 51 (by decide) rfl).mono ?_
  rintro e w1 ⟨rfl, h1, -⟩
  have h1 := Lib.hid h1
  clear a0 d0 d1 d2 d3 d4 d5 d6 dfz
  go_wp2_with fail
  go_ret
  rw [hF.out]
  exact ExPost.of h1.out (ExAt.nil_ _ _)
 have he' : ((s.e : Int) != 0) = false := by simp; omega
 by_cases hi : s.i < C.tk.length
 case neg =>
  have hi2 : decide (C.tk.length ≤ s.i) = true := by simpa using hi
  have hF : Hid (R = (.nil, failF C 51 s)) := Lib.hid (by rw [hR]; unfold unF; rw [if_neg (by omega), List.getElem?_eq_none (by omega)])
  clear hP he hR
  go_enter Try.func92, Try.ntmps92
  go_wp2_with fail
  go_quiet (fail)
  go_wp2_with fail
  refine (fail_from (hM.out.below (below_drewN (Below.refl _ _) _)) 51 (by decide) rfl).mono ?_
  rintro e w1 ⟨rfl, h1, -⟩
  have h1 := Lib.hid h1
  clear a0 d0 d1 d2 d3 d4 d5 d6 dfz
  go_wp2_with fail
  go_ret
  rw [hF.out]
  exact ExPost.of h1.out (ExAt.nil_ _ _)
 have hi2 : decide (C.tk.length ≤ s.i) = false := by simpa using hi
 have hx := List.getElem?_eq_getElem hi
 cases h45 : isF C [45] s with
 | true =>
  cases ho : (openF C s).1 with
  | false =>
   have hF : Hid (R = (.nil, (openF C s).2)) := Lib.hid (by rw [hR]; unfold unF; rw [if_neg (by omega), hx]; simp only [h45, ho]; rfl)
   have ho' := Lib.hid (pair_of ho)
   replace h45 := Lib.hid h45
   clear hP he hx hR ho
   go_enter Try.func92, Try.ntmps92
   go_wp2_with fail
   go_quiet (fail)
   go_wp2_with fail
   refine (is_from (hM.out.below (below_drewN (Below.refl _ _) _)) [45] h45.out).mono ?_
   rintro e w1 ⟨rfl, h1, -⟩
   clear a0 d0 d1 d2 d3 d4 d5 d6 dfz
   have h1 := Lib.hid h1
   go_wp2_with fail
   refine (open_from h1.out ho'.out).mono ?_
   rintro e w2 ⟨rfl, h2, -⟩
   have h2 := Lib.hid h2
   go_wp2_with fail
   go_ret
   rw [hF.out]
   exact ExPost.of h2.out (ExAt.nil_ _ _)
  | true =>
   obtain ⟨e1, _, hlt⟩ := openF_true ho
   obtain ⟨s2, hs2'⟩ : ∃ x, x = (openF C s).2 := ⟨_, rfl⟩
   obtain ⟨r, hr⟩ : ∃ x, x = un C s2.next := ⟨_, rfl⟩
   have hF : Hid (R = (.mk 7 0 [] r.1 .nil, r.2.shut)) := Lib.hid (by rw [hR, hr, hs2']; unfold unF; rw [if_neg (by omega), hx]; simp only [h45, ho]; rfl)
   have ho' : Hid (openF C s = (true, s2)) := Lib.hid (by rw [hs2']; exact pair_of ho)
   have hi3 : s2.i < C.tk.length := by rw [hs2', e1]; exact hi
   have hdp : m + 1 ≤ s2.next.deep := by rw [hs2', e1]; simp only [PS.next]; omega
   have hd1 : 1 ≤ r.2.deep := by rw [hr, (hs2 C s2.next).dp]; omega
   replace hr := Lib.hid hr
   replace h45 := Lib.hid h45
   clear hP he hx hR ho e1 hs2'
   go_enter Try.func92, Try.ntmps92
   go_wp2_with fail
   go_quiet (fail)
   go_wp2_with fail
   refine (is_from (hM.out.below (below_drewN (Below.refl _ _) _)) [45] h45.out).mono ?_
   rintro e w1 ⟨rfl, h1, -⟩
   clear a0 d0 d1 d2 d3 d4 d5 d6 dfz
   have h1 := Lib.hid h1
   go_wp2_with fail
   refine (open_from h1.out ho'.out).mono ?_
   rintro e w2 ⟨rfl, h2, -⟩
   obtain ⟨a0, d0, d1, d2, d3, d4, d5, d6, dfz⟩ := h2.facts
   have h2 := Lib.hid h2
   have hw1 := i64_next (i := s2.i) (by omega)
   go_wp2_with fail
   refine (hun.from_ (h2.out.next hi3) hdp hr.out.symm).mono ?_
   rintro e w3 ⟨p, rfl, h3, hE, -⟩
   clear a0 d0 d1 d2 d3 d4 d5 d6 dfz hw1 h2 h1
   obtain ⟨c1, c2, c3, c4, c5, c6, c7⟩ := h3.bounds
   obtain ⟨a0, d0, d1, d2, d3, d4, d5, d6, dfz⟩ := h3.facts
   have h3 := Lib.hid h3
   have hE := Lib.hid hE
   have hw1 := i64_pred hd1 (by omega)
   go_wp2_with fail
   go_ret
   rw [hF.out]
   have h4 := h3.out.shut hd1
   have hst : Writes [some L.g] w3 (w3.setCell ⟨L.g, 5, none⟩ (.int .i64 ((r.2.deep : Int) - 1))) := Writes.store w3 (by simp) _
   have hE2 := hE.out.pw hst hlt0
   exact ExPost.of (h4.below (below_new _ _)) (ExAt.new 7 0 [] (by decide) (by simp) (Nat.le_trans h3.out.wr.size hst.size) (setCell_size _ _ _).symm hE2 (ExAt.nil_ _ _))
 | false =>
  cases h40 : isF C [40] s with
  | true =>
   cases ho : (openF C s).1 with
   | false =>
    have hF : Hid (R = (.nil, (openF C s).2)) := Lib.hid (by rw [hR]; unfold unF; rw [if_neg (by omega), hx]; simp only [h45, h40, ho]; rfl)
    have ho' := Lib.hid (pair_of ho)
    replace h45 := Lib.hid h45
    replace h40 := Lib.hid h40
    clear hP he hx hR ho
    go_enter Try.func92, Try.ntmps92
    go_wp2_with fail
    go_quiet (fail)
    go_wp2_with fail
    refine (is_from (hM.out.below (below_drewN (Below.refl _ _) _)) [45] h45.out).mono ?_
    rintro e w1 ⟨rfl, h1, -⟩
    clear a0 d0 d1 d2 d3 d4 d5 d6 dfz
    have h1 := Lib.hid h1
    go_wp2_with fail
    refine (is_from h1.out [40] h40.out).mono ?_
    rintro e w2 ⟨rfl, h2, -⟩
    have h2 := Lib.hid h2
    go_wp2_with fail
    refine (open_from h2.out ho'.out).mono ?_
    rintro e w3 ⟨rfl, h3, -⟩
    have h3 := Lib.hid h3
    go_wp2_with fail
    go_ret
    rw [hF.out]
    exact ExPost.of h3.out (ExAt.nil_ _ _)
   | true =>
    obtain ⟨e1, _, hlt⟩ := openF_true ho
    obtain ⟨s2, hs2'⟩ : ∃ x, x = (openF C s).2 := ⟨_, rfl⟩
    obtain ⟨r, hr⟩ : ∃ x, x = sum C s2.next := ⟨_, rfl⟩
    obtain ⟨s3, hs3⟩ : ∃ x, x = wantF C [41] r.2 := ⟨_, rfl⟩
    have hF : Hid (R = (r.1, s3.shut)) := Lib.hid (by rw [hR, hs3, hr, hs2']; unfold unF; rw [if_neg (by omega), hx]; simp only [h45, h40, ho]; rfl)
    have ho' : Hid (openF C s = (true, s2)) := Lib.hid (by rw [hs2']; exact pair_of ho)
    have hi3 : s2.i < C.tk.length := by rw [hs2', e1]; exact hi
    have hdp : m + 1 ≤ s2.next.deep := by rw [hs2', e1]; simp only [PS.next]; omega
    have hd1 : 1 ≤ s3.deep := by rw [hs3, (Stp.want [41] r.2).dp, hr, (hs1 C s2.next).dp]; omega
    replace hr := Lib.hid hr
    replace hs3 := Lib.hid hs3
    replace h45 := Lib.hid h45
    replace h40 := Lib.hid h40
    clear hP he hx hR ho e1 hs2'
    go_enter Try.func92, Try.ntmps92
    go_wp2_with fail
    go_quiet (fail)
    go_wp2_with fail
    refine (is_from (hM.out.below (below_drewN (Below.refl _ _) _)) [45] h45.out).mono ?_
    rintro e w1 ⟨rfl, h1, -⟩
    clear a0 d0 d1 d2 d3 d4 d5 d6 dfz
    have h1 := Lib.hid h1
    go_wp2_with fail
    refine (is_from h1.out [40] h40.out).mono ?_
    rintro e w2 ⟨rfl, h2, -⟩
    have h2 := Lib.hid h2
    go_wp2_with fail
    refine (open_from h2.out ho'.out).mono ?_
    rintro e w3 ⟨rfl, h3, -⟩
    obtain ⟨a0, d0, d1, d2, d3, d4, d5, d6, dfz⟩ := h3.facts
    have h3 := Lib.hid h3
    have hw1 := i64_next (i := s2.i) (by omega)
    go_wp2_with fail
    refine (hsum.from_ (h3.out.next hi3) hdp hr.out.symm).mono ?_
    rintro e w4 ⟨p, rfl, h4, hE, -⟩
    clear a0 d0 d1 d2 d3 d4 d5 d6 dfz hw1 h2 h1 h3
    have h4 := Lib.hid h4
    have hE := Lib.hid hE
    go_wp2_with fail
    refine (want_from h4.out [41] hs3.out.symm).mono ?_
    rintro e w5 ⟨rfl, h5, hW5⟩
    have hE5 := Lib.hid (hE.out.pw hW5 hlt0)
    clear hW5 hE h4
    obtain ⟨c1, c2, c3, c4, c5, c6, c7⟩ := h5.bounds
    obtain ⟨a0, d0, d1, d2, d3, d4, d5, d6, dfz⟩ := h5.facts
    have h5 := Lib.hid h5
    have hw1 := i64_pred hd1 (by omega)
    go_wp2_with fail
    go_ret
    rw [hF.out]
    have h6 := h5.out.shut hd1
    have hst : Writes [some L.g] w5 (w5.setCell ⟨L.g, 5, none⟩ (.int .i64 ((s3.deep : Int) - 1))) := Writes.store w5 (by simp) _
    exact ExPost.of h6 (hE5.out.pw hst hlt0)
  | false =>
   obtain ⟨x, hxx⟩ : ∃ x, x = C.tk[s.i] := ⟨_, rfl⟩
   have hxt := (hP.fit.txt _ (List.getElem_mem hi))
   obtain ⟨b, off, hA, hbg, t0, t1, t2⟩ := hP.tok hi
   rw [← hxx] at hx hxt t0 t1 t2
   by_cases hx1 : x.k = 1
   ·have hF : Hid (R = (.mk 0 (numF x.t 0) [] .nil .nil, s.next)) := Lib.hid (by rw [hR]; unfold unF; rw [if_neg (by omega), hx]; simp only [h45, h40, hx1]; rfl)
    replace h45 := Lib.hid h45
    replace h40 := Lib.hid h40
    have hx1' : ((x.k : Int) == 1) = true := by simp; omega
    replace hx := Lib.hid hx
    clear hP he hR hxx hx1
    go_enter Try.func92, Try.ntmps92
    go_wp2_with fail
    go_quiet (fail)
    go_wp2_with fail
    refine (is_from (hM.out.below (below_drewN (Below.refl _ _) _)) [45] h45.out).mono ?_
    rintro e w1 ⟨rfl, h1, -⟩
    clear a0 d0 d1 d2 d3 d4 d5 d6 dfz t0 t1 t2
    have h1 := Lib.hid h1
    go_wp2_with fail
    refine (is_from h1.out [40] h40.out).mono ?_
    rintro e w2 ⟨rfl, h2, -⟩
    obtain ⟨a0, d0, d1, d2, d3, d4, d5, d6, dfz⟩ := h2.facts
    obtain ⟨t0, t1, t2⟩ := h2.tok hx.out hA
    have h2 := Lib.hid h2
    clear h1
    go_wp2_with fail
    go_quiet (fail)
    have h3 := h2.out.below (below_drewN (Below.refl _ w2) nq)
    obtain ⟨w3, hw3⟩ : ∃ x, x = w2.drewN nq := ⟨_, rfl⟩
    rw [← hw3] at h3 ⊢
    clear hw3 a0 d0 d1 d2 d3 d4 d5 d6 dfz t0 t1 t2 h2
    obtain ⟨a0, d0, d1, d2, d3, d4, d5, d6, dfz⟩ := h3.facts
    have h4 := h3.next hi
    obtain ⟨w4, hw4⟩ : ∃ x, x = w3.setCell ⟨L.g, 1, none⟩ (.int .i64 ((s.i : Int) + 1)) := ⟨_, rfl⟩
    rw [← hw4] at h4
    have hw1 := i64_next (i := s.i) (by omega)
    go_wp2_with fail
    rw [← hw4]
    clear hw4 a0 d0 d1 d2 d3 d4 d5 d6 dfz h3 hw1
    obtain ⟨a0, d0, d1, d2, d3, d4, d5, d6, dfz⟩ := h4.facts
    obtain ⟨t0, t1, t2⟩ := h4.tok hx.out hA
    have e1 : ((s.next.i : Nat) : Int) = (s.i : Int) + 1 := by simp [PS.next]
    rw [e1] at d1
    clear e1
    have h4 := Lib.hid h4
    have hsub : IntKind.i64.wrap ((s.i : Int) + 1 - 1) = (s.i : Int) := by rw [IntWalk.i64_in _ (by omega)]; omega
    have hsub2 : IntKind.i64.wrap (s.i : Int) = (s.i : Int) := IntWalk.i64_in _ (by omega)
    have hnum := number_any w4.drew (strV x.t) (by rw [strV_size]; exact hxt.1)
    go_still_tail 12, (by kernel_rfl)
    have h5 := Lib.hid (h4.out.below (Below.refl _ w4).drew)
    change wpList _ _ _ _ _ w4.drew
    obtain ⟨w5, hw5⟩ : ∃ x, x = w4.drew := ⟨_, rfl⟩
    rw [← hw5] at h5 hnum ⊢
    clear hw5 a0 d0 d1 d2 d3 d4 d5 d6 dfz t0 t1 t2 h4 hsub hsub2
    go_wp2_with fail
    refine hnum.mono ?_
    clear hnum
    rintro e w6 ⟨rfl, hw6⟩
    subst hw6
    go_wp2_with fail
    go_ret
    rw [hF.out]
    exact ExPost.of (h5.out.below (below_new _ _)) (ExAt.new 0 (numF x.t 0) [] (by decide) (by simp) h5.out.wr.size rfl (ExAt.nil_ _ _) (ExAt.nil_ _ _))
   ·cases hn : namedF C s with
    | true =>
     obtain ⟨nm, hnm⟩ : ∃ y, y = (nameF C s).1 := ⟨_, rfl⟩
     obtain ⟨s2, hs2'⟩ : ∃ y, y = (nameF C s).2 := ⟨_, rfl⟩
     have hnf : Hid (nameF C s = (nm, s2)) := Lib.hid (by rw [hnm, hs2'])
     have hF : Hid (R = (.mk 1 0 nm .nil .nil, s2)) := Lib.hid (by rw [hR, hnm, hs2']; unfold unF; rw [if_neg (by omega), hx]; simp only [h45, h40, hx1, hn]; rfl)
     replace h45 := Lib.hid h45
     replace h40 := Lib.hid h40
     replace hn := Lib.hid hn
     replace hx := Lib.hid hx
     have hx1' : ((x.k : Int) == 1) = false := by simp; omega
     clear hP he hR hxx hx1 hnm hs2'
     go_enter Try.func92, Try.ntmps92
     go_wp2_with fail
     go_quiet (fail)
     go_wp2_with fail
     refine (is_from (hM.out.below (below_drewN (Below.refl _ _) _)) [45] h45.out).mono ?_
     rintro e w1 ⟨rfl, h1, -⟩
     clear a0 d0 d1 d2 d3 d4 d5 d6 dfz t0 t1 t2
     have h1 := Lib.hid h1
     go_wp2_with fail
     refine (is_from h1.out [40] h40.out).mono ?_
     rintro e w2 ⟨rfl, h2, -⟩
     obtain ⟨a0, d0, d1, d2, d3, d4, d5, d6, dfz⟩ := h2.facts
     obtain ⟨t0, t1, t2⟩ := h2.tok hx.out hA
     have h2 := Lib.hid h2
     clear h1
     go_wp2_with fail
     go_quiet (fail)
     go_wp2_with fail
     refine (named_from (h2.out.below (below_drewN (Below.refl _ _) _)) hn.out).mono ?_
     rintro e w3 ⟨rfl, h3, -⟩
     clear a0 d0 d1 d2 d3 d4 d5 d6 dfz t0 t1 t2 h2
     have h3 := Lib.hid h3
     go_wp2_with fail
     refine (name_from h3.out hnf.out).mono ?_
     rintro e w4 ⟨rfl, h4, hl, -⟩
     have h4 := Lib.hid h4
     clear h3
     go_wp2_with fail
     go_ret
     rw [hF.out]
     exact ExPost.of (h4.out.below (below_new _ _)) (ExAt.new 1 0 nm (by decide) hl h4.out.wr.size rfl (ExAt.nil_ _ _) (ExAt.nil_ _ _))
    | false =>
     have hF : Hid (R = (.nil, failF C 51 s)) := Lib.hid (by rw [hR]; unfold unF; rw [if_neg (by omega), hx]; simp only [h45, h40, hx1, hn]; rfl)
     replace h45 := Lib.hid h45
     replace h40 := Lib.hid h40
     replace hn := Lib.hid hn
     replace hx := Lib.hid hx
     have hx1' : ((x.k : Int) == 1) = false := by simp; omega
     clear hP he hR hxx hx1
     go_enter Try.func92, Try.ntmps92
     go_wp2_with fail
     go_quiet (fail)
     go_wp2_with fail
     refine (is_from (hM.out.below (below_drewN (Below.refl _ _) _)) [45] h45.out).mono ?_
     rintro e w1 ⟨rfl, h1, -⟩
     clear a0 d0 d1 d2 d3 d4 d5 d6 dfz t0 t1 t2
     have h1 := Lib.hid h1
     go_wp2_with fail
     refine (is_from h1.out [40] h40.out).mono ?_
     rintro e w2 ⟨rfl, h2, -⟩
     obtain ⟨a0, d0, d1, d2, d3, d4, d5, d6, dfz⟩ := h2.facts
     obtain ⟨t0, t1, t2⟩ := h2.tok hx.out hA
     have h2 := Lib.hid h2
     clear h1
     go_wp2_with fail
     go_quiet (fail)
     go_wp2_with fail
     refine (named_from (h2.out.below (below_drewN (Below.refl _ _) _)) hn.out).mono ?_
     rintro e w3 ⟨rfl, h3, -⟩
     clear a0 d0 d1 d2 d3 d4 d5 d6 dfz t0 t1 t2 h2
     have h3 := Lib.hid h3
     go_wp2_with fail
     refine (fail_from h3.out 51 (by decide) rfl).mono ?_
     rintro e w4 ⟨rfl, h4, -⟩
     have h4 := Lib.hid h4
     clear h3
     go_wp2_with fail
     go_ret
     rw [hF.out]
     exact ExPost.of h4.out (ExAt.nil_ _ _)
end Go.Proofs.Ytpndglghpojjkaa
/- The walks of products and sums. -/
namespace Go.Proofs.Ytpndglghpojjkaa
open Go.RowKit Go.Deep

/-- How much a parser may yet go on. -/
def left6 (L : PL) (w : World) : Nat := 5000 - (intOf ((w.cell? ⟨L.g, 1, none⟩).getD undef)).toNat
theorem Moved.left {C : PC} {L : PL} {s : PS} {w0 w : World} (h : Moved C L s w0 w) : left6 L w = 5000 - s.i := by
 obtain ⟨a0, d0, d1, d2, d3, d4, d5, d6, dfz⟩ := h.facts
 unfold left6
 rw [d1]
 simp [intOf]
/-- A loop that reads more parts: how it stands. -/
structure MoreL (C : PC) (L : PL) (kf : PS → Nat) (part : PS → Ex × PS) (m : Nat) (R : Ex × PS) (f : Nat) (a : Ex) (s : PS) (p : Option Addr) (w0 w : World) : Prop where
 eq : moreL kf part f a s = R
 fuel : C.tk.length < s.i + f
 dp : m ≤ s.deep
 mv : Moved C L s w0 w
 tree : ExAt w (Ge w0.heap.size) a (.pointer p)
theorem MoreL.stop {C : PC} {L : PL} {kf : PS → Nat} {part : PS → Ex × PS} {m : Nat} {R : Ex × PS} {f : Nat} {a : Ex} {s : PS} {p : Option Addr} {w0 w : World} (h : MoreL C L kf part m R f a s p w0 w) (hs : s.e ≠ 0 ∨ kf s = 0) : R = (a, s) := by
 rw [← h.eq]
 cases f with
 | zero => rfl
 | succ f =>
  unfold moreL
  rcases hs with hs | hs
  ·rw [if_pos hs]
  ·by_cases he : s.e ≠ 0
   ·rw [if_pos he]
   ·rw [if_neg he, if_pos hs]
theorem MoreL.go_ {C : PC} {L : PL} {kf : PS → Nat} {part : PS → Ex × PS} {m : Nat} {R : Ex × PS} {f : Nat} {a : Ex} {s : PS} {p : Option Addr} {w0 w : World} (h : MoreL C L kf part m R f a s p w0 w) (he : s.e = 0) {k : Nat} (hk : kf s = k) (hk0 : k ≠ 0) (hi : s.i < C.tk.length) (hp : ∀ s, Stp C s (part s).2) :
  ∃ f', moreL kf part f' (.mk k 0 [] a (part s.next).1) (part s.next).2 = R ∧ C.tk.length < (part s.next).2.i + f' ∧ m ≤ (part s.next).2.deep ∧ s.i + 1 ≤ (part s.next).2.i := by
 subst hk
 have hi2 := (hp s.next).i1
 have hd := (hp s.next).dp
 have hf := h.fuel
 have hdp := h.dp
 simp only [PS.next] at hi2 hd
 cases f with
 | zero => omega
 | succ f =>
  refine ⟨f, ?_, by simp only [PS.next]; omega, by simp only [PS.next]; omega, hi2⟩
  rw [← h.eq]
  conv => rhs; unfold moreL
  rw [if_neg (by omega), if_neg hk0]
set_option maxRecDepth 100000 in
set_option maxHeartbeats 4000000 in
theorem prod_step (m : Nat) (un : PC → PS → Ex × PS) (hun : Reads6 92 m un) (hs : ∀ C s, Stp C s (un C s).2) : Reads6 78 m (fun C => prodF C (un C)) := by
 intro C L w s hP hm
 have hM := Lib.hid (Moved.refl hP)
 have hlt0 := hP.lt
 have hlen := hP.fit.len
 show Calls _ _ _ _ (ExPost C L (prodF C (un C) s) w)
 obtain ⟨R, hR⟩ : ∃ x, x = prodF C (un C) s := ⟨_, rfl⟩
 rw [← hR]
 obtain ⟨r, hr⟩ : ∃ x, x = un C s := ⟨_, rfl⟩
 have hd := (hs C s).dp
 rw [← hr] at hd
 have hR2 : Hid (moreL (prodK C) (un C) (C.tk.length + 1) r.1 r.2 = R) := Lib.hid (by subst hr; exact hR.symm)
 have hdm : m ≤ r.2.deep := by omega
 replace hr := Lib.hid hr
 clear hP hR hd
 go_enter Try.func78, Try.ntmps78
 go_wp2_with fail
 refine (hun.from_ hM.out hm hr.out.symm).mono ?_
 rintro e w1 ⟨p, rfl, h1, hE, -⟩
 have hL1 : Hid (MoreL C L (prodK C) (un C) m R (C.tk.length + 1) r.1 r.2 p w w1) := Lib.hid ⟨hR2.out, by omega, hdm, h1, hE⟩
 clear h1 hE hR2 hr hdm
 go_wp2_with fail
 go_loopw [3] (fun av wr => ∃ (f : Nat) (a : Ex) (t : PS) (p : Option Addr), av = .pointer p ∧ Hid (MoreL C L (prodK C) (un C) m R f a t p w wr)) (fun _ wr => left6 L wr)
 case atStart => exact ⟨_, _, _, p, rfl, hL1⟩
 clear hL1
 obtain ⟨f, a, t, q, rfl, hL⟩ := hrel
 obtain ⟨a0, d0, d1, d2, d3, d4, d5, d6, dfz⟩ := hL.out.mv.facts
 obtain ⟨b1, b2, b3, b4, b5, b6, b7⟩ := hL.out.mv.bounds
 by_cases he : t.e = 0
 case neg =>
  have he' : ((t.e : Int) == 0) = false := by simp; omega
  have hF := Lib.hid (hL.out.stop (.inl he))
  go_wp2_with fail
  go_ret
  rw [hF.out]
  exact ExPost.of hL.out.mv hL.out.tree
 have he' : ((t.e : Int) == 0) = true := by simp; omega
 have he0 := Lib.hid he
 clear he
 cases h42 : isF C [42] t with
 | true =>
  have hk : prodK C t = 4 := by unfold prodK; simp [h42]
  replace h42 := Lib.hid h42
  have hi := isF_lt h42.out
  obtain ⟨f', hE1, hE2, hE3, hE4⟩ := hL.out.go_ he0.out hk (by decide) hi (hs C)
  obtain ⟨r, hr⟩ : ∃ x, x = un C t.next := ⟨_, rfl⟩
  rw [← hr] at hE1 hE2 hE3 hE4
  replace hr := Lib.hid hr
  replace hE1 := Lib.hid hE1
  clear hk
  go_wp2_with fail
  refine (is_from hL.out.mv [42] h42.out).mono ?_
  rintro e v0 ⟨rfl, hV0, hW0⟩
  have hT0 := Lib.hid (ExAt.pw (hL.out.tree) hW0 hlt0)
  clear hW0
  clear a0 d0 d1 d2 d3 d4 d5 d6 dfz
  obtain ⟨a0, d0, d1, d2, d3, d4, d5, d6, dfz⟩ := hV0.facts
  replace hV0 := Lib.hid hV0
  have hw1 := i64_next (i := t.i) (by omega)
  go_wp2_with fail
  have hst : Writes [some L.g] v0 (v0.setCell ⟨L.g, 1, none⟩ (.int .i64 ((t.i : Int) + 1))) := Writes.store v0 (by simp) _
  have hTs := Lib.hid (hT0.out.pw hst hlt0)
  refine (hun.from_ (hV0.out.next hi) (by have := hL.out.dp; simpa [PS.next] using this) hr.out.symm).mono ?_
  rintro e w2 ⟨p2, rfl, h2, hE, hW2⟩
  clear a0 d0 d1 d2 d3 d4 d5 d6 dfz hst
  have hTa := hTs.out.pw hW2 hlt0
  have hL2 : Hid (MoreL C L (prodK C) (un C) m R f' (.mk 4 0 [] a r.1) r.2 (some ⟨w2.heap.size, 0, none⟩) w (w2.alloc (.cells #[.int .i64 4, .int .i64 0, .string ⟨#[]⟩, .pointer q, .pointer p2] 117))) :=
   Lib.hid ⟨hE1.out, hE2, hE3, h2.below (below_new _ _), ExAt.new 4 0 [] (by decide) (by simp) h2.wr.size rfl hTa hE⟩
  have hm1 := hL.out.mv.left
  have hm2 := hL2.out.mv.left
  have hb2 := hL2.out.mv.bounds.2.2.1
  clear hTa h2 hE hW2 hE1 hTs
  go_wp2_with fail
  exact ⟨⟨_, _, _, _, rfl, hL2⟩, by rw [hm1, hm2]; omega⟩
 | false =>
  cases h47 : isF C [47] t with
  | true =>
   have hk : prodK C t = 5 := by unfold prodK; simp [h42, h47]
   replace h42 := Lib.hid h42
   replace h47 := Lib.hid h47
   have hi := isF_lt h47.out
   obtain ⟨f', hE1, hE2, hE3, hE4⟩ := hL.out.go_ he0.out hk (by decide) hi (hs C)
   obtain ⟨r, hr⟩ : ∃ x, x = un C t.next := ⟨_, rfl⟩
   rw [← hr] at hE1 hE2 hE3 hE4
   replace hr := Lib.hid hr
   replace hE1 := Lib.hid hE1
   clear hk
   go_wp2_with fail
   refine (is_from hL.out.mv [42] h42.out).mono ?_
   rintro e v0 ⟨rfl, hV0, hW0⟩
   have hT0 := Lib.hid (ExAt.pw (hL.out.tree) hW0 hlt0)
   clear hW0
   clear a0 d0 d1 d2 d3 d4 d5 d6 dfz
   replace hV0 := Lib.hid hV0
   go_wp2_with fail
   refine (is_from hV0.out [47] h47.out).mono ?_
   rintro e v1 ⟨rfl, hV1, hW1⟩
   have hT1 := Lib.hid (ExAt.pw (hT0.out) hW1 hlt0)
   clear hW1
   obtain ⟨a0, d0, d1, d2, d3, d4, d5, d6, dfz⟩ := hV1.facts
   replace hV1 := Lib.hid hV1
   have hw1 := i64_next (i := t.i) (by omega)
   go_wp2_with fail
   have hst : Writes [some L.g] v1 (v1.setCell ⟨L.g, 1, none⟩ (.int .i64 ((t.i : Int) + 1))) := Writes.store v1 (by simp) _
   have hTs := Lib.hid (hT1.out.pw hst hlt0)
   refine (hun.from_ (hV1.out.next hi) (by have := hL.out.dp; simpa [PS.next] using this) hr.out.symm).mono ?_
   rintro e w2 ⟨p2, rfl, h2, hE, hW2⟩
   clear a0 d0 d1 d2 d3 d4 d5 d6 dfz hst
   have hTa := hTs.out.pw hW2 hlt0
   have hL2 : Hid (MoreL C L (prodK C) (un C) m R f' (.mk 5 0 [] a r.1) r.2 (some ⟨w2.heap.size, 0, none⟩) w (w2.alloc (.cells #[.int .i64 5, .int .i64 0, .string ⟨#[]⟩, .pointer q, .pointer p2] 117))) :=
    Lib.hid ⟨hE1.out, hE2, hE3, h2.below (below_new _ _), ExAt.new 5 0 [] (by decide) (by simp) h2.wr.size rfl hTa hE⟩
   have hm1 := hL.out.mv.left
   have hm2 := hL2.out.mv.left
   have hb2 := hL2.out.mv.bounds.2.2.1
   clear hTa h2 hE hW2 hE1 hTs
   go_wp2_with fail
   exact ⟨⟨_, _, _, _, rfl, hL2⟩, by rw [hm1, hm2]; omega⟩
  | false =>
   cases h37 : isF C [37] t with
   | true =>
    have hk : prodK C t = 6 := by unfold prodK; simp [h42, h47, h37]
    replace h42 := Lib.hid h42
    replace h47 := Lib.hid h47
    replace h37 := Lib.hid h37
    have hi := isF_lt h37.out
    obtain ⟨f', hE1, hE2, hE3, hE4⟩ := hL.out.go_ he0.out hk (by decide) hi (hs C)
    obtain ⟨r, hr⟩ : ∃ x, x = un C t.next := ⟨_, rfl⟩
    rw [← hr] at hE1 hE2 hE3 hE4
    replace hr := Lib.hid hr
    replace hE1 := Lib.hid hE1
    clear hk
    go_wp2_with fail
    refine (is_from hL.out.mv [42] h42.out).mono ?_
    rintro e v0 ⟨rfl, hV0, hW0⟩
    have hT0 := Lib.hid (ExAt.pw (hL.out.tree) hW0 hlt0)
    clear hW0
    clear a0 d0 d1 d2 d3 d4 d5 d6 dfz
    replace hV0 := Lib.hid hV0
    go_wp2_with fail
    refine (is_from hV0.out [47] h47.out).mono ?_
    rintro e v1 ⟨rfl, hV1, hW1⟩
    have hT1 := Lib.hid (ExAt.pw (hT0.out) hW1 hlt0)
    clear hW1
    replace hV1 := Lib.hid hV1
    go_wp2_with fail
    refine (is_from hV1.out [37] h37.out).mono ?_
    rintro e v2 ⟨rfl, hV2, hW2⟩
    have hT2 := Lib.hid (ExAt.pw (hT1.out) hW2 hlt0)
    clear hW2
    obtain ⟨a0, d0, d1, d2, d3, d4, d5, d6, dfz⟩ := hV2.facts
    replace hV2 := Lib.hid hV2
    have hw1 := i64_next (i := t.i) (by omega)
    go_wp2_with fail
    have hst : Writes [some L.g] v2 (v2.setCell ⟨L.g, 1, none⟩ (.int .i64 ((t.i : Int) + 1))) := Writes.store v2 (by simp) _
    have hTs := Lib.hid (hT2.out.pw hst hlt0)
    refine (hun.from_ (hV2.out.next hi) (by have := hL.out.dp; simpa [PS.next] using this) hr.out.symm).mono ?_
    rintro e w2 ⟨p2, rfl, h2, hE, hW2⟩
    clear a0 d0 d1 d2 d3 d4 d5 d6 dfz hst
    have hTa := hTs.out.pw hW2 hlt0
    have hL2 : Hid (MoreL C L (prodK C) (un C) m R f' (.mk 6 0 [] a r.1) r.2 (some ⟨w2.heap.size, 0, none⟩) w (w2.alloc (.cells #[.int .i64 6, .int .i64 0, .string ⟨#[]⟩, .pointer q, .pointer p2] 117))) :=
     Lib.hid ⟨hE1.out, hE2, hE3, h2.below (below_new _ _), ExAt.new 6 0 [] (by decide) (by simp) h2.wr.size rfl hTa hE⟩
    have hm1 := hL.out.mv.left
    have hm2 := hL2.out.mv.left
    have hb2 := hL2.out.mv.bounds.2.2.1
    clear hTa h2 hE hW2 hE1 hTs
    go_wp2_with fail
    exact ⟨⟨_, _, _, _, rfl, hL2⟩, by rw [hm1, hm2]; omega⟩
   | false =>
    have hk : prodK C t = 0 := by unfold prodK; simp [h42, h47, h37]
    have hF := Lib.hid (hL.out.stop (.inr hk))
    clear hk
    replace h42 := Lib.hid h42
    replace h47 := Lib.hid h47
    replace h37 := Lib.hid h37
    go_wp2_with fail
    refine (is_from hL.out.mv [42] h42.out).mono ?_
    rintro e v0 ⟨rfl, hV0, hW0⟩
    have hT0 := Lib.hid (ExAt.pw (hL.out.tree) hW0 hlt0)
    clear hW0
    replace hV0 := Lib.hid hV0
    clear a0 d0 d1 d2 d3 d4 d5 d6 dfz
    go_wp2_with fail
    refine (is_from hV0.out [47] h47.out).mono ?_
    rintro e v1 ⟨rfl, hV1, hW1⟩
    have hT1 := Lib.hid (ExAt.pw (hT0.out) hW1 hlt0)
    clear hW1
    replace hV1 := Lib.hid hV1
    go_wp2_with fail
    refine (is_from hV1.out [37] h37.out).mono ?_
    rintro e v2 ⟨rfl, hV2, hW2⟩
    have hT2 := Lib.hid (ExAt.pw (hT1.out) hW2 hlt0)
    clear hW2
    replace hV2 := Lib.hid hV2
    go_wp2_with fail
    go_ret
    rw [hF.out]
    exact ExPost.of hV2.out hT2.out
set_option maxRecDepth 100000 in
set_option maxHeartbeats 4000000 in
theorem sum_step (m : Nat) (prod : PC → PS → Ex × PS) (hprod : Reads6 78 m prod) (hs : ∀ C s, Stp C s (prod C s).2) : Reads6 62 m (fun C s => moreL (sumK C) (prod C) (C.tk.length + 1) (prod C s).1 (prod C s).2) := by
 intro C L w s hP hm
 have hM := Lib.hid (Moved.refl hP)
 have hlt0 := hP.lt
 have hlen := hP.fit.len
 show Calls _ _ _ _ (ExPost C L (moreL (sumK C) (prod C) (C.tk.length + 1) (prod C s).1 (prod C s).2) w)
 obtain ⟨R, hR⟩ : ∃ x, x = moreL (sumK C) (prod C) (C.tk.length + 1) (prod C s).1 (prod C s).2 := ⟨_, rfl⟩
 rw [← hR]
 obtain ⟨r, hr⟩ : ∃ x, x = prod C s := ⟨_, rfl⟩
 have hd := (hs C s).dp
 rw [← hr] at hd
 have hR2 : Hid (moreL (sumK C) (prod C) (C.tk.length + 1) r.1 r.2 = R) := Lib.hid (by subst hr; exact hR.symm)
 have hdm : m ≤ r.2.deep := by omega
 replace hr := Lib.hid hr
 clear hP hR hd
 go_enter Try.func62, Try.ntmps62
 go_wp2_with fail
 refine (hprod.from_ hM.out hm hr.out.symm).mono ?_
 rintro e w1 ⟨p, rfl, h1, hE, -⟩
 have hL1 : Hid (MoreL C L (sumK C) (prod C) m R (C.tk.length + 1) r.1 r.2 p w w1) := Lib.hid ⟨hR2.out, by omega, hdm, h1, hE⟩
 clear h1 hE hR2 hr hdm
 go_wp2_with fail
 go_loopw [3] (fun av wr => ∃ (f : Nat) (a : Ex) (t : PS) (p : Option Addr), av = .pointer p ∧ Hid (MoreL C L (sumK C) (prod C) m R f a t p w wr)) (fun _ wr => left6 L wr)
 case atStart => exact ⟨_, _, _, p, rfl, hL1⟩
 clear hL1
 obtain ⟨f, a, t, q, rfl, hL⟩ := hrel
 obtain ⟨a0, d0, d1, d2, d3, d4, d5, d6, dfz⟩ := hL.out.mv.facts
 obtain ⟨b1, b2, b3, b4, b5, b6, b7⟩ := hL.out.mv.bounds
 by_cases he : t.e = 0
 case neg =>
  have he' : ((t.e : Int) == 0) = false := by simp; omega
  have hF := Lib.hid (hL.out.stop (.inl he))
  go_wp2_with fail
  go_ret
  rw [hF.out]
  exact ExPost.of hL.out.mv hL.out.tree
 have he' : ((t.e : Int) == 0) = true := by simp; omega
 have he0 := Lib.hid he
 clear he
 cases h45 : isF C [45] t with
 | true =>
  have hk : sumK C t = 3 := by unfold sumK; simp [h45]
  replace h45 := Lib.hid h45
  have hi := isF_lt h45.out
  obtain ⟨f', hE1, hE2, hE3, hE4⟩ := hL.out.go_ he0.out hk (by decide) hi (hs C)
  obtain ⟨r, hr⟩ : ∃ x, x = prod C t.next := ⟨_, rfl⟩
  rw [← hr] at hE1 hE2 hE3 hE4
  replace hr := Lib.hid hr
  replace hE1 := Lib.hid hE1
  clear hk
  go_wp2_with fail
  refine (is_from hL.out.mv [45] h45.out).mono ?_
  rintro e v0 ⟨rfl, hV0, hW0⟩
  have hT0 := Lib.hid (ExAt.pw (hL.out.tree) hW0 hlt0)
  clear hW0
  clear a0 d0 d1 d2 d3 d4 d5 d6 dfz
  obtain ⟨a0, d0, d1, d2, d3, d4, d5, d6, dfz⟩ := hV0.facts
  replace hV0 := Lib.hid hV0
  have hw1 := i64_next (i := t.i) (by omega)
  go_wp2_with fail
  have hst : Writes [some L.g] v0 (v0.setCell ⟨L.g, 1, none⟩ (.int .i64 ((t.i : Int) + 1))) := Writes.store v0 (by simp) _
  have hTs := Lib.hid (hT0.out.pw hst hlt0)
  refine (hprod.from_ (hV0.out.next hi) (by have := hL.out.dp; simpa [PS.next] using this) hr.out.symm).mono ?_
  rintro e w2 ⟨p2, rfl, h2, hE, hW2⟩
  clear a0 d0 d1 d2 d3 d4 d5 d6 dfz hst
  have hTa := hTs.out.pw hW2 hlt0
  have hL2 : Hid (MoreL C L (sumK C) (prod C) m R f' (.mk 3 0 [] a r.1) r.2 (some ⟨w2.heap.size, 0, none⟩) w (w2.alloc (.cells #[.int .i64 3, .int .i64 0, .string ⟨#[]⟩, .pointer q, .pointer p2] 117))) :=
   Lib.hid ⟨hE1.out, hE2, hE3, h2.below (below_new _ _), ExAt.new 3 0 [] (by decide) (by simp) h2.wr.size rfl hTa hE⟩
  have hm1 := hL.out.mv.left
  have hm2 := hL2.out.mv.left
  have hb2 := hL2.out.mv.bounds.2.2.1
  clear hTa h2 hE hW2 hE1 hTs
  go_wp2_with fail
  exact ⟨⟨_, _, _, _, rfl, hL2⟩, by rw [hm1, hm2]; omega⟩
 | false =>
  cases h43 : isF C [43] t with
  | true =>
   have hk : sumK C t = 2 := by unfold sumK; simp [h45, h43]
   replace h45 := Lib.hid h45
   replace h43 := Lib.hid h43
   have hi := isF_lt h43.out
   obtain ⟨f', hE1, hE2, hE3, hE4⟩ := hL.out.go_ he0.out hk (by decide) hi (hs C)
   obtain ⟨r, hr⟩ : ∃ x, x = prod C t.next := ⟨_, rfl⟩
   rw [← hr] at hE1 hE2 hE3 hE4
   replace hr := Lib.hid hr
   replace hE1 := Lib.hid hE1
   clear hk
   go_wp2_with fail
   refine (is_from hL.out.mv [45] h45.out).mono ?_
   rintro e v0 ⟨rfl, hV0, hW0⟩
   have hT0 := Lib.hid (ExAt.pw (hL.out.tree) hW0 hlt0)
   clear hW0
   clear a0 d0 d1 d2 d3 d4 d5 d6 dfz
   replace hV0 := Lib.hid hV0
   go_wp2_with fail
   refine (is_from hV0.out [43] h43.out).mono ?_
   rintro e v1 ⟨rfl, hV1, hW1⟩
   have hT1 := Lib.hid (ExAt.pw (hT0.out) hW1 hlt0)
   clear hW1
   obtain ⟨a0, d0, d1, d2, d3, d4, d5, d6, dfz⟩ := hV1.facts
   replace hV1 := Lib.hid hV1
   have hw1 := i64_next (i := t.i) (by omega)
   go_wp2_with fail
   have hst : Writes [some L.g] v1 (v1.setCell ⟨L.g, 1, none⟩ (.int .i64 ((t.i : Int) + 1))) := Writes.store v1 (by simp) _
   have hTs := Lib.hid (hT1.out.pw hst hlt0)
   refine (hprod.from_ (hV1.out.next hi) (by have := hL.out.dp; simpa [PS.next] using this) hr.out.symm).mono ?_
   rintro e w2 ⟨p2, rfl, h2, hE, hW2⟩
   clear a0 d0 d1 d2 d3 d4 d5 d6 dfz hst
   have hTa := hTs.out.pw hW2 hlt0
   have hL2 : Hid (MoreL C L (sumK C) (prod C) m R f' (.mk 2 0 [] a r.1) r.2 (some ⟨w2.heap.size, 0, none⟩) w (w2.alloc (.cells #[.int .i64 2, .int .i64 0, .string ⟨#[]⟩, .pointer q, .pointer p2] 117))) :=
    Lib.hid ⟨hE1.out, hE2, hE3, h2.below (below_new _ _), ExAt.new 2 0 [] (by decide) (by simp) h2.wr.size rfl hTa hE⟩
   have hm1 := hL.out.mv.left
   have hm2 := hL2.out.mv.left
   have hb2 := hL2.out.mv.bounds.2.2.1
   clear hTa h2 hE hW2 hE1 hTs
   go_wp2_with fail
   exact ⟨⟨_, _, _, _, rfl, hL2⟩, by rw [hm1, hm2]; omega⟩
  | false =>
   have hk : sumK C t = 0 := by unfold sumK; simp [h45, h43]
   have hF := Lib.hid (hL.out.stop (.inr hk))
   clear hk
   replace h45 := Lib.hid h45
   replace h43 := Lib.hid h43
   go_wp2_with fail
   refine (is_from hL.out.mv [45] h45.out).mono ?_
   rintro e v0 ⟨rfl, hV0, hW0⟩
   have hT0 := Lib.hid (ExAt.pw (hL.out.tree) hW0 hlt0)
   clear hW0
   replace hV0 := Lib.hid hV0
   clear a0 d0 d1 d2 d3 d4 d5 d6 dfz
   go_wp2_with fail
   refine (is_from hV0.out [43] h43.out).mono ?_
   rintro e v1 ⟨rfl, hV1, hW1⟩
   have hT1 := Lib.hid (ExAt.pw (hT0.out) hW1 hlt0)
   clear hW1
   replace hV1 := Lib.hid hV1
   go_wp2_with fail
   go_ret
   rw [hF.out]
   exact ExPost.of hV1.out hT1.out
end Go.Proofs.Ytpndglghpojjkaa
/- Expressions are read as the plain parser reads them; trees of conditions in memory, and their walks. -/
namespace Go.Proofs.Ytpndglghpojjkaa
open Go.RowKit Go.Deep

theorem Reads6.vac (f : Nat) (F : PC → PS → Ex × PS) : Reads6 f 41 F := fun C L w s hP hm => absurd hP.ok.deep (by omega)
theorem exprs_all : ∀ d, d ≤ 40 → Reads6 92 (40 - d) (fun C => unD C d) ∧ Reads6 78 (40 - d) (fun C => prodD C d) ∧ Reads6 62 (40 - d) (fun C => sumD C d)
 | 0, _ => by
  have h1 : Reads6 92 40 (fun C => unD C 0) := un_step 40 (fun _ s => (.nil, s)) (fun _ s => (.nil, s)) (Reads6.vac _ _) (Reads6.vac _ _) (fun _ s => Stp.refl s) (fun _ s => Stp.refl s)
  have h2 : Reads6 78 40 (fun C => prodD C 0) := prod_step 40 (fun C => unD C 0) h1 (fun C s => unD_stp 0 s)
  exact ⟨h1, h2, sum_step 40 (fun C => prodD C 0) h2 (fun C s => prodD_stp 0 s)⟩
 | d + 1, hd => by
  obtain ⟨i1, i2, i3⟩ := exprs_all d (by omega)
  have e : 40 - d = 40 - (d + 1) + 1 := by omega
  rw [e] at i1 i2 i3
  have h1 : Reads6 92 (40 - (d + 1)) (fun C => unD C (d + 1)) := un_step _ (fun C => sumD C d) (fun C => unD C d) i3 i1 (fun C s => sumD_stp d s) (fun C s => unD_stp d s)
  have h2 : Reads6 78 (40 - (d + 1)) (fun C => prodD C (d + 1)) := prod_step _ (fun C => unD C (d + 1)) h1 (fun C s => unD_stp (d + 1) s)
  exact ⟨h1, h2, sum_step _ (fun C => prodD C (d + 1)) h2 (fun C s => prodD_stp (d + 1) s)⟩

/-- The condition c stands at v, in blocks of S. -/
def CnAt (w : World) (S : Nat → Prop) : Cn → Value → Prop
 | .nil, v => v = .pointer none
 | .mk k a b p q nm, v => ∃ g va vb vp vq, v = .pointer (some ⟨g, 0, none⟩) ∧ S g ∧ nm.length ≤ 4096 ∧ k ≤ 9 ∧
   Holds w g 122 #[.int .i64 k, va, vb, vp, vq, .string (strV nm)] ∧ ExAt w S a va ∧ ExAt w S b vb ∧ CnAt w S p vp ∧ CnAt w S q vq
theorem CnAt.keep {w w' : World} {S : Nat → Prop} (hk : ∀ x, x < w.heap.size → S x → w'.heap[x]? = w.heap[x]?) : ∀ {e : Cn} {v : Value}, CnAt w S e v → CnAt w' S e v
 | .nil, _, h => h
 | .mk _ _ _ _ _ _, _, h => by
  obtain ⟨g, va, vb, vp, vq, e, hS, hn, hk9, hH, ha, hb, hp, hq⟩ := h
  exact ⟨g, va, vb, vp, vq, e, hS, hn, hk9, (hk g hH.lt hS).trans hH, ha.keep hk, hb.keep hk, hp.keep hk, hq.keep hk⟩
theorem CnAt.mono {w : World} {S S' : Nat → Prop} (hk : ∀ x, x < w.heap.size → S x → S' x) : ∀ {e : Cn} {v : Value}, CnAt w S e v → CnAt w S' e v
 | .nil, _, h => h
 | .mk _ _ _ _ _ _, _, h => by
  obtain ⟨g, va, vb, vp, vq, e, hS, hn, hk9, hH, ha, hb, hp, hq⟩ := h
  exact ⟨g, va, vb, vp, vq, e, hk g hH.lt hS, hn, hk9, hH, ha.mono hk, hb.mono hk, hp.mono hk, hq.mono hk⟩
theorem CnAt.below {w w' : World} {S : Nat → Prop} {e : Cn} {v : Value} (h : CnAt w S e v) (hb : Below w.heap.size w w') : CnAt w' S e v := h.keep fun x hx _ => hb.block x hx
theorem CnAt.writes {w w' : World} {M : List (Option Nat)} {S : Nat → Prop} {e : Cn} {v : Value} (h : CnAt w S e v) (hW : Writes M w w') (hM : ∀ k, some k ∈ M → ¬ S k) : CnAt w' S e v := h.keep fun x hx hS => hW.block x hx fun e => hM x e hS
theorem CnAt.ge {w : World} {B B' : Nat} {e : Cn} {v : Value} (h : CnAt w (Ge B') e v) (hB : B ≤ B') : CnAt w (Ge B) e v := h.mono fun _ _ h => Nat.le_trans hB h
theorem CnAt.pw {w w' : World} {B g : Nat} {e : Cn} {v : Value} (h : CnAt w (Ge B) e v) (hW : Writes [some g] w w') (hg : g < B) : CnAt w' (Ge B) e v :=
 h.writes hW fun k hk hge => by simp at hk; subst hk; exact absurd hge (Nat.not_le_of_lt hg)
theorem CnAt.nil_ (w : World) (S : Nat → Prop) : CnAt w S .nil (.pointer none) := rfl
theorem CnAt.new {w : World} {B g : Nat} {a b : Ex} {p q : Cn} {va vb vp vq : Value} (k : Nat) (nm : List UInt8) (hk : k ≤ 9) (hn : nm.length ≤ 4096) (hB : B ≤ w.heap.size) (hg : g = w.heap.size) (ha : ExAt w (Ge B) a va) (hb : ExAt w (Ge B) b vb) (hp : CnAt w (Ge B) p vp) (hq : CnAt w (Ge B) q vq) :
  CnAt (w.alloc (.cells #[.int .i64 k, va, vb, vp, vq, .string (strV nm)] 122)) (Ge B) (.mk k a b p q nm) (.pointer (some ⟨g, 0, none⟩)) := by
 subst hg
 have hb' := below_new w (.cells #[.int .i64 k, va, vb, vp, vq, .string (strV nm)] 122)
 exact ⟨_, va, vb, vp, vq, rfl, hB, hn, hk, Holds.new _ _ _, ha.below hb', hb.below hb', hp.below hb', hq.below hb'⟩
/-- What a call that reads a condition leaves. -/
def CnPost (C : PC) (L : PL) (r : Cn × PS) (w : World) (e : Ending) (w' : World) : Prop := ∃ p, e = .returned (.pointer p) ∧ Moved C L r.2 w w' ∧ CnAt w' (Ge w.heap.size) r.1 (.pointer p)
theorem CnPost.of {C : PC} {L : PL} {r : Cn × PS} {w w' : World} {p : Option Addr} (h : Moved C L r.2 w w') (h2 : CnAt w' (Ge w.heap.size) r.1 (.pointer p)) : CnPost C L r w (.returned (.pointer p)) w' := ⟨p, rfl, h, h2⟩
def ReadsC (f : Nat) (m : Nat) (F : PC → PS → Cn × PS) : Prop := ∀ (C : PC) (L : PL) (w : World) (s : PS), PAt C L s w → m ≤ s.deep → Calls Try.prog f #[.pointer (some ⟨L.g, 0, none⟩)] w (CnPost C L (F C s) w)
theorem ReadsC.vac (f : Nat) (F : PC → PS → Cn × PS) : ReadsC f 41 F := fun C L w s hP hm => absurd hP.ok.deep (by omega)
theorem ReadsC.from_ {f m : Nat} {F : PC → PS → Cn × PS} (h : ReadsC f m F) {C : PC} {L : PL} {s : PS} {w0 w : World} {r : Cn × PS} (hM : Moved C L s w0 w) (hm : m ≤ s.deep) (hr : F C s = r) :
  Calls Try.prog f #[.pointer (some ⟨L.g, 0, none⟩)] w fun e w' => ∃ p, e = .returned (.pointer p) ∧ Moved C L r.2 w0 w' ∧ CnAt w' (Ge w0.heap.size) r.1 (.pointer p) ∧ Writes [some L.g] w w' := by
 subst hr
 refine (h C L w s hM.at_ hm).mono ?_
 rintro e w' ⟨p, rfl, h1, h2⟩
 exact ⟨p, rfl, hM.trans h1, h2.ge hM.wr.size, h1.wr⟩

/-- A loop that joins more conditions: how it stands. -/
structure JoinL (C : PC) (L : PL) (t : List UInt8) (k : Nat) (part : PS → Cn × PS) (m : Nat) (R : Cn × PS) (f : Nat) (a : Cn) (s : PS) (p : Option Addr) (w0 w : World) : Prop where
 eq : joinL C t k part f a s = R
 fuel : C.tk.length < s.i + f
 dp : m ≤ s.deep
 mv : Moved C L s w0 w
 tree : CnAt w (Ge w0.heap.size) a (.pointer p)
section
variable {C : PC} {L : PL} {t : List UInt8} {k : Nat} {part : PS → Cn × PS} {m : Nat} {R : Cn × PS} {f : Nat} {a : Cn} {s : PS} {p : Option Addr} {w0 w : World}
theorem JoinL.stop (h : JoinL C L t k part m R f a s p w0 w) (hs : isF C t s = false) : R = (a, s) := by
 rw [← h.eq]
 cases f with
 | zero => rfl
 | succ f => unfold joinL; rw [hs]; rfl
theorem JoinL.go_ (h : JoinL C L t k part m R f a s p w0 w) (hi : isF C t s = true) (hp : ∀ s, Stp C s (part s).2) :
  ∃ f', joinL C t k part f' (.mk k .nil .nil a (part s.next).1 []) (part s.next).2 = R ∧ C.tk.length < (part s.next).2.i + f' ∧ m ≤ (part s.next).2.deep ∧ s.i + 1 ≤ (part s.next).2.i := by
 have hi2 := (hp s.next).i1
 have hd := (hp s.next).dp
 have hf := h.fuel
 have hdp := h.dp
 have hlt := isF_lt hi
 simp only [PS.next] at hi2 hd
 cases f with
 | zero => omega
 | succ f =>
  refine ⟨f, ?_, by simp only [PS.next]; omega, by simp only [PS.next]; omega, hi2⟩
  rw [← h.eq]
  conv => rhs; unfold joinL
  rw [hi]
  rfl
end
set_option maxRecDepth 100000 in
set_option maxHeartbeats 4000000 in
theorem and_step (m : Nat) (part : PC → PS → Cn × PS) (hpart : ReadsC 93 m part) (hs : ∀ C s, Stp C s (part C s).2) :
  ReadsC 79 m (fun C s => joinL C [38, 38] 6 (part C) (C.tk.length + 1) (part C s).1 (part C s).2) := by
 intro C L w s hP hm
 have hM := Lib.hid (Moved.refl hP)
 have hlt0 := hP.lt
 have hlen := hP.fit.len
 show Calls _ _ _ _ (CnPost C L (joinL C [38, 38] 6 (part C) (C.tk.length + 1) (part C s).1 (part C s).2) w)
 obtain ⟨R, hR⟩ : ∃ x, x = joinL C [38, 38] 6 (part C) (C.tk.length + 1) (part C s).1 (part C s).2 := ⟨_, rfl⟩
 rw [← hR]
 obtain ⟨r, hr⟩ : ∃ x, x = part C s := ⟨_, rfl⟩
 have hd := (hs C s).dp
 rw [← hr] at hd
 have hR2 : Hid (joinL C [38, 38] 6 (part C) (C.tk.length + 1) r.1 r.2 = R) := Lib.hid (by subst hr; exact hR.symm)
 have hdm : m ≤ r.2.deep := by omega
 replace hr := Lib.hid hr
 clear hP hR hd
 go_enter Try.func79, Try.ntmps79
 go_wp2_with fail
 refine (hpart.from_ hM.out hm hr.out.symm).mono ?_
 rintro e w1 ⟨p, rfl, h1, hE, -⟩
 have hL1 : Hid (JoinL C L [38, 38] 6 (part C) m R (C.tk.length + 1) r.1 r.2 p w w1) := Lib.hid ⟨hR2.out, by omega, hdm, h1, hE⟩
 clear h1 hE hR2 hr hdm
 go_wp2_with fail
 go_loopw [3] (fun av wr => ∃ (f : Nat) (a : Cn) (t : PS) (p : Option Addr), av = .pointer p ∧ Hid (JoinL C L [38, 38] 6 (part C) m R f a t p w wr)) (fun _ wr => left6 L wr)
 case atStart => exact ⟨_, _, _, p, rfl, hL1⟩
 clear hL1
 obtain ⟨f, a, t, q, rfl, hL⟩ := hrel
 cases hi : isF C [38, 38] t with
 | false =>
  have hF := Lib.hid (hL.out.stop hi)
  replace hi := Lib.hid hi
  go_wp2_with fail
  refine (take_no hL.out.mv [38, 38] hi.out).mono ?_
  rintro e v0 ⟨rfl, hV0, hW0⟩
  have hT0 := Lib.hid (hL.out.tree.pw hW0 hlt0)
  clear hW0
  replace hV0 := Lib.hid hV0
  go_wp2_with fail
  go_ret
  rw [hF.out]
  exact CnPost.of hV0.out hT0.out
 | true =>
  have hlt := isF_lt hi
  obtain ⟨f', hE1, hE2, hE3, hE4⟩ := hL.out.go_ hi (hs C)
  obtain ⟨r, hr⟩ : ∃ x, x = part C t.next := ⟨_, rfl⟩
  rw [← hr] at hE1 hE2 hE3 hE4
  replace hr := Lib.hid hr
  replace hE1 := Lib.hid hE1
  replace hi := Lib.hid hi
  go_wp2_with fail
  refine (take_yes hL.out.mv [38, 38] hi.out rfl).mono ?_
  rintro e v0 ⟨rfl, hV0, hW0⟩
  have hT0 := Lib.hid (hL.out.tree.pw hW0 hlt0)
  clear hW0
  replace hV0 := Lib.hid hV0
  go_wp2_with fail
  refine (hpart.from_ hV0.out (by have := hL.out.dp; simpa [PS.next] using this) hr.out.symm).mono ?_
  rintro e w2 ⟨p2, rfl, h2, hE, hW2⟩
  have hTa := hT0.out.pw hW2 hlt0
  have hL2 : Hid (JoinL C L [38, 38] 6 (part C) m R f' (.mk 6 .nil .nil a r.1 []) r.2 (some ⟨w2.heap.size, 0, none⟩) w (w2.alloc (.cells #[.int .i64 6, .pointer none, .pointer none, .pointer q, .pointer p2, .string ⟨#[]⟩] 122))) :=
   Lib.hid ⟨hE1.out, hE2, hE3, h2.below (below_new _ _), CnAt.new 6 [] (by decide) (by simp) h2.wr.size rfl (ExAt.nil_ _ _) (ExAt.nil_ _ _) hTa hE⟩
  have hm1 := hL.out.mv.left
  have hm2 := hL2.out.mv.left
  have hb2 := hL2.out.mv.bounds.2.2.1
  clear hTa h2 hE hW2 hE1
  go_wp2_with fail
  exact ⟨⟨_, _, _, _, rfl, hL2⟩, by rw [hm1, hm2]; omega⟩

set_option maxRecDepth 100000 in
set_option maxHeartbeats 4000000 in
theorem cond_step (m : Nat) (part : PC → PS → Cn × PS) (hpart : ReadsC 79 m part) (hs : ∀ C s, Stp C s (part C s).2) :
  ReadsC 63 m (fun C s => joinL C [124, 124] 7 (part C) (C.tk.length + 1) (part C s).1 (part C s).2) := by
 intro C L w s hP hm
 have hM := Lib.hid (Moved.refl hP)
 have hlt0 := hP.lt
 have hlen := hP.fit.len
 show Calls _ _ _ _ (CnPost C L (joinL C [124, 124] 7 (part C) (C.tk.length + 1) (part C s).1 (part C s).2) w)
 obtain ⟨R, hR⟩ : ∃ x, x = joinL C [124, 124] 7 (part C) (C.tk.length + 1) (part C s).1 (part C s).2 := ⟨_, rfl⟩
 rw [← hR]
 obtain ⟨r, hr⟩ : ∃ x, x = part C s := ⟨_, rfl⟩
 have hd := (hs C s).dp
 rw [← hr] at hd
 have hR2 : Hid (joinL C [124, 124] 7 (part C) (C.tk.length + 1) r.1 r.2 = R) := Lib.hid (by subst hr; exact hR.symm)
 have hdm : m ≤ r.2.deep := by omega
 replace hr := Lib.hid hr
 clear hP hR hd
 go_enter Try.func63, Try.ntmps63
 go_wp2_with fail
 refine (hpart.from_ hM.out hm hr.out.symm).mono ?_
 rintro e w1 ⟨p, rfl, h1, hE, -⟩
 have hL1 : Hid (JoinL C L [124, 124] 7 (part C) m R (C.tk.length + 1) r.1 r.2 p w w1) := Lib.hid ⟨hR2.out, by omega, hdm, h1, hE⟩
 clear h1 hE hR2 hr hdm
 go_wp2_with fail
 go_loopw [3] (fun av wr => ∃ (f : Nat) (a : Cn) (t : PS) (p : Option Addr), av = .pointer p ∧ Hid (JoinL C L [124, 124] 7 (part C) m R f a t p w wr)) (fun _ wr => left6 L wr)
 case atStart => exact ⟨_, _, _, p, rfl, hL1⟩
 clear hL1
 obtain ⟨f, a, t, q, rfl, hL⟩ := hrel
 cases hi : isF C [124, 124] t with
 | false =>
  have hF := Lib.hid (hL.out.stop hi)
  replace hi := Lib.hid hi
  go_wp2_with fail
  refine (take_no hL.out.mv [124, 124] hi.out).mono ?_
  rintro e v0 ⟨rfl, hV0, hW0⟩
  have hT0 := Lib.hid (hL.out.tree.pw hW0 hlt0)
  clear hW0
  replace hV0 := Lib.hid hV0
  go_wp2_with fail
  go_ret
  rw [hF.out]
  exact CnPost.of hV0.out hT0.out
 | true =>
  have hlt := isF_lt hi
  obtain ⟨f', hE1, hE2, hE3, hE4⟩ := hL.out.go_ hi (hs C)
  obtain ⟨r, hr⟩ : ∃ x, x = part C t.next := ⟨_, rfl⟩
  rw [← hr] at hE1 hE2 hE3 hE4
  replace hr := Lib.hid hr
  replace hE1 := Lib.hid hE1
  replace hi := Lib.hid hi
  go_wp2_with fail
  refine (take_yes hL.out.mv [124, 124] hi.out rfl).mono ?_
  rintro e v0 ⟨rfl, hV0, hW0⟩
  have hT0 := Lib.hid (hL.out.tree.pw hW0 hlt0)
  clear hW0
  replace hV0 := Lib.hid hV0
  go_wp2_with fail
  refine (hpart.from_ hV0.out (by have := hL.out.dp; simpa [PS.next] using this) hr.out.symm).mono ?_
  rintro e w2 ⟨p2, rfl, h2, hE, hW2⟩
  have hTa := hT0.out.pw hW2 hlt0
  have hL2 : Hid (JoinL C L [124, 124] 7 (part C) m R f' (.mk 7 .nil .nil a r.1 []) r.2 (some ⟨w2.heap.size, 0, none⟩) w (w2.alloc (.cells #[.int .i64 7, .pointer none, .pointer none, .pointer q, .pointer p2, .string ⟨#[]⟩] 122))) :=
   Lib.hid ⟨hE1.out, hE2, hE3, h2.below (below_new _ _), CnAt.new 7 [] (by decide) (by simp) h2.wr.size rfl (ExAt.nil_ _ _) (ExAt.nil_ _ _) hTa hE⟩
  have hm1 := hL.out.mv.left
  have hm2 := hL2.out.mv.left
  have hb2 := hL2.out.mv.bounds.2.2.1
  clear hTa h2 hE hW2 hE1
  go_wp2_with fail
  exact ⟨⟨_, _, _, _, rfl, hL2⟩, by rw [hm1, hm2]; omega⟩

end Go.Proofs.Ytpndglghpojjkaa
/- As text Rel, but a value's relation may speak of the operations that have been carried out (L): what holds until an operation that takes the value has run need not be kept behind it. -/
namespace Go.Proofs.Ytpndglghpojjkaa
open Go.RowKit

/-- What holds of the values that o waits for. -/
def DepL (ops : Array Oper) (V : Nat → (Nat → Bool) → World → Value → Prop) (L : Nat → Bool) (tmps : Array Value) (w : World) : List Nat → Prop
 | [] => True
 | j :: r => (match (ops[j]?).bind (·.dst) with | some d => V j L w (tmps.getD d undef) | none => True) ∧ DepL ops V L tmps w r

/-- Does j wait for i, by edges one behind the other (n at most)? -/
def reach (ops : Array Oper) : Nat → Nat → Nat → Bool
 | 0, _, _ => false
 | n + 1, j, i => match ops[j]? with
  | some oj => (depsOf oj).any fun d => d == i || reach ops n d i
  | none => false
theorem reach_closed {ops : Array Oper} {L : Nat → Bool} (hc : ∀ (k : Nat) ok, ops[k]? = some ok → L k = true → ∀ j ∈ depsOf ok, L j = true) : ∀ n j i, reach ops n j i = true → L j = true → L i = true := by
 intro n
 induction n with
 | zero => intro j i h; cases h
 | succ n ih =>
  intro j i h hj
  unfold reach at h
  cases ho : ops[j]? with
  | none => rw [ho] at h; cases h
  | some oj =>
   rw [ho] at h
   simp only [List.any_eq_true, Bool.or_eq_true, beq_iff_eq] at h
   obtain ⟨d, hd, h⟩ := h
   have hLd := hc j oj ho hj d hd
   rcases h with rfl | h
   ·exact hLd
   ·exact ih d i h hLd
/-- The table fits the region; closed: by the kernel. -/
def tabOkL (ops : Array Oper) (R : List Reads) : Bool :=
 (List.range ops.size).all fun i => match ops[i]? with
  | none => true
  | some o =>
   ((R.drop i).headD ⟨[], 0, []⟩).reads.all (fun p => match p.2 with
    | some j => (match ops[j]? with | some oj => oj.dst == some p.1 | none => false) && (depsOf o).contains j
    | none => (List.range ops.size).all fun j => match ops[j]? with | some oj => oj.dst != some p.1 || (depsOf oj).contains i | none => true) &&
   (match o.guard with
    | none => true
    | some (j, _) => match ops[j]? with | some oj => oj.dst == some ((R.drop i).headD ⟨[], 0, []⟩).guard | none => false) &&
   ((R.drop i).headD ⟨[], 0, []⟩).next.all (fun j => reach ops ops.size j i)

def StepL1 (P : Program) (ops : Array Oper) (V : Nat → (Nat → Bool) → World → Value → Prop) (C : (Nat → Bool) → World → Prop) (G : Nat → World → World → Prop) (i : Nat) (o : Oper) (a : Act) : Prop :=
 ∀ w L, C L w → L i = false → (∀ j ∈ depsOf o, L j = true) → (∀ j, reach ops ops.size j i = true → L j = false) → DepL ops V L a.tmps w (depsOf o) →
  if Region.wanted o (yielded ops a.tmps) then relUpon P (fun v w' => C (fun k => k == i || L k) w' ∧ G i w w' ∧ V i (fun k => k == i || L k) w' v) ((execOp a.eval o).run P w)
  else V i (fun k => k == i || L k) w undef ∧ C (fun k => k == i || L k) w ∧ G i w w

section
variable {P : Program} {ops : Array Oper} {V : Nat → (Nat → Bool) → World → Value → Prop} {C : (Nat → Bool) → World → Prop} {G : Nat → World → World → Prop} {Q : Act → World → Prop}

/-- Where the walk stands: which operations have come up, what their values are. -/
structure LexL (ops : Array Oper) (V : Nat → (Nat → Bool) → World → Value → Prop) (C : (Nat → Bool) → World → Prop) (a0 : Act) (listed : Array Bool) (a : Act) (w : World) : Prop where
 cls : C (fun k => listed.getD k true) w
 lsize : listed.size = ops.size
 size : a.tmps.size = a0.tmps.size
 defers : a.defers = a0.defers
 closed : ∀ (i : Nat) o, ops[i]? = some o → listed.getD i true = true → ∀ j ∈ depsOf o, listed.getD j true = true
 done : ∀ (i : Nat) o, ops[i]? = some o → listed.getD i true = true → ∀ d, o.dst = some d → V i (fun k => listed.getD k true) w (a.tmps.getD d undef)
 rest : ∀ t, (∀ (i : Nat) o, ops[i]? = some o → listed.getD i true = true → o.dst ≠ some t) → a.tmps.getD t undef = a0.tmps.getD t undef

theorem wpAny_lexL {a0 : Act} {Q' : Exit → Act → World → Prop} (hok : lexOk ops = true) (hN : ∀ (i : Nat) o d, ops[i]? = some o → o.dst = some d → d < a0.tmps.size)
  (hmono : ∀ (i j : Nat) oj, ops[j]? = some oj → i ∉ depsOf oj → i ≠ j → ∀ L w w' v, L i = false → C L w → C (fun k => k == i || L k) w' → G i w w' → V j L w v → V j (fun k => k == i || L k) w' v) (steps : ∀ x (i : Nat) o, ops[i]? = some o → StepL1 P ops V C G i o (putN ops x a0 i))
  (hQ : ∀ x w, C (fun _ => true) w → (∀ (k : Nat) o, ops[k]? = some o → o.dst.isSome = true → V k (fun _ => true) w (x k)) → Q' .normal (putN ops x a0 ops.size) w) :
  ∀ (fuel : Nat) (listed : Array Bool) (a : Act) (w : World), unlisted ops.size listed = fuel → LexL ops V C a0 listed a w → wpAny P .any ops Q' fuel listed a w := by
 have hend : ∀ (listed : Array Bool) (a : Act) (w : World), (∀ i, i < ops.size → listed.getD i true = true) → LexL ops V C a0 listed a w → Q' .normal a w := by
  intro listed a w hall hl
  have hC := hl.cls
  have hlt : (fun k => listed.getD k true) = fun _ => true := funext fun k => by
   by_cases hk : k < ops.size
   ·exact hall k hk
   ·rw [Array.getD_eq_getD_getElem?, Array.getElem?_eq_none (by rw [hl.lsize]; omega)]; rfl
  rw [hlt] at hC
  have hq := hQ (valsOf ops a) w hC fun k o hk hs => by
   obtain ⟨d, hd⟩ := Option.isSome_iff_exists.1 hs
   have := hl.done k _ hk (hall k (Array.getElem?_eq_some_iff.1 hk).1) d hd
   rw [hlt] at this
   unfold valsOf
   rw [hk]
   simp only [Option.bind_some, hd]
   exact this
  have e : putN ops (valsOf ops a) a0 ops.size = a := by
   have hsz : (putN ops (valsOf ops a) a0 ops.size).tmps.size = a.tmps.size := by rw [putN_size, hl.size]
   have hd : (putN ops (valsOf ops a) a0 ops.size).defers = a.defers := by rw [putN_defers, hl.defers]
   have ht : (putN ops (valsOf ops a) a0 ops.size).tmps = a.tmps := by
    apply Array.ext_getElem?
    intro t
    apply get_of_getD hsz
    by_cases hw : ∃ j, j < ops.size ∧ (ops[j]?).bind (·.dst) = some t
    ·exact putN_self hl.size _ _ hw
    ·rw [putN_other _ _ _ _ (fun j hj hd => hw ⟨j, hj, hd⟩)]
     exact (hl.rest t fun i o hi _ hd => hw ⟨i, (Array.getElem?_eq_some_iff.1 hi).1, by rw [hi]; exact hd⟩).symm
   cases h1 : putN ops (valsOf ops a) a0 ops.size
   cases a
   simp only [h1] at hd ht
   rw [hd, ht]
  rw [e] at hq
  exact hq
 intro fuel
 induction fuel with
 | zero =>
  intro listed a w hu hl
  have hall : ∀ i, i < ops.size → listed.getD i true = true := by
   intro i hi
   have := List.eq_nil_of_length_eq_zero hu
   have h2 := List.filter_eq_nil_iff.1 this i (List.mem_range.2 hi)
   simpa using h2
  refine ⟨?_, hend listed a w hall hl⟩
  unfold Region.ready
  rw [List.filter_eq_nil_iff]
  intro i hi
  simp [hall i (List.mem_range.1 hi)]
 | succ fuel ih =>
  intro listed a w hu hl
  refine ⟨fun hr => hend listed a w ?_ hl, fun i hi => ?_⟩
  ·have hall : ∀ n, ∀ i, i < n → i < ops.size → listed.getD i true = true := by
    intro n
    induction n with
    | zero => intro i h; omega
    | succ n ihn =>
     intro i hin hio
     by_cases hlt : i < n
     ·exact ihn i hlt hio
     ·obtain rfl : i = n := by omega
      unfold Region.ready at hr
      have h2 := List.filter_eq_nil_iff.1 hr i (List.mem_range.2 hio)
      cases hb : listed.getD i true with
      | true => rfl
      | false =>
       exfalso
       apply h2
       have hoi : ops[i]? = some ops[i] := Array.getElem?_eq_getElem hio
       have hdeps := (lexOk_spec hok hoi).1
       rw [hb, hoi]
       simp only [Bool.not_false, Bool.true_and, Option.map_some, Option.getD_some]
       rw [Array.all_eq_true_iff_forall_mem]
       intro e he
       cases hbn : Region.binds .any e with
       | false => rfl
       | true =>
        have hm : e.on ∈ depsOf ops[i] := List.mem_map.2 ⟨e, List.mem_filter.2 ⟨by simpa using he, hbn⟩, rfl⟩
        have h3 := ihn e.on (hdeps _ hm) (by have := hdeps _ hm; omega)
        have h4 : e.on < listed.size := by rw [hl.lsize]; have := hdeps _ hm; omega
        simp only [Array.getD_eq_getD_getElem?, Array.getElem?_eq_getElem h4] at h3 ⊢
        simpa using h3
   exact fun i hi => hall (i + 1) i (by omega) hi
  ·unfold Region.ready at hi
   obtain ⟨hir, hcond⟩ := List.mem_filter.1 hi
   have hio := List.mem_range.1 hir
   have hoi : ops[i]? = some ops[i] := Array.getElem?_eq_getElem hio
   generalize ops[i] = o at hoi
   simp only [hoi, Option.map_some, Option.getD_some, Bool.and_eq_true, Bool.not_eq_true'] at hcond
   obtain ⟨hun, hafter⟩ := hcond
   obtain ⟨hdlt, hsel, hshape⟩ := lexOk_spec hok hoi
   have hdeps : ∀ j ∈ depsOf o, listed.getD j true = true := by
    intro j hj
    obtain ⟨e, he, rfl⟩ := List.mem_map.1 hj
    obtain ⟨he1, he2⟩ := List.mem_filter.1 he
    have h3 := (Array.all_eq_true_iff_forall_mem.1 hafter) e (by simpa using he1)
    rw [he2] at h3
    simp only [Bool.not_true, Bool.false_or] at h3
    have h4 : e.on < listed.size := by rw [hl.lsize]; have := hdlt _ hj; omega
    simp only [Array.getD_eq_getD_getElem?, Array.getElem?_eq_getElem h4] at h3 ⊢
    simpa using h3
   have hnext : ∀ j, reach ops ops.size j i = true → listed.getD j true = false := by
    intro j hj
    cases hb : listed.getD j true with
    | false => rfl
    | true =>
     have : listed.getD i true = true := reach_closed (L := fun k => listed.getD k true) hl.closed _ _ _ hj hb
     rw [hun] at this
     cases this
   let x := valsOf ops a
   have hlook : ∀ t ∈ o.looksAt ops, (putN ops x a0 i).tmps.getD t undef = a.tmps.getD t undef := by
    intro t ht
    by_cases hw : ∃ j, j < i ∧ (ops[j]?).bind (·.dst) = some t
    ·exact putN_self hl.size _ _ hw
    ·rw [putN_other _ _ _ _ (fun j hj hd => hw ⟨j, hj, hd⟩)]
     refine (hl.rest t fun k ok hk hlk hdk => ?_).symm
     rcases (hshape k ok t hk hdk).2 ht with h1 | h1
     ·exact hw ⟨k, hdlt k h1, by rw [hk]; exact hdk⟩
     ·have := hl.closed k ok hk hlk i h1
      rw [hun] at this
      cases this
   have hssz : (putN ops x a0 i).tmps.size = a.tmps.size := by rw [putN_size, hl.size]
   have hex : execOp (putN ops x a0 i).eval o = execOp a.eval o := execOp_congr o hsel fun y hy => by
    cases y with
    | tmp t =>
     have : t ∈ o.looksAt ops := List.mem_append_left _ (List.mem_filterMap.2 ⟨.tmp t, by simpa using hy, rfl⟩)
     have h5 := hlook t this
     simpa [Act.eval] using h5
    | _ => rfl
   have hwt := wanted_of (ops := ops) (o := o) hssz hlook
   have hdepF : ∀ l : List Nat, (∀ j ∈ l, j ∈ depsOf o) → DepL ops V (fun k => listed.getD k true) (putN ops x a0 i).tmps w l := by
    intro l
    induction l with
    | nil => intro _; trivial
    | cons j l ihl =>
     intro hj
     refine ⟨?_, ihl fun k hk => hj k (List.mem_cons_of_mem _ hk)⟩
     have hjd := hj j (List.mem_cons_self ..)
     have hji := hdlt j hjd
     have hoj : ops[j]? = some ops[j] := Array.getElem?_eq_getElem (by omega)
     have hd := hl.done j _ hoj (hdeps j hjd)
     cases hdst : (ops[j]?).bind (·.dst) with
     | none => trivial
     | some d =>
      show V j (fun k => listed.getD k true) w _
      rw [hoj] at hdst
      simp only [Option.bind_some] at hdst
      rw [putN_self hl.size i d ⟨j, hji, by rw [hoj]; exact hdst⟩]
      exact hd d hdst
   have hst := steps x i o hoi w (fun k => listed.getD k true) hl.cls hun hdeps hnext (hdepF _ fun _ h => h)
   rw [hwt, hex] at hst
   have hset : ∀ k, (listed.setIfInBounds i true).getD k true = (k == i || listed.getD k true) := by
    intro k
    simp only [Array.getD_eq_getD_getElem?, Array.getElem?_setIfInBounds]
    by_cases e : i = k
    ·subst e; simp [hl.lsize, hio]
    ·rw [if_neg e]
     simp [Ne.symm e]
   have go : ∀ v w', C (fun k => k == i || listed.getD k true) w' → (∀ (k : Nat) ok, ops[k]? = some ok → i ∉ depsOf ok → i ≠ k → ∀ u, V k (fun k => listed.getD k true) w u → V k (fun k => k == i || listed.getD k true) w' u) → V i (fun k => k == i || listed.getD k true) w' v → wpAny P .any ops Q' fuel (listed.setIfInBounds i true) (a.put o.dst v) w' := by
    intro v w' hC hm hV
    apply ih
    ·have := unlisted_set hl.lsize hio hun
     omega
    ·refine ⟨?_, by simp [hl.lsize], by rw [put_size]; exact hl.size, by rw [put_defers]; exact hl.defers, ?_, ?_, ?_⟩
     ·rw [show (fun k => (listed.setIfInBounds i true).getD k true) = fun k => k == i || listed.getD k true from funext hset]
      exact hC
     ·intro k ok hk hlk j hj
      rw [hset] at hlk ⊢
      by_cases e : k = i
      ·subst e
       rw [hoi] at hk
       cases hk
       rw [hdeps j hj]
       simp
      ·have : listed.getD k true = true := by simpa [e] using hlk
       rw [hl.closed k ok hk this j hj]
       simp
     ·intro k ok hk hlk d hdst
      rw [show (fun k => (listed.setIfInBounds i true).getD k true) = fun k => k == i || listed.getD k true from funext hset]
      rw [hset] at hlk
      by_cases e : k = i
      ·subst e
       rw [hoi] at hk
       cases hk
       rw [hdst, put_get, if_pos ⟨rfl, by rw [hl.size]; exact hN k o d hoi hdst⟩]
       exact hV
      ·have hlk' : listed.getD k true = true := by simpa [e] using hlk
       have hnd : i ∉ depsOf ok := fun h => by
        have := hl.closed k ok hk hlk' i h
        rw [hun] at this
        cases this
       have := hm k ok hk hnd (Ne.symm e) _ (hl.done k ok hk hlk' d hdst)
       have hne := (hshape k ok d hk hdst).1 (Ne.symm e)
       cases hd2 : o.dst with
       | none => exact this
       | some d2 =>
        rw [put_get, if_neg]
        ·exact this
        ·rintro ⟨rfl, _⟩
         exact hne hd2
     ·intro t ht
      have h1 := hl.rest t fun k ok hk hlk => ht k ok hk (by rw [hset, hlk]; simp)
      have h2 := ht i o hoi (by rw [hset]; simp)
      rw [← h1]
      cases hd2 : o.dst with
      | none => rfl
      | some d2 =>
       rw [put_get, if_neg]
       rintro ⟨rfl, _⟩
       exact h2 hd2
   unfold wpOp
   simp only [hoi]
   split at hst
   ·rename_i hw
    rw [if_pos hw]
    left
    unfold Oper.wp
    generalize (execOp a.eval o).run P w = r at hst
    cases r with
    | halt h w' => exact hst.elim
    | ok n w' =>
     cases n with
     | value v => exact go v w' hst.1 (fun k ok hk hnd hne u => hmono i k ok hk hnd hne _ w w' u hun hl.cls hst.1 hst.2.1) hst.2.2
     | skip => exact go undef w' hst.1 (fun k ok hk hnd hne u => hmono i k ok hk hnd hne _ w w' u hun hl.cls hst.1 hst.2.1) hst.2.2
     | enter f args =>
      refine Calls.mono (show Calls P f args w' _ from hst) ?_
      rintro e w'' ⟨v, rfl, h1, h2, h3⟩
      exact go v w'' h1 (fun k ok hk hnd hne u => hmono i k ok hk hnd hne _ w w'' u hun hl.cls h1 h2) h3
     | _ => exact (show False from hst).elim
   ·rename_i hw
    rw [if_neg hw]
    exact go undef w hst.2.1 (fun k ok hk hnd hne u => hmono i k ok hk hnd hne _ w w u hun hl.cls hst.2.1 hst.2.2) hst.1

theorem DepL.get {L : Nat → Bool} {tmps : Array Value} {w : World} {l : List Nat} (h : DepL ops V L tmps w l) {j : Nat} (hj : l.contains j = true) {d : Tmp} (hd : (ops[j]?).bind (·.dst) = some d) : V j L w (tmps.getD d undef) := by
 induction l with
 | nil => cases hj
 | cons k l ih =>
  by_cases e : j = k
  ·subst e
   have := h.1
   rw [hd] at this
   exact this
  ·refine ih h.2 ?_
   rw [List.contains_cons] at hj
   simpa [e] using hj
def FactsL (V : Nat → (Nat → Bool) → World → Value → Prop) (a0 : Act) (L : Nat → Bool) (w : World) (f : Tmp → Value) : List (Tmp × Option Nat) → Prop
 | [] => True
 | (t, some j) :: r => V j L w (f t) ∧ FactsL V a0 L w f r
 | (t, none) :: r => f t = a0.tmps.getD t undef ∧ FactsL V a0 L w f r

def StepL2 (P : Program) (V : Nat → (Nat → Bool) → World → Value → Prop) (C : (Nat → Bool) → World → Prop) (G : Nat → World → World → Prop) (a0 : Act) (i : Nat) (o : Oper) (r : Reads) : Prop :=
 ∀ w L (f : Tmp → Value), C L w → L i = false → (∀ j ∈ depsOf o, L j = true) → (∀ j ∈ r.next, L j = false) → FactsL V a0 L w f r.reads →
  if wantedBy o (f r.guard) = true then relUpon P (fun v w' => C (fun k => k == i || L k) w' ∧ G i w w' ∧ V i (fun k => k == i || L k) w' v) ((execOp (evalOf f) o).run P w)
  else V i (fun k => k == i || L k) w undef ∧ C (fun k => k == i || L k) w ∧ G i w w

def StepAllL (P : Program) (V : Nat → (Nat → Bool) → World → Value → Prop) (C : (Nat → Bool) → World → Prop) (G : Nat → World → World → Prop) (a0 : Act) : Nat → List Oper → List Reads → Prop
 | _, [], _ => True
 | i, o :: l, rs => StepL2 P V C G a0 i o (rs.headD ⟨[], 0, []⟩) ∧ StepAllL P V C G a0 (i + 1) l rs.tail

theorem StepAllL.get {a0 : Act} (l : List Oper) : ∀ (R : List Reads) (i k : Nat) (o : Oper), StepAllL P V C G a0 i l R → l[k]? = some o → StepL2 P V C G a0 (i + k) o ((R.drop k).headD ⟨[], 0, []⟩) := by
 induction l with
 | nil => intro R i k o _ hk; simp at hk
 | cons o' l ih =>
  intro R i k o h hk
  cases k with
  | zero =>
   simp at hk
   subst hk
   exact h.1
  | succ k =>
   have h2 := ih R.tail (i + 1) k o h.2 (by simpa using hk)
   rw [List.drop_tail, Nat.add_assoc, Nat.add_comm 1 k] at h2
   exact h2

theorem FactsL.of {L : Nat → Bool} {a0 a : Act} {w : World} {o : Oper} {i : Nat} (hD : DepL ops V L a.tmps w (depsOf o)) (ha : ∀ t : Tmp, (∀ (j : Nat) (oj : Oper), ops[j]? = some oj → oj.dst = some t → i ∈ depsOf oj) → a.tmps.getD t undef = a0.tmps.getD t undef) :
  ∀ l : List (Tmp × Option Nat), (l.all fun p => match p.2 with
    | some j => (match ops[j]? with | some oj => oj.dst == some p.1 | none => false) && (depsOf o).contains j
    | none => (List.range ops.size).all fun j => match ops[j]? with | some oj => oj.dst != some p.1 || (depsOf oj).contains i | none => true) = true → FactsL V a0 L w (fun t => a.tmps.getD t undef) l := by
 intro l
 induction l with
 | nil => intro _; trivial
 | cons p l ih =>
  intro h
  rw [List.all_cons, Bool.and_eq_true] at h
  obtain ⟨t, s⟩ := p
  cases s with
  | some j =>
   simp only [Bool.and_eq_true] at h
   refine ⟨?_, ih h.2⟩
   cases hj : ops[j]? with
   | none => rw [hj] at h; exact absurd h.1.1 (by simp)
   | some oj =>
    rw [hj] at h
    exact hD.get h.1.2 (by rw [hj]; simpa using h.1.1)
  | none =>
   refine ⟨ha t fun j oj hj hd => ?_, ih h.2⟩
   have h3 := List.all_eq_true.1 h.1 j (List.mem_range.2 (Array.getElem?_eq_some_iff.1 hj).1)
   simp only [hj, hd, bne_self_eq_false, Bool.false_or] at h3
   exact List.contains_iff_mem.1 h3

theorem StepL1.of {a0 : Act} {R : List Reads} (hok : lexOk ops = true) (htab : tabOkL ops R = true) (hall : StepAllL P V C G a0 0 ops.toList R) (x : Nat → Value) (i : Nat) (o : Oper) (hi : ops[i]? = some o) :
  StepL1 P ops V C G i o (putN ops x a0 i) := by
 intro w L hC hL hd hn hD
 have hilt := (Array.getElem?_eq_some_iff.1 hi).1
 have ht := List.all_eq_true.1 htab i (List.mem_range.2 hilt)
 simp only [hi, Bool.and_eq_true] at ht
 have h2 := StepAllL.get ops.toList R 0 i o hall (by simpa using hi)
 rw [Nat.zero_add] at h2
 generalize (R.drop i).headD ⟨[], 0, []⟩ = r at ht h2
 have hnx : ∀ j ∈ r.next, L j = false := fun j hj => hn j (List.all_eq_true.1 ht.2 j hj)
 have hf := FactsL.of (a0 := a0) (a := putN ops x a0 i) hD (fun t h => putN_other x a0 i t fun j hj hjd => by
  cases hoj : ops[j]? with
  | none => rw [hoj] at hjd; cases hjd
  | some oj =>
   rw [hoj] at hjd
   have := (lexOk_spec hok hoj).1 i (h j oj hoj hjd)
   omega) r.reads ht.1.1
 have h3 := h2 w L (fun t => (putN ops x a0 i).tmps.getD t undef) hC hL hd hnx hf
 rw [evalOf_tmps] at h3
 have hw : Region.wanted o (yielded ops (putN ops x a0 i).tmps) = wantedBy o ((putN ops x a0 i).tmps.getD r.guard undef) := by
  unfold Region.wanted wantedBy
  cases hg : o.guard with
  | none => rfl
  | some g =>
   obtain ⟨j, want⟩ := g
   have h4 := ht.1.2
   rw [hg] at h4
   simp only at h4 ⊢
   cases hoj : ops[j]? with
   | none => rw [hoj] at h4; exact absurd h4 (by simp)
   | some oj =>
    rw [hoj] at h4
    have hdst : oj.dst = some r.guard := by simpa using h4
    unfold yielded
    simp only [hoj, Option.bind_some, hdst]
    rw [Array.getD_eq_getD_getElem?]
    cases (putN ops x a0 i).tmps[r.guard]? with
    | none => rfl
    | some v => cases v <;> rfl
 rw [hw]
 exact h3

/-- Each relation of the list is kept by what the other operations do, but those that it waits for. -/
def AllKeptL (C : (Nat → Bool) → World → Prop) (G : Nat → World → World → Prop) : Nat → List ((Nat → Bool) → World → Value → Prop) → List Reads → Prop
 | _, [], _ => True
 | j, f :: r, rs => (∀ i, i ≠ j → ((rs.headD ⟨[], 0, []⟩).reads.all fun p => p.2 != some i) = true → ∀ L w w' v, L i = false → C L w → C (fun k => k == i || L k) w' → G i w w' → f L w v → f (fun k => k == i || L k) w' v) ∧ AllKeptL C G (j + 1) r rs.tail
theorem AllKeptL.get : ∀ (l : List ((Nat → Bool) → World → Value → Prop)) (R : List Reads) (n : Nat), AllKeptL C G n l R → ∀ i j, i ≠ n + j → (((R.drop j).headD ⟨[], 0, []⟩).reads.all fun p => p.2 != some i) = true → ∀ L w w' v, L i = false → C L w → C (fun k => k == i || L k) w' → G i w w' → (l.getD j fun _ _ _ => True) L w v → (l.getD j fun _ _ _ => True) (fun k => k == i || L k) w' v
 | [], _, _, _, _, _, _, _ => by intro L w w' v _ _ _ _ _; exact trivial
 | f :: r, R, n, h, i, 0, hne, hr => h.1 i hne hr
 | f :: r, R, n, h, i, j + 1, hne, hr => AllKeptL.get r R.tail (n + 1) h.2 i j (by omega) (by rw [List.drop_tail]; exact hr)
theorem reads_depsL {R : List Reads} (htab : tabOkL ops R = true) {j : Nat} {oj : Oper} (hj : ops[j]? = some oj) {i : Nat} (hi : i ∉ depsOf oj) : (((R.drop j).headD ⟨[], 0, []⟩).reads.all fun p => p.2 != some i) = true := by
 have ht := List.all_eq_true.1 htab j (List.mem_range.2 (Array.getElem?_eq_some_iff.1 hj).1)
 simp only [hj, Bool.and_eq_true] at ht
 rw [List.all_eq_true]
 intro p hp
 have h1 := List.all_eq_true.1 ht.1.1 p hp
 obtain ⟨t, s⟩ := p
 cases s with
 | none => rfl
 | some k =>
  simp only [Bool.and_eq_true] at h1
  have h2 := List.contains_iff_mem.1 h1.2
  simp only [bne_iff_ne, ne_eq, Option.some.injEq]
  rintro rfl
  exact hi h2

/-- The law: a region that draws its order, operation by operation, by a table of who reads whom. -/
theorem wp_region_tabL {id : Nat} {a0 : Act} {w : World} {Q' : Exit → Act → World → Prop} (Vs : List ((Nat → Bool) → World → Value → Prop)) (R : List Reads) (D : List (Option Nat)) (C : (Nat → Bool) → World → Prop) (G : Nat → World → World → Prop)
  (hm : P.follows .mixedOrders = true) (hok : lexOk ops = true) (htab : tabOkL ops R = true) (hfr : framedOk ops D a0.tmps.size = true) (hN : dstIn ops a0.tmps.size = true) (hmono : AllKeptL C G 0 Vs R)
  (h0 : C (fun k => !decide (k < ops.size)) { w with drawn := w.drawn + 1 })
  (each : StepAllL P (fun i => Vs.getD i fun _ _ _ => True) C G a0 0 ops.toList R)
  (fin : ∀ (x : Nat → Value) w', C (fun _ => true) w' → (∀ k o, ops[k]? = some o → o.dst.isSome = true → (Vs.getD k fun _ _ _ => True) (fun _ => true) w' (x k)) → Q' .normal ⟨(framed x D a0.tmps.toList).toArray, a0.defers⟩ w') :
  (Code.region id ops true).wp P Q' a0 w := by
 refine wp_region_any hm (wpAny_lexL (V := fun i => Vs.getD i fun _ _ _ => True) (C := C) (G := G) (a0 := a0) hok ?_ (fun i j oj hj hi hne => AllKeptL.get Vs R 0 hmono i j (by omega) (reads_depsL htab hj hi)) (fun x i o hi => StepL1.of hok htab each x i o hi) ?_ ops.size _ a0 _ ?_ ?_)
 ·intro i o d hi hd
  have := List.all_eq_true.1 hN o (by simpa using Array.mem_of_getElem? hi)
  rw [hd] at this
  simpa using this
 ·intro x w hC hV
  rw [putN_framed hok hfr]
  exact fin x w hC hV
 ·unfold unlisted
  rw [List.filter_eq_self.2]
  ·simp
  ·intro i hi
   have := List.mem_range.1 hi
   simp [this]
 ·refine ⟨?_, by simp, rfl, rfl, ?_, ?_, fun _ _ => rfl⟩
  ·rw [show (fun k => (Array.replicate ops.size false).getD k true) = fun k => !decide (k < ops.size) from funext fun k => by
    rw [Array.getD_eq_getD_getElem?, Array.getElem?_replicate]
    by_cases h : k < ops.size <;> simp [h]]
   exact h0
  ·intro i o hi hl
   have := (Array.getElem?_eq_some_iff.1 hi).1
   simp [this] at hl
  ·intro i o hi hl
   have := (Array.getElem?_eq_some_iff.1 hi).1
   simp [this] at hl

theorem StepL2.dead {b : Bool} {X A B D : Prop} (hb : b = false) (h1 : B) (h2 : A) (h3 : D) : if b = true then X else A ∧ B ∧ D := by subst hb; exact ⟨h2, h1, h3⟩
/-- What holds of a value until operation n has taken it. -/
def Till (n : Nat) (R : World → Value → Prop) (L : Nat → Bool) (w : World) (v : Value) : Prop := L n = false → R w v
theorem Till.keep {n i : Nat} {R : World → Value → Prop} {L : Nat → Bool} {w w' : World} {v : Value} (h : Till n R L w v) (hk : i ≠ n → R w v → R w' v) : Till n R (fun k => k == i || L k) w' v := fun hn => by
 simp only [Bool.or_eq_false_iff, beq_eq_false_iff_ne] at hn
 exact hk (fun e => hn.1 e.symm) (h hn.2)
end

end Go.Proofs.Ytpndglghpojjkaa
