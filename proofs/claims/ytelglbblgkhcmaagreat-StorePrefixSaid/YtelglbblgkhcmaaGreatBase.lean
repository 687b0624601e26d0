/-
  Words for memory that all texts of this seat use: a block that is known whole, and how it is kept. Plain lemmas, no program in sight.
-/
import Derived.WalkKit
import Derived.WalkSpells
import Derived.WalkLawsBesides
import Derived.Lib.Hide
import Derived.Deep.Draws
import Derived.Lib.SlBytesConst
namespace Go.Proofs.YtelglbblgkhcmaaGreat
open Go.RowKit

/-- Block g holds just the cells cs, of element type t, none frozen. -/
def Holds (w : World) (g : Nat) (t : TypeId) (cs : Array Value) : Prop := w.heap[g]? = some (.cells cs t (0, 0))

section
variable {w w' : World} {g : Nat} {t : TypeId} {cs : Array Value}
theorem Holds.lt (h : Holds w g t cs) : g < w.heap.size := (Array.getElem?_eq_some_iff.1 h).1
theorem Holds.cell (h : Holds w g t cs) (i : Nat) : w.cell? ⟨g, i, none⟩ = cs[i]? := cell_of_row w g i cs t (0, 0) h
theorem Holds.frozen (h : Holds w g t cs) (i : Nat) : w.frozen? ⟨g, i, none⟩ = false := by
  unfold Holds at h
  simp [World.frozen?, h]
theorem Holds.new (w : World) (t : TypeId) (cs : Array Value) : Holds (w.alloc (.cells cs t)) w.heap.size t cs := heap_alloc_new w _
theorem Holds.alloc (h : Holds w g t cs) (o : Obj) : Holds (w.alloc o) g t cs := (Below.heap_alloc w o g h.lt).trans h
theorem Holds.drewN (h : Holds w g t cs) (n : Nat) : Holds (w.drewN n) g t cs := h
theorem Holds.store (h : Holds w g t cs) (i : Nat) (u : Value) : Holds (w.setCell ⟨g, i, none⟩ u) g t (cs.setIfInBounds i u) := by
  unfold Holds at h ⊢
  simp [World.setCell, Array.getElem?_modify, h]
theorem Holds.apart (h : Holds w g t cs) {p : Addr} (hp : g ≠ p.block) (u : Value) : Holds (w.setCell p u) g t cs := (Below.heap_setCell w p u g hp).trans h
theorem Holds.below {B : Nat} (h : Holds w g t cs) (hb : Below B w w') (hg : g < B) : Holds w' g t cs := (hb.block g hg).trans h
theorem Holds.grown {row : Option Nat} (h : Holds w g t cs) (hb : w.grownBy w' row) (hg : some g ≠ row) : Holds w' g t cs := (hb.block g h.lt hg).trans h
theorem Holds.row (h : Holds w g t cs) (cs' : Array Value) : Holds (w.setRow g cs') g t cs' := by
  unfold Holds at h ⊢
  simp [World.setRow, Array.getElem?_modify, h]
theorem Holds.rowApart (h : Holds w g t cs) {k : Nat} (hk : g ≠ k) (cs' : Array Value) : Holds (w.setRow k cs') g t cs := by
  unfold Holds at h ⊢
  simp only [World.setRow, Array.getElem?_modify]
  rw [if_neg (by omega)]
  exact h
end
theorem below_row {B : Nat} {a w : World} (h : Below B a w) {g : Nat} (hg : B ≤ g) (cs : Array Value) : Below B a (w.setRow g cs) :=
  h.trans ⟨rfl, rfl, rfl, by simp, fun k hk => by
    simp only [World.setRow, Array.getElem?_modify]
    rw [if_neg (by omega)]⟩

/-- The cells vs lie behind the address A, in a block below B. (No cell: A may be whatever it likes.) -/
def Row (w : World) (B : Nat) (A : Option Addr) (vs : List Value) : Prop :=
  vs ≠ [] → ∃ b off, A = some ⟨b, off, none⟩ ∧ b < B ∧ ∀ j u, vs[j]? = some u → w.cell? ⟨b, off + j, none⟩ = some u

section
variable {w w' : World} {B B' : Nat} {A : Option Addr} {vs : List Value}
theorem Row.nil_ (w : World) (B : Nat) (A : Option Addr) : Row w B A [] := fun h => absurd rfl h
theorem Row.keep (h : Row w B A vs) (hk : ∀ p : Addr, p.block < B → w'.cell? p = w.cell? p) : Row w' B A vs := fun hn => by
  obtain ⟨b, off, e, hb, hc⟩ := h hn
  exact ⟨b, off, e, hb, fun j u hu => (hk _ hb).trans (hc j u hu)⟩
theorem Row.more (h : Row w B A vs) (hB : B ≤ B') : Row w B' A vs := fun hn => by
  obtain ⟨b, off, e, hb, hc⟩ := h hn
  exact ⟨b, off, e, by omega, hc⟩
theorem Row.below (h : Row w B A vs) (hb : Below B w w') : Row w' B A vs := h.keep fun _ hp => hb.cell hp
theorem Row.at_ {k : Nat} (h : Row w B A vs) (hk : k < vs.length) : ∃ b off, A = some ⟨b, off, none⟩ ∧ b < B ∧ w.cell? ⟨b, off + k, none⟩ = some vs[k] := by
  obtain ⟨b, off, e, hb, hc⟩ := h (by intro h; subst h; simp at hk)
  exact ⟨b, off, e, hb, hc k _ (List.getElem?_eq_getElem hk)⟩
theorem Row.take (h : Row w B A vs) (k : Nat) : Row w B A (vs.take k) := fun hn => by
  obtain ⟨b, off, e, hb, hc⟩ := h (by rintro rfl; simp at hn)
  refine ⟨b, off, e, hb, fun j u hu => hc j u ?_⟩
  rw [List.getElem?_take] at hu
  split at hu
  · exact hu
  · cases hu
end

theorem ret_int {k : IntKind} {a b : Int} (h : a = b) : Ending.returned (.int k a) = .returned (.int k b) := by rw [h]
theorem ret_bool {a b : Bool} (h : a = b) : Ending.returned (.bool a) = .returned (.bool b) := by rw [h]

/-- A byte as a value. -/
def byteV (b : UInt8) : Value := .int .u8 b.toNat
/-- The bytes l lie behind A. -/
def Bytes (w : World) (B : Nat) (A : Option Addr) (l : List UInt8) : Prop := Row w B A (l.map byteV)
theorem Bytes.at_ {w : World} {B : Nat} {A : Option Addr} {l : List UInt8} {k : Nat} (h : Bytes w B A l) (hk : k < l.length) :
    ∃ b off, A = some ⟨b, off, none⟩ ∧ b < B ∧ w.cell? ⟨b, off + k, none⟩ = some (.int .u8 l[k].toNat) := by
  obtain ⟨b, off, e, hb, hc⟩ := Row.at_ h (k := k) (by simpa using hk)
  exact ⟨b, off, e, hb, by simpa [byteV] using hc⟩
/-- The slices ls of bytes lie behind A, each with its bytes. -/
def Slices (w : World) (B : Nat) (A : Option Addr) (ls : List (List UInt8)) : Prop :=
  ∃ vs : List Value, vs.length = ls.length ∧ Row w B A vs ∧ ∀ i (h : i < ls.length), ∃ Ai ci, vs[i]? = some (.slice Ai ls[i].length ci) ∧ Bytes w B Ai ls[i] ∧ ls[i].length ≤ maxLen
theorem Slices.below {w w' : World} {B : Nat} {A : Option Addr} {ls : List (List UInt8)} (h : Slices w B A ls) (hb : Below B w w') : Slices w' B A ls := by
  obtain ⟨vs, hl, hr, hi⟩ := h
  exact ⟨vs, hl, hr.below hb, fun i hlt => by
    obtain ⟨Ai, ci, h1, h2, h3⟩ := hi i hlt
    exact ⟨Ai, ci, h1, Row.below h2 hb, h3⟩⟩
theorem Slices.more {w : World} {B B' : Nat} {A : Option Addr} {ls : List (List UInt8)} (h : Slices w B A ls) (hB : B ≤ B') : Slices w B' A ls := by
  obtain ⟨vs, hl, hr, hi⟩ := h
  exact ⟨vs, hl, hr.more hB, fun i hlt => by
    obtain ⟨Ai, ci, h1, h2, h3⟩ := hi i hlt
    exact ⟨Ai, ci, h1, Row.more h2 hB, h3⟩⟩
theorem Slices.at_ {w : World} {B : Nat} {A : Option Addr} {ls : List (List UInt8)} {k : Nat} (h : Slices w B A ls) (hk : k < ls.length) :
    ∃ b off Ai ci, A = some ⟨b, off, none⟩ ∧ b < B ∧ w.cell? ⟨b, off + k, none⟩ = some (.slice Ai ls[k].length ci) ∧ Bytes w B Ai ls[k] ∧ ls[k].length ≤ maxLen := by
  obtain ⟨vs, hl, hr, hi⟩ := h
  obtain ⟨Ai, ci, h1, h2, h3⟩ := hi k hk
  obtain ⟨b, off, e, hb, hc⟩ := hr.at_ (k := k) (by omega)
  have : vs[k]'(by omega) = .slice Ai ls[k].length ci := by
    have h4 := List.getElem?_eq_getElem (l := vs) (i := k) (by omega)
    rw [h4] at h1
    exact Option.some.inj h1
  exact ⟨b, off, Ai, ci, e, hb, by rw [hc, this], h2, h3⟩

theorem Row.ofHolds {w : World} {g B : Nat} {t : TypeId} {cs : Array Value} (h : Holds w g t cs) (hB : g < B) : Row w B (some ⟨g, 0, none⟩) cs.toList :=
  fun _ => ⟨g, 0, rfl, hB, fun j u hu => by rw [Nat.zero_add, h.cell j]; simpa using hu⟩
theorem Bytes.ofHolds {w : World} {g B : Nat} {t : TypeId} (l : List UInt8) (h : Holds w g t (l.map byteV).toArray) (hB : g < B) : Bytes w B (some ⟨g, 0, none⟩) l := by
  have := Row.ofHolds h hB
  simpa [Bytes] using this
theorem Row.ofBlock {w : World} {g B : Nat} {t : TypeId} {cs : Array Value} {fr : Nat × Nat} (h : w.heap[g]? = some (.cells cs t fr)) (hB : g < B) : Row w B (some ⟨g, 0, none⟩) cs.toList :=
  fun _ => ⟨g, 0, rfl, hB, fun j u hu => by rw [Nat.zero_add, cell_of_row w g j cs t fr h]; simpa using hu⟩
/-- The strings ss lie behind A. -/
def Strs (w : World) (B : Nat) (A : Option Addr) (ss : List ByteArray) : Prop := Row w B A (ss.map Value.string)
theorem Strs.at_ {w : World} {B : Nat} {A : Option Addr} {ss : List ByteArray} {k : Nat} (h : Strs w B A ss) (hk : k < ss.length) :
    ∃ b off, A = some ⟨b, off, none⟩ ∧ b < B ∧ w.cell? ⟨b, off + k, none⟩ = some (.string ss[k]) := by
  obtain ⟨b, off, e, hb, hc⟩ := Row.at_ h (k := k) (by simpa using hk)
  exact ⟨b, off, e, hb, by simpa using hc⟩

/-- The text of the bytes l. -/
def strV (l : List UInt8) : ByteArray := ⟨l.toArray⟩
theorem strV_size (l : List UInt8) : (strV l).size = l.length := by simp [strV, ByteArray.size]
theorem strOf_bytes (l : List UInt8) : strOfNums (l.map fun b => (b.toNat : Int)) = strV l := by
  unfold strOfNums strV
  rw [List.map_map, show ((fun n : Int => UInt8.ofNat n.toNat) ∘ fun b : UInt8 => (b.toNat : Int)) = id from funext fun b => by simp, List.map_id]
theorem run_text {P : Program} (w : World) (src e : TypeId) (hs : P.underlying src = some (.slice e)) (he : P.underlying e = some (.int .u8)) {B : Nat} (A : Option Addr) (n c : Nat) (l : List UInt8) (hn : l.length = n) (hb : Bytes w B A l) :
    ∀ dst, P.underlying dst = some .string → (convert src dst (.slice A n c)).run P w = .ok (.string (strV l)) w := by
  intro dst hd
  subst hn
  cases l with
  | nil =>
    rw [run_convert_bytes_string w src dst e _ _ c hs he hd]
    cases A with
    | none => simp [Conv.bytesToString]; rfl
    | some a =>
      have := run_bytesToString (P := P) w a 0 c [] (by simp [loadCells, loadCellsFrom])
      rw [show strV [] = ByteArray.empty from rfl]
      simpa using this
  | cons b l =>
    obtain ⟨g, off, rfl, _, hc⟩ := hb (by simp)
    have := run_convert_bytes_arg (P := P) w src e hs he g off (b :: l).length c ((b :: l).map fun b => (b.toNat : Int)) (by simp) (fun i hi => hc i _ (by
      simp only [List.getElem?_map, List.getElem?_eq_getElem hi, Option.map_some, byteV, List.getD_eq_getElem?_getD, Option.getD_some])) dst hd
    rw [strOf_bytes] at this
    exact this

/-- What a row of the call's own holds, read as cells behind its address. -/
theorem own_row {w : World} {base : Nat} {e : TypeId} {v : Value} {n : Nat} {xs : List Value} (h : w.ownsRow base e 1 v n xs) : ∃ A c, v = .slice A n c ∧ Row w w.heap.size A xs ∧ xs.length = n ∧ n ≤ c := by
  have hl := h.1
  rcases h.2 with ⟨rfl, rfl⟩ | ⟨g, cap, cur, rfl, hg, hh, hn, _⟩
  · have : xs = [] := List.eq_nil_of_length_eq_zero (by omega)
    subst this
    exact ⟨none, 0, rfl, Row.nil_ _ _ _, rfl, Nat.le_refl _⟩
  · refine ⟨_, cap, rfl, fun _ => ⟨g, 0, rfl, (Array.getElem?_eq_some_iff.1 hh).1, fun j u hu => ?_⟩, by omega, hn⟩
    have := h.cells (g := g) rfl j u hu
    have hadd : (⟨g, 0, none⟩ : Addr).add j = ⟨g, 0 + j, none⟩ := by unfold Addr.add; split <;> simp_all
    rw [← hadd]
    exact this

theorem Bytes.below {w w' : World} {B : Nat} {A : Option Addr} {l : List UInt8} (h : Bytes w B A l) (hb : Below B w w') : Bytes w' B A l := Row.below h hb
theorem Bytes.more {w : World} {B B' : Nat} {A : Option Addr} {l : List UInt8} (h : Bytes w B A l) (hB : B ≤ B') : Bytes w B' A l := Row.more h hB
theorem Bytes.up {w w' : World} {A : Option Addr} {l : List UInt8} (h : Bytes w w.heap.size A l) (hb : Below w.heap.size w w') : Bytes w' w'.heap.size A l := (h.below hb).more hb.size
theorem Slices.up {w w' : World} {A : Option Addr} {l : List (List UInt8)} (h : Slices w w.heap.size A l) (hb : Below w.heap.size w w') : Slices w' w'.heap.size A l := (h.below hb).more hb.size
theorem Strs.up {w w' : World} {A : Option Addr} {l : List ByteArray} (h : Strs w w.heap.size A l) (hb : Below w.heap.size w w') : Strs w' w'.heap.size A l := Row.more (Row.below h hb) hb.size
theorem Bytes.take {w : World} {B : Nat} {A : Option Addr} {l : List UInt8} (h : Bytes w B A l) (k : Nat) : Bytes w B A (l.take k) := by
  have := Row.take h k
  rw [← List.map_take] at this
  exact this
/-- A cut 's[k:]' as the model spells its address. -/
theorem Row.cut {w : World} {B : Nat} {A : Option Addr} {vs : List Value} (h : Row w B A vs) (k : Nat) {c : Nat} (hc : vs.length ≤ c) : Row w B (if c = k then A else A.map (·.add k)) (vs.drop k) := fun hn => by
  have hk : k < vs.length := by
    rcases Nat.lt_or_ge k vs.length with h1 | h1
    · exact h1
    · exact absurd (List.drop_eq_nil_of_le h1) hn
  obtain ⟨b, off, rfl, hb, hcell⟩ := h (by rintro rfl; simp at hk)
  rw [if_neg (by omega)]
  refine ⟨b, off + k, by unfold Addr.add; simp only [Option.map_some]; split <;> simp_all, hb, fun j u hu => ?_⟩
  rw [Nat.add_assoc]
  exact hcell (k + j) u (by rw [← hu, List.getElem?_drop])
theorem Bytes.cut {w : World} {B : Nat} {A : Option Addr} {l : List UInt8} (h : Bytes w B A l) (k : Nat) {c : Nat} (hc : l.length ≤ c) : Bytes w B (if c = k then A else A.map (·.add k)) (l.drop k) := by
  have := Row.cut h k (c := c) (by simpa using hc)
  rw [← List.map_drop] at this
  exact this
theorem Row.fresh (w : World) (t : TypeId) (vs : List Value) : Row (w.alloc (.cells vs.toArray t)) (w.alloc (.cells vs.toArray t)).heap.size (some ⟨w.heap.size, 0, none⟩) vs := by
  have := Row.ofBlock (heap_alloc_new w (.cells vs.toArray t)) (B := (w.alloc (.cells vs.toArray t)).heap.size) (by simp)
  simpa using this
theorem Slices.one {w : World} (t : TypeId) {A : Option Addr} {n c : Nat} {l : List UInt8} (hn : l.length = n) (hm : n ≤ maxLen) (h : Bytes w w.heap.size A l) :
    Slices (w.alloc (.cells #[.slice A n c] t)) (w.alloc (.cells #[.slice A n c] t)).heap.size (some ⟨w.heap.size, 0, none⟩) [l] := by
  subst hn
  refine ⟨_, rfl, Row.fresh w t [.slice A l.length c], fun i hi => ?_⟩
  match i, hi with
  | 0, _ => exact ⟨A, c, rfl, h.up ((Below.refl _ _).alloc (Nat.le_refl _) _), hm⟩
theorem Slices.two {w : World} (t : TypeId) {A A' : Option Addr} {n c n' c' : Nat} {l l' : List UInt8} (hn : l.length = n) (hm : n ≤ maxLen) (h : Bytes w w.heap.size A l) (hn' : l'.length = n') (hm' : n' ≤ maxLen) (h' : Bytes w w.heap.size A' l') :
    Slices (w.alloc (.cells #[.slice A n c, .slice A' n' c'] t)) (w.alloc (.cells #[.slice A n c, .slice A' n' c'] t)).heap.size (some ⟨w.heap.size, 0, none⟩) [l, l'] := by
  subst hn hn'
  refine ⟨_, rfl, Row.fresh w t [.slice A l.length c, .slice A' l'.length c'], fun i hi => ?_⟩
  match i, hi with
  | 0, _ => exact ⟨A, c, rfl, h.up ((Below.refl _ _).alloc (Nat.le_refl _) _), hm⟩
  | 1, _ => exact ⟨A', c', rfl, h'.up ((Below.refl _ _).alloc (Nat.le_refl _) _), hm'⟩
theorem Strs.new (w : World) (t : TypeId) (ss : List ByteArray) : Strs (w.alloc (.cells (ss.map Value.string).toArray t)) (w.alloc (.cells (ss.map Value.string).toArray t)).heap.size (some ⟨w.heap.size, 0, none⟩) ss := Row.fresh w t _
theorem below_new (w : World) (o : Obj) : Below w.heap.size w (w.alloc o) := (Below.refl _ _).alloc (Nat.le_refl _) _

end Go.Proofs.YtelglbblgkhcmaaGreat
