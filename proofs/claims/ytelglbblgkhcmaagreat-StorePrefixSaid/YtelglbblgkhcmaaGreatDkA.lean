/-
  What a disk is in memory: a struct, two maps, the bytes that they lead to.
-/
import Derived.Test.YtelglbblgkhcmaaGreatIMap
namespace Go.Proofs.YtelglbblgkhcmaaGreat
open Go.RowKit

/-- A slice of bytes that lies in a map. -/
structure Pay where
  A : Option Addr
  c : Nat
  l : List UInt8
def Pay.val (p : Pay) : Value := .slice p.A p.l.length p.c
def PayAt (w : World) (p : Pay) : Prop := RowAt w p.A (p.l.map byteV)
/-- A disk: where its parts lie, and what they hold. -/
structure DR where
  g : Nat
  md : Nat
  mw : Nat
  n : Nat
  size : Nat
  dur : Int → Option Pay
  wr : Int → Option Pay
  dead : Bool
  cut : Bool
  left : Nat
def DR.cells (q : DR) : Array Value := #[.int .i64 q.n, .int .i64 q.size, .map (some q.md), .map (some q.mw), .bool q.dead, .bool q.cut, .int .i64 q.left]
def DR.has (q : DR) (k : Int) (p : Pay) : Prop := q.dur k = some p ∨ q.wr k = some p
def DR.F (q : DR) (x : Nat) : Prop := x = q.g ∨ x = q.md ∨ x = q.mw ∨ ∃ k p, q.has k p ∧ blk p.A = some x
structure DiskP (q : DR) (w : World) : Prop where
  hold : Holds w q.g 71 q.cells
  md : IMap w q.md (fun k => (q.dur k).map Pay.val)
  mw : IMap w q.mw (fun k => (q.wr k).map Pay.val)
  pay : ∀ k p, q.has k p → PayAt w p ∧ p.l.length = q.size ∧ p.l.length ≤ p.c
  key : ∀ k p, q.has k p → 0 ≤ k ∧ k < q.n
  ne : q.md ≠ q.mw
  n1 : 1 ≤ q.n
  n2 : q.n ≤ 4096
  s1 : 64 ≤ q.size
  s2 : q.size ≤ 4096
  left : q.left ≤ 9223372036854775807
theorem PayAt.loc {w w' : World} {p : Pay} (h : PayAt w p) (hb : ∀ x, blk p.A = some x → w'.heap[x]? = w.heap[x]?) : PayAt w' p := fun hn => by
  obtain ⟨b, off, e, hc⟩ := h hn
  exact ⟨b, off, e, fun j u hu => (World.cell?_of_block (hb b (by rw [e]; rfl))).trans (hc j u hu)⟩
theorem DiskP.loc {q : DR} {w w' : World} (hb : ∀ x, q.F x → w'.heap[x]? = w.heap[x]?) (h : DiskP q w) : DiskP q w' :=
  ⟨(hb q.g (.inl rfl)).trans h.hold, h.md.loc (hb _ (.inr (.inl rfl))), h.mw.loc (hb _ (.inr (.inr (.inl rfl)))), fun k p hp => ⟨(h.pay k p hp).1.loc (fun x hx => hb x (.inr (.inr (.inr ⟨k, p, hp, hx⟩)))), (h.pay k p hp).2⟩, h.key, h.ne, h.n1, h.n2, h.s1, h.s2, h.left⟩
def DiskC (q : DR) : Ch := ⟨q.F, DiskP q, fun _ _ hb h => h.loc hb⟩
theorem PayAt.lt {w : World} {p : Pay} (h : PayAt w p) (hl : 0 < p.l.length) {x : Nat} (hx : blk p.A = some x) : x < w.heap.size := by
  obtain ⟨b, off, e, hc⟩ := h (by intro h; simp at h; rw [h] at hl; simp at hl)
  rw [e] at hx
  simp [blk] at hx
  subst hx
  have h0 := hc 0 (byteV p.l[0]) (by simp [hl])
  exact cell_lt h0
theorem DiskP.lt {q : DR} {w : World} (h : DiskP q w) : ∀ x, q.F x → x < w.heap.size := by
  rintro x (rfl | rfl | rfl | ⟨k, p, hp, hx⟩)
  · exact h.hold.lt
  · exact h.md.lt
  · exact h.mw.lt
  · obtain ⟨h1, h2, h3⟩ := h.pay k p hp
    exact h1.lt (by have := h.s1; omega) hx
theorem DiskP.below {q : DR} {w w' : World} (h : DiskP q w) (hb : Below w.heap.size w w') : DiskP q w' := h.loc (fun x hx => hb.block x (h.lt x hx))
theorem DiskP.f0 {q : DR} {w : World} (h : DiskP q w) : w.cell? ⟨q.g, 0, none⟩ = some (.int .i64 q.n) := h.hold.cell 0
theorem DiskP.f1 {q : DR} {w : World} (h : DiskP q w) : w.cell? ⟨q.g, 1, none⟩ = some (.int .i64 q.size) := h.hold.cell 1
theorem DiskP.f2 {q : DR} {w : World} (h : DiskP q w) : w.cell? ⟨q.g, 2, none⟩ = some (.map (some q.md)) := h.hold.cell 2
theorem DiskP.f3 {q : DR} {w : World} (h : DiskP q w) : w.cell? ⟨q.g, 3, none⟩ = some (.map (some q.mw)) := h.hold.cell 3
theorem DiskP.f4 {q : DR} {w : World} (h : DiskP q w) : w.cell? ⟨q.g, 4, none⟩ = some (.bool q.dead) := h.hold.cell 4
theorem DiskP.f5 {q : DR} {w : World} (h : DiskP q w) : w.cell? ⟨q.g, 5, none⟩ = some (.bool q.cut) := h.hold.cell 5
theorem DiskP.f6 {q : DR} {w : World} (h : DiskP q w) : w.cell? ⟨q.g, 6, none⟩ = some (.int .i64 q.left) := h.hold.cell 6
/-- The bytes that are sure, and those written last. -/
def DR.safe (q : DR) (k : Int) : List UInt8 := match q.dur k with | some p => p.l | none => List.replicate q.size 0
def DR.last (q : DR) (k : Int) : List UInt8 := match q.wr k with | some p => p.l | none => q.safe k
theorem DiskP.safe_len {q : DR} {w : World} (h : DiskP q w) (k : Int) : (q.safe k).length = q.size := by
  unfold DR.safe
  cases e : q.dur k with
  | none => simp
  | some p => exact (h.pay k p (.inl e)).2.1
theorem DiskP.last_len {q : DR} {w : World} (h : DiskP q w) (k : Int) : (q.last k).length = q.size := by
  unfold DR.last
  cases e : q.wr k with
  | none => exact h.safe_len k
  | some p => exact (h.pay k p (.inr e)).2.1
/-- Bytes lie in no block of the disk that its methods write. -/
theorem byte_apart {w : World} {q : DR} (h : DiskP q w) {A : Option Addr} {l : List UInt8} (hb : RowAt w A (l.map byteV)) (hl : l ≠ []) {x : Nat} (hx : blk A = some x) : x ≠ q.g ∧ x ≠ q.md ∧ x ≠ q.mw := by
  obtain ⟨b, off, e, hc⟩ := hb (by simpa using hl)
  rw [e] at hx
  simp [blk] at hx
  subst hx
  rcases l with _ | ⟨y, r⟩
  · exact absurd rfl hl
  have h0 := hc 0 (byteV y) rfl
  refine ⟨?_, ?_, ?_⟩
  · rintro rfl
    rw [h.hold.cell] at h0
    match off, h0 with
    | 0, h0 => simp [DR.cells, byteV] at h0
    | 1, h0 => simp [DR.cells, byteV] at h0
    | 2, h0 => simp [DR.cells, byteV] at h0
    | 3, h0 => simp [DR.cells, byteV] at h0
    | 4, h0 => simp [DR.cells, byteV] at h0
    | 5, h0 => simp [DR.cells, byteV] at h0
    | 6, h0 => simp [DR.cells, byteV] at h0
    | k + 7, h0 => simp [DR.cells] at h0
  · rintro rfl
    obtain ⟨⟨n, D, _, ⟨es, clock, hm, _⟩, _⟩, _⟩ := h.md
    simp [World.cell?, hm] at h0
  · rintro rfl
    obtain ⟨⟨n, D, _, ⟨es, clock, hm, _⟩, _⟩, _⟩ := h.mw
    simp [World.cell?, hm] at h0
/-- v is a slice of the bytes l, new since w. -/
def NewB (w w' : World) (l : List UInt8) (v : Value) : Prop := w'.ownsRow w.heap.size 5 1 v l.length (l.map byteV)
theorem Tryz.infoU8 : (Tryz.prog.info? 5).map (fun i => (i.zero, i.size, i.bytes)) = some (some (.int .u8 0), 1, 1) := by kernel_rfl
theorem Tryz.sizeU8 : (Tryz.prog.info? 5).map (·.size) = some 1 := by kernel_rfl
theorem byte_one {l : List UInt8} : ∀ u ∈ l.map byteV, u.oneCell' = true := by
  intro u hu
  obtain ⟨x, _, rfl⟩ := List.mem_map.1 hu
  rfl
theorem grown_none {w w' : World} (h : w.grownBy w' none) : Below w.heap.size w w' := ⟨h.os, h.tape, h.output, h.size, fun k hk => h.block k hk (by simp)⟩
theorem own_empty (w : World) (B : Nat) (hB : B ≤ w.heap.size) : (w.alloc (.cells #[] 5)).ownsRow B 5 1 (.slice (some ⟨w.heap.size, 0, none⟩) 0 0) 0 [] :=
  ⟨rfl, .inr ⟨w.heap.size, 0, #[], rfl, hB, heap_alloc_new w _, Nat.le_refl _, by unfold maxLen; omega, rfl, rfl⟩⟩
end Go.Proofs.YtelglbblgkhcmaaGreat
