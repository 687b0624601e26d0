/-
  What a call may write: a list of blocks. Rows that lie apart from them are kept. No program in sight.
-/
import Derived.Test.YtelglbblgkhcmaaGreatOwn
namespace Go.Proofs.YtelglbblgkhcmaaGreat
open Go.RowKit

/-- Of the blocks that were there only those of M may have turned. -/
structure Writes (M : List (Option Nat)) (w w' : World) : Prop where
  os : w'.os = w.os
  tape : w'.tape = w.tape
  output : w'.output = w.output
  size : w.heap.size ≤ w'.heap.size
  block : ∀ k, k < w.heap.size → some k ∉ M → w'.heap[k]? = w.heap[k]?

section
variable {M M' : List (Option Nat)} {w w' w'' : World}
theorem Writes.refl (M : List (Option Nat)) (w : World) : Writes M w w := ⟨rfl, rfl, rfl, Nat.le_refl _, fun _ _ _ => rfl⟩
theorem Writes.of_below (h : Below w.heap.size w w') (M : List (Option Nat)) : Writes M w w' := ⟨h.os, h.tape, h.output, h.size, fun k hk _ => h.block k hk⟩
theorem Writes.of_grown {r : Option Nat} (h : w.grownBy w' r) (hr : r ∈ M) : Writes M w w' := ⟨h.os, h.tape, h.output, h.size, fun k hk hn => h.block k hk (fun e => hn (by rw [e]; exact hr))⟩
theorem Writes.store (w : World) {p : Addr} (hp : some p.block ∈ M) (u : Value) : Writes M w (w.setCell p u) :=
  ⟨rfl, rfl, rfl, by simp [World.setCell], fun k _ hn => Below.heap_setCell w p u k (fun e => hn (by rw [e]; exact hp))⟩
theorem Writes.alloc (M : List (Option Nat)) (w : World) (o : Obj) : Writes M w (w.alloc o) := .of_below (below_new w o) M
/-- One behind the other: the second may besides write what the first has made. -/
theorem Writes.then_ (h : Writes M w w') (h' : Writes M' w' w'') (hM : ∀ k, k < w.heap.size → some k ∈ M' → some k ∈ M) : Writes M w w'' :=
  ⟨h'.os.trans h.os, h'.tape.trans h.tape, h'.output.trans h.output, Nat.le_trans h.size h'.size, fun k hk hn =>
    (h'.block k (Nat.lt_of_lt_of_le hk h.size) (fun e => hn (hM k hk e))).trans (h.block k hk hn)⟩
theorem Writes.trans (h : Writes M w w') (h' : Writes M w' w'') : Writes M w w'' := h.then_ h' fun _ _ e => e
theorem Writes.more (h : Writes M w w') (hM : ∀ b ∈ M, b ∈ M') : Writes M' w w' := ⟨h.os, h.tape, h.output, h.size, fun k hk hn => h.block k hk (fun e => hn (hM _ e))⟩
theorem Writes.below {B : Nat} (h : Writes M w w') (hB : B ≤ w.heap.size) (hM : ∀ k, some k ∈ M → B ≤ k) : Below B w w' :=
  ⟨h.os, h.tape, h.output, h.size, fun k hk => h.block k (by omega) (fun e => by have := hM k e; omega)⟩
theorem Writes.heap (h : Writes M w w') {g : Nat} {o : Obj} (hg : w.heap[g]? = some o) (hn : some g ∉ M) : w'.heap[g]? = some o :=
  (h.block g (Array.getElem?_eq_some_iff.1 hg).1 hn).trans hg
theorem Writes.holds (h : Writes M w w') {g : Nat} {t : TypeId} {cs : Array Value} (hg : Holds w g t cs) (hn : some g ∉ M) : Holds w' g t cs := h.heap hg hn
theorem Writes.own (h : Writes M w w') {B : Nat} {e : TypeId} {v : Value} {n : Nat} {xs : List Value} {size : Nat} (ho : w.ownsRow B e size v n xs) (hn : v.ownBlock = none ∨ v.ownBlock ∉ M) : w'.ownsRow B e size v n xs := by
  refine ⟨ho.1, ?_⟩
  rcases ho.2 with h1 | ⟨g, cap, cur, rfl, hb, hg, r⟩
  · exact .inl h1
  · refine .inr ⟨g, cap, cur, rfl, hb, h.heap hg ?_, r⟩
    rcases hn with hn | hn
    · simp [Value.ownBlock] at hn
    · exact hn
/-- The block that an address lies in. -/
def blk (A : Option Addr) : Option Nat := A.map (·.block)
theorem Writes.row (h : Writes M w w') {B : Nat} {A : Option Addr} {vs : List Value} (hr : Row w B A vs) (hB : B ≤ w.heap.size) (hn : vs ≠ [] → blk A ∉ M) : Row w' B A vs := fun hne => by
  obtain ⟨b, off, rfl, hb, hc⟩ := hr hne
  refine ⟨b, off, rfl, hb, fun j u hu => ?_⟩
  have := h.block b (by omega) (hn hne)
  rw [← hc j u hu]
  exact World.cell?_of_block this
end

end Go.Proofs.YtelglbblgkhcmaaGreat
