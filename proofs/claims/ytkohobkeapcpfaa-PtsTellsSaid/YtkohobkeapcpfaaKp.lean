/-
  What a walk carries along: blocks that are known whole, rows of cells, and that nothing of ahead has turned. No program in sight.
-/
import Derived.Test.YtkohobkeapcpfaaBase
namespace Go.Proofs.Ytkohobkeapcpfaa
open Go.RowKit

/-- From w0 to w nothing below w0's end has turned; the blocks Hs are known whole, the rows Rs lie in w. -/
structure Kp (w0 : World) (Hs : List (Nat × TypeId × Array Value)) (Rs : List (Option Addr × List Value)) (w : World) : Prop where
  bel : Below w0.heap.size w0 w
  hold : ∀ (i : Nat) g t cs, Hs[i]? = some (g, t, cs) → Holds w g t cs
  row : ∀ (i : Nat) A vs, Rs[i]? = some (A, vs) → Row w w.heap.size A vs

section
variable {w0 w w' : World} {Hs : List (Nat × TypeId × Array Value)} {Rs : List (Option Addr × List Value)}
theorem Kp.start (h : Below w0.heap.size w0 w) : Kp w0 [] [] w := ⟨h, fun i _ _ _ e => by simp at e, fun i _ _ e => by simp at e⟩
theorem Kp.up (h : Kp w0 Hs Rs w) (hb : Below w.heap.size w w') : Kp w0 Hs Rs w' :=
  ⟨h.bel.trans (hb.mono h.bel.size), fun i _ _ _ e => (h.hold i _ _ _ e).below hb (h.hold i _ _ _ e).lt, fun i _ _ e => ((h.row i _ _ e).below hb).more hb.size⟩
theorem Kp.addH (h : Kp w0 Hs Rs w) {g : Nat} {t : TypeId} {cs : Array Value} (hg : Holds w g t cs) : Kp w0 ((g, t, cs) :: Hs) Rs w :=
  ⟨h.bel, fun i _ _ _ e => by
    cases i with
    | zero => simp at e; obtain ⟨rfl, rfl, rfl⟩ := e; exact hg
    | succ i => exact h.hold i _ _ _ (by simpa using e), h.row⟩
theorem Kp.addR (h : Kp w0 Hs Rs w) {A : Option Addr} {vs : List Value} (hr : Row w w.heap.size A vs) : Kp w0 Hs ((A, vs) :: Rs) w :=
  ⟨h.bel, h.hold, fun i _ _ e => by
    cases i with
    | zero => simp at e; obtain ⟨rfl, rfl⟩ := e; exact hr
    | succ i => exact h.row i _ _ (by simpa using e)⟩
theorem Kp.new (h : Kp w0 Hs Rs w) (t : TypeId) (cs : Array Value) : Kp w0 ((w.heap.size, t, cs) :: Hs) Rs (w.alloc (.cells cs t)) :=
  (h.up (below_new w _)).addH (Holds.new w t cs)
theorem Kp.fact (h : Kp w0 Hs Rs w) (i j : Nat) {g : Nat} {t : TypeId} {cs : Array Value} {v : Value} (hi : Hs[i]? = some (g, t, cs)) (hv : cs[j]? = some v) : g < w.heap.size ∧ w.cell? ⟨g, j, none⟩ = some v :=
  ⟨(h.hold i _ _ _ hi).lt, by rw [(h.hold i _ _ _ hi).cell]; exact hv⟩
theorem Kp.drew (h : Kp w0 Hs Rs w) : Kp w0 Hs Rs w.drew := h.up (Below.refl _ _).drew
theorem Kp.drewN (h : Kp w0 Hs Rs w) (n : Nat) : Kp w0 Hs Rs (w.drewN n) := h.up ⟨rfl, rfl, rfl, Nat.le_refl _, fun _ _ => rfl⟩
theorem Kp.size (h : Kp w0 Hs Rs w) : w0.heap.size ≤ w.heap.size := h.bel.size
end
end Go.Proofs.Ytkohobkeapcpfaa
