/-
  A region's class: until its last operation nothing of ahead has turned; behind it a fact. No program in sight.
-/
import Derived.Test.YtelglbblgkhcmaaGreatRelL
import Derived.Test.YtelglbblgkhcmaaGreatBase
namespace Go.Proofs.YtelglbblgkhcmaaGreat
open Go.RowKit

/-- A region's class: until operation n nothing of ahead has turned; behind it F. -/
def CS (n m : Nat) (w0 : World) (F : World → Prop) (L : Nat → Bool) (w : World) : Prop := (L n = false → Below w0.heap.size w0 w) ∧ (L n = true → L m = true ∧ F w)
section
variable {n m i : Nat} {w0 w w' : World} {F : World → Prop} {L : Nat → Bool}
theorem CS.bel (h : CS n m w0 F L w) (hn : L n = false) : Below w0.heap.size w0 w := h.1 hn
theorem CS.go0 (hn : L n = false) (hi : n ≠ i) (hb : Below w0.heap.size w0 w') : CS n m w0 F (fun k => k == i || L k) w' :=
  ⟨fun _ => hb, fun e => by simp [hi, hn] at e⟩
theorem CS.go (h : CS n m w0 F L w) (hn : L n = false) (hi : n ≠ i) (hb : Below w.heap.size w w') : CS n m w0 F (fun k => k == i || L k) w' := CS.go0 hn hi ((h.1 hn).trans (hb.mono (h.1 hn).size))
theorem CS.last (hm : L m = true) (hF : F w') : CS n m w0 F (fun k => k == n || L k) w' := ⟨fun e => by simp at e, fun _ => ⟨by simp [hm], hF⟩⟩
theorem Till.keepM {R : World → Value → Prop} {v : Value} (h : Till m R L w v) (hC' : CS n m w0 F (fun k => k == i || L k) w') (hG : i ≠ m → i ≠ n → Below w.heap.size w w') (hk : Below w.heap.size w w' → R w v → R w' v) : Till m R (fun k => k == i || L k) w' v := fun e => by
  simp only [Bool.or_eq_false_iff, beq_eq_false_iff_ne] at e
  by_cases h1 : i = n
  · subst h1
    have := (hC'.2 (by simp)).1
    simp only [Bool.or_eq_true, beq_iff_eq] at this
    rcases this with h2 | h2
    · exact absurd h2 e.1
    · rw [e.2] at h2; cases h2
  · exact hk (hG (fun h => e.1 h.symm) h1) (h e.2)
theorem Till.keepN {R : World → Value → Prop} {v : Value} (h : Till n R L w v) (hne : i ≠ m) (hG : i ≠ m → i ≠ n → Below w.heap.size w w') (hk : Below w.heap.size w w' → R w v → R w' v) : Till n R (fun k => k == i || L k) w' v := fun e => by
  simp only [Bool.or_eq_false_iff, beq_eq_false_iff_ne] at e
  exact hk (hG hne (fun h => e.1 h.symm)) (h e.2)
end
end Go.Proofs.YtelglbblgkhcmaaGreat
