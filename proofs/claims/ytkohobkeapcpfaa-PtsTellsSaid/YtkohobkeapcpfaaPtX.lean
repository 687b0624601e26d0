/-
  Plain laws of pointers held against one another.
-/
import Derived.Test.YtkohobkeapcpfaaPtK
namespace Go.Proofs.Ytkohobkeapcpfaa
open Go.RowKit

/-- A pointer, its cells rising, each once. -/
def cz (p : Pz) : Pz := ⟨p.nul, canon p.cells⟩
theorem leq_iff {a b : Pz} : leqS a b = true ↔ (a.nul = true → b.nul = true) ∧ ∀ x ∈ a.cells, x ∈ b.cells := by
  simp only [leqS, Bool.and_eq_true, List.all_eq_true, decide_eq_true_eq, Bool.or_eq_true, Bool.not_eq_true']
  refine and_congr ?_ Iff.rfl
  cases a.nul <;> simp
theorem leq_refl (a : Pz) : leqS a a = true := leq_iff.2 ⟨id, fun _ h => h⟩
theorem leq_trans {a b c : Pz} (h : leqS a b = true) (h2 : leqS b c = true) : leqS a c = true :=
  leq_iff.2 ⟨fun e => (leq_iff.1 h2).1 ((leq_iff.1 h).1 e), fun x hx => (leq_iff.1 h2).2 x ((leq_iff.1 h).2 x hx)⟩
theorem leq_anti {a b : Pz} (h : leqS (cz a) (cz b) = true) (h2 : leqS (cz b) (cz a) = true) : sameP (cz a) (cz b) = true := by
  have h := leq_iff.1 h
  have h2 := leq_iff.1 h2
  simp only [sameP, Bool.and_eq_true, beq_iff_eq, decide_eq_true_eq]
  refine ⟨?_, (canon_up _).ext (canon_up _) fun x => ⟨h.2 x, h2.2 x⟩⟩
  cases h3 : (cz a).nul <;> cases h4 : (cz b).nul
  · rfl
  · have := h2.1 h4
    rw [h3] at this
    cases this
  · have := h.1 h3
    rw [h4] at this
    cases this
  · rfl
theorem leq_join (a b : Pz) : sameP (J2 (cz a) (cz b)) (cz b) = leqS (cz a) (cz b) := by
  rw [Bool.eq_iff_iff, leq_iff]
  simp only [sameP, Bool.and_eq_true, beq_iff_eq, decide_eq_true_eq]
  show ((cz a).nul || (cz b).nul) = (cz b).nul ∧ canon ((cz a).cells ++ (cz b).cells) = (cz b).cells ↔ _
  constructor
  · rintro ⟨h1, h2⟩
    refine ⟨fun e => by rw [e] at h1; simpa using h1.symm, fun x hx => ?_⟩
    have : x ∈ canon ((cz a).cells ++ (cz b).cells) := mem_canon.2 (List.mem_append_left _ hx)
    rw [h2] at this
    exact this
  · rintro ⟨h1, h2⟩
    refine ⟨?_, canon_of (canon_up _) fun x => ⟨fun h => ?_, fun h => List.mem_append_right _ h⟩⟩
    · cases h3 : (cz a).nul
      · rfl
      · rw [h1 h3]
        rfl
    · rcases List.mem_append.1 h with h | h
      · exact h2 x h
      · exact h
end Go.Proofs.Ytkohobkeapcpfaa
