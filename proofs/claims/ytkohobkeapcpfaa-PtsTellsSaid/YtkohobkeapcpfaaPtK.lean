/-
  Plain laws of joins.
-/
import Derived.Test.YtkohobkeapcpfaaPtI
import Derived.Test.YtkohobkeapcpfaaPtC
import Derived.Test.YtkohobkeapcpfaaPtE
namespace Go.Proofs.Ytkohobkeapcpfaa
open Go.RowKit

def J2 (a b : Pz) : Pz := ⟨a.nul || b.nul, canon (a.cells ++ b.cells)⟩
theorem J2_len (a b : Pz) : (J2 a b).cells.length ≤ a.cells.length + b.cells.length := by
  unfold J2
  refine Nat.le_trans (canon_len _) ?_
  simp
theorem joinP_two {L : List Pq} {p q : Pz} (h : L.map (·.p) = [p, q]) : joinP L = J2 p q := by
  match L, h with
  | [x, y], h =>
    simp only [List.map_cons, List.map_nil, List.cons.injEq, and_true] at h
    obtain ⟨rfl, rfl⟩ := h
    simp [joinP, J2]
theorem joinP_one {L : List Pq} {p : Pz} (h : L.map (·.p) = [p]) : joinP L = ⟨p.nul, canon p.cells⟩ := by
  match L, h with
  | [x], h =>
    simp only [List.map_cons, List.map_nil, List.cons.injEq, and_true] at h
    subst h
    simp [joinP]
theorem J2_comm (a b : Pz) : J2 a b = J2 b a := by
  unfold J2
  rw [Bool.or_comm, canon_ext (l := a.cells ++ b.cells) (l' := b.cells ++ a.cells) fun x => by simp [or_comm]]
theorem J2_assoc (a b c : Pz) : J2 (J2 a b) c = J2 a (J2 b c) := by
  unfold J2
  rw [Bool.or_assoc]
  congr 1
  exact canon_ext fun x => by simp only [List.mem_append, mem_canon, or_assoc]
theorem sameP_rfl (a : Pz) : sameP a a = true := by simp [sameP]
theorem leq_left (a b : Pz) : leqS a (J2 a b) = true := by
  simp only [leqS, J2, Bool.and_eq_true, List.all_eq_true, decide_eq_true_eq, mem_canon]
  exact ⟨by cases a.nul <;> simp, fun x hx => List.mem_append_left _ hx⟩
theorem leq_right (a b : Pz) : leqS b (J2 a b) = true := by rw [J2_comm]; exact leq_left b a
theorem leq_lub {a b c : Pz} (h1 : leqS a c = true) (h2 : leqS b c = true) : leqS (J2 a b) c = true := by
  simp only [leqS, J2, Bool.and_eq_true, List.all_eq_true, decide_eq_true_eq, mem_canon] at h1 h2 ⊢
  refine ⟨?_, fun x hx => ?_⟩
  · have := h1.1
    have := h2.1
    revert h1 h2
    cases a.nul <;> cases b.nul <;> cases c.nul <;> simp
  · rcases List.mem_append.1 hx with h | h
    · exact h1.2 x h
    · exact h2.2 x h
theorem canon_empty (l : List S) : (canon l).isEmpty = l.isEmpty := by
  cases l with
  | nil => rw [canon_nil]
  | cons x r =>
    have h : x ∈ canon (x :: r) := mem_canon.2 (List.mem_cons_self ..)
    cases hc : canon (x :: r) with
    | nil => rw [hc] at h; cases h
    | cons y s => rfl
/-- A null part and a part without it make the whole. -/
theorem parts_whole (a : Pz) : J2 ⟨false, canon a.cells⟩ ⟨a.nul, []⟩ = ⟨a.nul, canon a.cells⟩ := by
  unfold J2
  simp only [Bool.false_or, List.append_nil, canon_canon]
/-- A row of pointers made on the spot. -/
def PLs (w : World) (ps : List Pz) (v : Value) : Prop := ∃ A c L, v = .slice A ps.length c ∧ L.map Pq.p = ps ∧ PtsL w w.heap.size A L
theorem PLs.up {w w' : World} {ps : List Pz} {v : Value} (h : PLs w ps v) (hb : Below w.heap.size w w') : PLs w' ps v := by
  obtain ⟨A, c, L, e, h1, h2⟩ := h
  exact ⟨A, c, L, e, h1, h2.up hb⟩
theorem PLs.two (w : World) (t : TypeId) {p q : Pz} {A B : Option Addr} {c d : Nat} (h1 : Row w w.heap.size A (p.cells.map encStr)) (h2 : p.cells.length ≤ c) (h3 : Row w w.heap.size B (q.cells.map encStr)) (h4 : q.cells.length ≤ d) :
    PLs (w.alloc (.cells #[.bool p.nul, .slice A p.cells.length c, .bool q.nul, .slice B q.cells.length d] t)) [p, q] (.slice (some ⟨w.heap.size, 0, none⟩) 2 2) :=
  ⟨_, _, [⟨p, A, c⟩, ⟨q, B, d⟩], rfl, rfl, PtsL.fresh w t _ _ rfl (by
    intro x hx
    simp only [List.mem_cons, List.not_mem_nil, or_false] at hx
    rcases hx with rfl | rfl
    · exact ⟨h1, h2⟩
    · exact ⟨h3, h4⟩)⟩
theorem PLs.one (w : World) (t : TypeId) {p : Pz} {A : Option Addr} {c : Nat} (h1 : Row w w.heap.size A (p.cells.map encStr)) (h2 : p.cells.length ≤ c) :
    PLs (w.alloc (.cells #[.bool p.nul, .slice A p.cells.length c] t)) [p] (.slice (some ⟨w.heap.size, 0, none⟩) 1 1) :=
  ⟨_, _, [⟨p, A, c⟩], rfl, rfl, PtsL.fresh w t _ _ rfl (by
    intro x hx
    simp only [List.mem_cons, List.not_mem_nil, or_false] at hx
    subst hx
    exact ⟨h1, h2⟩)⟩
theorem join_two (w : World) {p q : Pz} {A : Option Addr} {c : Nat} {L : List Pq} (hl : L.map Pq.p = [p, q]) (h : PtsL w w.heap.size A L) (h1 : p.cells.length ≤ 1000) (h2 : q.cells.length ≤ 1000) :
    Calls Try.prog 11 #[.slice A 2 c] w (RetP w (J2 p q)) := by
  have hlen : L.length = 2 := by rw [← List.length_map (f := Pq.p), hl]; rfl
  have := join_any w A 2 c L hlen (by decide) h (fun x hx => by
    have hm : x.p ∈ L.map Pq.p := List.mem_map.2 ⟨x, hx, rfl⟩
    rw [hl] at hm
    simp only [List.mem_cons, List.not_mem_nil, or_false] at hm
    rcases hm with e | e <;> rw [e] <;> assumption)
  rw [joinP_two hl] at this
  exact this
theorem join_one (w : World) {p : Pz} {A : Option Addr} {c : Nat} {L : List Pq} (hl : L.map Pq.p = [p]) (h : PtsL w w.heap.size A L) (h1 : p.cells.length ≤ 1000) :
    Calls Try.prog 11 #[.slice A 1 c] w (RetP w ⟨p.nul, canon p.cells⟩) := by
  have hlen : L.length = 1 := by rw [← List.length_map (f := Pq.p), hl]; rfl
  have := join_any w A 1 c L hlen (by decide) h (fun x hx => by
    have hm : x.p ∈ L.map Pq.p := List.mem_map.2 ⟨x, hx, rfl⟩
    rw [hl] at hm
    simp only [List.mem_cons, List.not_mem_nil, or_false] at hm
    rw [hm]
    assumption)
  rw [joinP_one hl] at this
  exact this
end Go.Proofs.Ytkohobkeapcpfaa
