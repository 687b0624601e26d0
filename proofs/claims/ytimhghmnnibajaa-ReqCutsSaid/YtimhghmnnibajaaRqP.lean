/-
  Plain laws of requests and replies: what is cut off, or goes on, is none.
-/
import Derived.Test.YtimhghmnnibajaaRqK
namespace Go.Proofs.Ytimhghmnnibajaa
open Go.RowKit

section
variable {α β : Type}
/-- More bytes behind change nothing of what is read. -/
def Stab (R : List UInt8 → Option (α × List UInt8)) : Prop := ∀ l x t m, R l = some (x, t) → R (l ++ m) = some (x, t ++ m)
/-- The bytes E are read whole, or not at all. -/
def Back (R : List UInt8 → Option (α × List UInt8)) (E : List UInt8) : Prop := ∀ t, R (E ++ t) = none ∨ ∃ x, R (E ++ t) = some (x, t)
def sq (R : List UInt8 → Option (α × List UInt8)) (S : List UInt8 → Option (β × List UInt8)) (l : List UInt8) : Option (β × List UInt8) := (R l).bind fun p => S p.2
theorem Stab.sq {R : List UInt8 → Option (α × List UInt8)} {S : List UInt8 → Option (β × List UInt8)} (h1 : Stab R) (h2 : Stab S) : Stab (sq R S) := by
  intro l x t m h
  unfold Go.Proofs.Ytimhghmnnibajaa.sq at h ⊢
  cases hr : R l with
  | none => rw [hr] at h; cases h
  | some p =>
    obtain ⟨y, u⟩ := p
    rw [hr] at h
    rw [h1 l y u m hr]
    exact h2 u x t m h
theorem Back.sq {R : List UInt8 → Option (α × List UInt8)} {S : List UInt8 → Option (β × List UInt8)} {E F : List UInt8} (h1 : Back R E) (h2 : Back S F) : Back (sq R S) (E ++ F) := by
  intro t
  unfold Go.Proofs.Ytimhghmnnibajaa.sq
  rw [List.append_assoc]
  rcases h1 (F ++ t) with h | ⟨x, h⟩
  · exact .inl (by rw [h]; rfl)
  · rw [h]
    exact h2 t
/-- Of bytes that are read whole, or not at all, no cut is read to its end. -/
theorem cut_not {R : List UInt8 → Option (α × List UInt8)} {E : List UInt8} (h1 : Stab R) (h2 : Back R E) {k : Nat} (hk : k < E.length) (x : α) : R (E.take k) ≠ some (x, []) := by
  intro h
  have := h1 _ _ _ (E.drop k) h
  rw [List.take_append_drop, List.nil_append] at this
  have hne : E.drop k ≠ [] := by
    intro e
    have := congrArg List.length e
    simp at this
    omega
  rcases h2 [] with e | ⟨y, e⟩
  · rw [List.append_nil] at e
    rw [e] at this
    cases this
  · rw [List.append_nil] at e
    rw [e] at this
    simp at this
    exact hne (by simp only [List.drop_eq_nil_iff]; exact this.2)
theorem more_not {R : List UInt8 → Option (α × List UInt8)} {E : List UInt8} (h2 : Back R E) (b : UInt8) (x : α) : R (E ++ [b]) ≠ some (x, []) := by
  intro h
  rcases h2 [b] with e | ⟨y, e⟩
  · rw [e] at h
    cases h
  · rw [e] at h
    simp at h
end
theorem rdN_stab : ∀ (k i v : Nat), Stab (rdN k i v)
  | 0, _, _ => fun l x t m h => by simp [rdN] at h
  | k + 1, i, v => fun l x t m h => by
    cases l with
    | nil => simp [rdN] at h
    | cons b l =>
      rw [List.cons_append]
      unfold rdN at h ⊢
      split at h
      · cases h
      · rename_i h1
        rw [if_neg h1]
        split at h
        · rename_i h2
          rw [if_pos h2]
          split at h
          · cases h
          · rename_i h3
            rw [if_neg h3]
            simp at h ⊢
            exact ⟨h.1, by rw [← h.2]⟩
        · rename_i h2
          rw [if_neg h2]
          exact rdN_stab k _ _ l x t m h
theorem numR_stab : Stab numR := rdN_stab 10 0 0
theorem intR_stab : Stab intR := by
  intro l x t m h
  unfold intR at h ⊢
  cases hn : numR l with
  | none => rw [hn] at h; cases h
  | some p =>
    rw [hn] at h
    rw [numR_stab l p.1 p.2 m hn]
    simp at h ⊢
    exact ⟨h.1, by rw [h.2]⟩
theorem smallR_stab : Stab smallR := by
  intro l x t m h
  unfold smallR at h ⊢
  cases hn : intR l with
  | none => rw [hn] at h; cases h
  | some p =>
    rw [hn] at h
    rw [intR_stab l p.1 p.2 m hn]
    simp only [Option.bind_some] at h ⊢
    split at h
    · rename_i h1
      rw [if_pos h1]
      simp at h ⊢
      rw [h]
      exact ⟨rfl, rfl⟩
    · cases h
theorem countR_stab : Stab countR := by
  intro l x t m h
  unfold countR at h ⊢
  cases hn : numR l with
  | none => rw [hn] at h; cases h
  | some p =>
    rw [hn] at h
    rw [numR_stab l p.1 p.2 m hn]
    simp only [Option.bind_some] at h ⊢
    split at h
    · rename_i h1
      rw [if_pos (by rw [List.length_append]; omega)]
      simp at h ⊢
      rw [h]
      exact ⟨rfl, rfl⟩
    · cases h
theorem countR_le {l t : List UInt8} {n : Nat} (h : countR l = some (n, t)) : n ≤ t.length := by
  unfold countR at h
  cases hn : numR l with
  | none => rw [hn] at h; cases h
  | some p =>
    rw [hn] at h
    simp only [Option.bind_some] at h
    split at h
    · rename_i hle
      simp at h
      rw [h] at hle
      exact hle
    · cases h
theorem textR_stab : Stab textR := by
  intro l x t m h
  unfold textR at h ⊢
  cases hn : countR l with
  | none => rw [hn] at h; cases h
  | some p =>
    have hle := countR_le (n := p.1) (t := p.2) hn
    rw [hn] at h
    rw [countR_stab l p.1 p.2 m hn]
    simp at h ⊢
    rw [List.take_append_of_le_length hle, List.drop_append_of_le_length hle]
    exact ⟨h.1, by rw [h.2]⟩
theorem alR_stab : Stab alR := by
  intro l x t m h
  unfold alR at h ⊢
  cases hn : smallR l with
  | none => rw [hn] at h; cases h
  | some p =>
    rw [hn] at h
    rw [smallR_stab l p.1 p.2 m hn]
    simp only [Option.bind_some] at h ⊢
    cases hn2 : smallR p.2 with
    | none => rw [hn2] at h; cases h
    | some q =>
      rw [hn2] at h
      rw [smallR_stab p.2 q.1 q.2 m hn2]
      simp at h ⊢
      exact ⟨h.1, by rw [h.2]⟩
theorem rep_stab {α : Type} {r : List UInt8 → Option (α × List UInt8)} (hr : Stab r) : ∀ n, Stab (rep r n)
  | 0 => fun l x t m h => by
    simp [rep] at h ⊢
    exact ⟨h.1, by rw [h.2]⟩
  | n + 1 => fun l x t m h => by
    unfold rep at h ⊢
    cases hn : r l with
    | none => rw [hn] at h; cases h
    | some p =>
      rw [hn] at h
      rw [hr l p.1 p.2 m hn]
      simp only [Option.bind_some] at h ⊢
      cases hn2 : rep r n p.2 with
      | none => rw [hn2] at h; cases h
      | some q =>
        rw [hn2] at h
        rw [rep_stab hr n p.2 q.1 q.2 m hn2]
        simp at h ⊢
        exact ⟨h.1, by rw [h.2]⟩
theorem alsR_stab : Stab alsR := by
  intro l x t m h
  unfold alsR at h ⊢
  cases hn : countR l with
  | none => rw [hn] at h; cases h
  | some p =>
    rw [hn] at h
    rw [countR_stab l p.1 p.2 m hn]
    simp only [Option.bind_some] at h ⊢
    exact rep_stab alR_stab p.1 p.2 x t m h
theorem numE_whole {n : Nat} (h : n < 18446744073709551616) : Back numR (numE n) := fun t => .inr ⟨_, numR_back _ t h⟩
theorem smallE_whole {z : Int} (h : i64ok z) : Back smallR (intE z) := fun t => by
  by_cases hs : small z
  · exact .inr ⟨_, smallR_back _ t hs⟩
  · exact .inl (smallR_big _ t h hs)
theorem txtE_whole {s : ByteArray} (h : s.size < 18446744073709551616) : Back textR (txtE s) := fun t => .inr ⟨_, txtR_back _ t h⟩
theorem alE_whole {a : Al} (h : a.ok) : Back alR (alE a) := fun t => by
  unfold alE alR
  rw [List.append_assoc]
  rcases smallE_whole h.1 (intE a.kind ++ t) with e | ⟨x, e⟩
  · exact .inl (by rw [e]; rfl)
  · rw [e]
    simp only [Option.bind_some]
    rcases smallE_whole h.2 t with e | ⟨y, e⟩
    · exact .inl (by rw [e]; rfl)
    · exact .inr ⟨⟨x, y⟩, by rw [e]; rfl⟩
theorem rep_whole : ∀ (al : List Al), (∀ a ∈ al, a.ok) → Back (rep alR al.length) (al.flatMap alE)
  | [], _ => fun t => .inr ⟨[], rfl⟩
  | a :: r, h => fun t => by
    simp only [List.length_cons, List.flatMap_cons, List.append_assoc, rep]
    rcases alE_whole (h a (List.mem_cons_self ..)) (r.flatMap alE ++ t) with e | ⟨x, e⟩
    · exact .inl (by rw [e]; rfl)
    · rw [e]
      simp only [Option.bind_some]
      rcases rep_whole r (fun x hx => h x (List.mem_cons_of_mem _ hx)) t with e | ⟨y, e⟩
      · exact .inl (by rw [e]; rfl)
      · exact .inr ⟨x :: y, by rw [e]; rfl⟩
theorem alsE_whole {al : List Al} (hl : al.length < 18446744073709551616) (h : ∀ a ∈ al, a.ok) : Back alsR (alsE al) := fun t => by
  unfold alsR countR alsE
  have := als_count al
  rw [List.append_assoc, numR_back _ _ hl]
  simp only [Option.bind_some]
  rw [if_pos (by rw [List.length_append]; omega)]
  exact rep_whole al h t
def restQ : List UInt8 → Option (Int × List UInt8) := sq numR (sq textR (sq textR smallR))
def restP : List UInt8 → Option (Int × List UInt8) := sq numR (sq smallR (sq smallR (sq alsR (sq textR smallR))))
theorem restQ_stab : Stab restQ := numR_stab.sq (textR_stab.sq (textR_stab.sq smallR_stab))
theorem restP_stab : Stab restP := numR_stab.sq (smallR_stab.sq (smallR_stab.sq (alsR_stab.sq (textR_stab.sq smallR_stab))))
theorem restQ_whole (r : Rq) (hk : i64ok r.kind) (hn : r.name.size ≤ 20000) (ht : r.text.size ≤ 20000) (hz : i64ok r.n) : Back restQ (rqE r) := by
  have hk2 := hk.2
  have e : rqE r = numE (max 0 r.kind).toNat ++ (txtE r.name ++ (txtE r.text ++ intE r.n)) := by simp [rqE]
  rw [e]
  exact (numE_whole (by omega)).sq ((txtE_whole (by omega)).sq ((txtE_whole (by omega)).sq (smallE_whole hz)))
theorem restP_whole (p : Rp) (hk : i64ok p.kind) (he : i64ok p.err) (hp : i64ok p.pos) (hl : p.al.length ≤ 1000) (ha : ∀ a ∈ p.al, a.ok) (ht : p.text.size ≤ 20000) (hz : i64ok p.n) : Back restP (rpE p) := by
  have hk2 := hk.2
  have e : rpE p = numE (max 0 p.kind).toNat ++ (intE p.err ++ (intE p.pos ++ (alsE p.al ++ (txtE p.text ++ intE p.n)))) := by simp [rpE]
  rw [e]
  exact (numE_whole (by omega)).sq ((smallE_whole he).sq ((smallE_whole hp).sq ((alsE_whole (by omega) ha).sq ((txtE_whole (by omega)).sq (smallE_whole hz)))))
theorem openQ_rest {l : List UInt8} (h : ∀ x, restQ l ≠ some (x, [])) : openQ l = none := by
  unfold openQ
  split
  · rfl
  cases h1 : numR l with
  | none => rfl
  | some k =>
    simp only [Option.bind_some]
    cases h2 : textR k.2 with
    | none => rfl
    | some a =>
      simp only [Option.bind_some]
      cases h3 : textR a.2 with
      | none => rfl
      | some b =>
        simp only [Option.bind_some]
        cases h4 : smallR b.2 with
        | none => rfl
        | some z =>
          simp only [Option.bind_some]
          rw [if_neg]
          rintro ⟨e, _⟩
          refine h z.1 ?_
          unfold restQ sq
          rw [h1]
          simp only [Option.bind_some]
          rw [h2]
          simp only [Option.bind_some]
          rw [h3]
          simp only [Option.bind_some]
          rw [h4, ← e]
theorem openP_rest {l : List UInt8} (h : ∀ x, restP l ≠ some (x, [])) : openP l = none := by
  unfold openP
  cases h1 : numR l with
  | none => rfl
  | some k =>
    simp only [Option.bind_some]
    cases h2 : smallR k.2 with
    | none => rfl
    | some a =>
      simp only [Option.bind_some]
      cases h3 : smallR a.2 with
      | none => rfl
      | some b =>
        simp only [Option.bind_some]
        cases h4 : alsR b.2 with
        | none => rfl
        | some c =>
          simp only [Option.bind_some]
          cases h5 : textR c.2 with
          | none => rfl
          | some t =>
            simp only [Option.bind_some]
            cases h6 : smallR t.2 with
            | none => rfl
            | some z =>
              simp only [Option.bind_some]
              rw [if_neg]
              rintro ⟨e, _⟩
              refine h z.1 ?_
              unfold restP sq
              rw [h1]
              simp only [Option.bind_some]
              rw [h2]
              simp only [Option.bind_some]
              rw [h3]
              simp only [Option.bind_some]
              rw [h4]
              simp only [Option.bind_some]
              rw [h5]
              simp only [Option.bind_some]
              rw [h6, ← e]
end Go.Proofs.Ytimhghmnnibajaa
