/-
  Plain laws of strings sorted, each once. No program in sight.
-/
import Derived.Lib.SlicesCompact
import Derived.Sort.EncStr
namespace Go.Proofs.Ytkohobkeapcpfaa

abbrev S := List UInt8
instance : Inhabited S := ⟨[]⟩
theorem le_of_lt' {x y : S} (h : x < y) : x ≤ y := fun h2 => List.lt_irrefl x (List.lt_trans h h2)
theorem lt_of_le_ne {x y : S} (h : x ≤ y) (hne : x ≠ y) : x < y := by
  rcases Classical.em (x < y) with h1 | h1
  · exact h1
  · exact absurd (List.le_antisymm h (show y ≤ x from h1)) hne
theorem lt_of_le_lt {x y z : S} (h : x ≤ y) (h2 : y < z) : x < z := by
  rcases Classical.em (x < z) with h1 | h1
  · exact h1
  · exact absurd h2 (fun h3 => absurd (List.le_trans (show z ≤ x from h1) h) (fun h4 => h4 h3))

/-- Rising, each once. -/
def Up (l : List S) : Prop := l.Pairwise (· < ·)
theorem Up.ext : ∀ {l l' : List S}, Up l → Up l' → (∀ x, x ∈ l ↔ x ∈ l') → l = l'
  | [], [], _, _, _ => rfl
  | [], y :: l', _, _, h => by have := (h y).2 (List.mem_cons_self ..); cases this
  | x :: l, [], _, _, h => by have := (h x).1 (List.mem_cons_self ..); cases this
  | x :: l, y :: l', hu, hu', h => by
    obtain ⟨h1, h2⟩ := List.pairwise_cons.1 hu
    obtain ⟨h3, h4⟩ := List.pairwise_cons.1 hu'
    have e : x = y := by
      rcases List.mem_cons.1 ((h x).1 (List.mem_cons_self ..)) with e | e
      · exact e
      · rcases List.mem_cons.1 ((h y).2 (List.mem_cons_self ..)) with e' | e'
        · exact e'.symm
        · exact absurd (List.lt_trans (h1 y e') (h3 x e)) (List.lt_irrefl x)
    subst e
    congr 1
    refine Up.ext h2 h4 fun z => ⟨fun hz => ?_, fun hz => ?_⟩
    · rcases List.mem_cons.1 ((h z).1 (List.mem_cons_of_mem _ hz)) with e | e
      · subst e; exact absurd (h1 z hz) (List.lt_irrefl z)
      · exact e
    · rcases List.mem_cons.1 ((h z).2 (List.mem_cons_of_mem _ hz)) with e | e
      · subst e; exact absurd (h3 z hz) (List.lt_irrefl z)
      · exact e

section
open Go.Lib
theorem compact_up {zs : List S} (h : zs.Pairwise (· ≤ ·)) : Up (compact zs) := by
  unfold compact compactUpTo Up
  rw [List.pairwise_map]
  refine (List.Pairwise.filter _ (List.pairwise_lt_range (n := zs.length))).imp_of_mem fun {i j} hi hj hij => ?_
  have hj' := List.mem_filter.1 hj
  have hjl := List.mem_range.1 hj'.1
  have hk := hj'.2
  unfold keeps at hk
  simp only [decide_eq_true_eq] at hk
  have hne := hk.resolve_left (by omega)
  have hg : ∀ k (hk : k < zs.length), zs.toArray[k]! = zs[k] := fun k hk => by simp [hk]
  rw [hg j hjl, hg (j - 1) (by omega)] at hne
  rw [hg i (by omega), hg j hjl]
  have h1 : zs[j - 1] < zs[j] := lt_of_le_ne (List.pairwise_iff_getElem.1 h (j - 1) j (by omega) hjl (by omega)) (fun e => hne e.symm)
  rcases Nat.lt_or_ge i (j - 1) with h2 | h2
  · exact lt_of_le_lt (List.pairwise_iff_getElem.1 h i (j - 1) (by omega) (by omega) h2) h1
  · have : i = j - 1 := by omega
    subst this
    exact h1
theorem mem_compact {zs : List S} {x : S} : x ∈ compact zs ↔ x ∈ zs := by
  have hg : ∀ k (hk : k < zs.length), zs.toArray[k]! = zs[k] := fun k hk => by simp [hk]
  unfold compact compactUpTo
  rw [List.mem_map]
  constructor
  · rintro ⟨j, hj, rfl⟩
    have := List.mem_range.1 (List.mem_filter.1 hj).1
    rw [hg j this]
    exact List.getElem_mem _
  · intro hx
    have hex : ∃ k, k < zs.length ∧ zs.toArray[k]! = x := by
      obtain ⟨k, hk, e⟩ := List.getElem_of_mem hx
      exact ⟨k, hk, by rw [hg k hk, e]⟩
    have hmin : ∀ n k, k < n → k < zs.length → zs.toArray[k]! = x → ∃ j, j < zs.length ∧ zs.toArray[j]! = x ∧ keeps zs.toArray j = true := by
      intro n
      induction n with
      | zero => intro k h; omega
      | succ n ih =>
        intro k hkn hk e
        by_cases h0 : keeps zs.toArray k = true
        · exact ⟨k, hk, e, h0⟩
        · unfold keeps at h0
          simp only [decide_eq_true_eq, not_or, Classical.not_not] at h0
          exact ih (k - 1) (by omega) (by omega) (by rw [← h0.2]; exact e)
    obtain ⟨k, hk, e⟩ := hex
    obtain ⟨j, h1, h2, h3⟩ := hmin (k + 1) k (by omega) hk e
    exact ⟨j, List.mem_filter.2 ⟨List.mem_range.2 h1, h3⟩, h2⟩
/-- All of a list, rising, each once. -/
def canon (l : List S) : List S := compact (l.mergeSort fun x y => decide (x ≤ y))
theorem sorted_merge (l : List S) : (l.mergeSort fun x y => decide (x ≤ y)).Pairwise (· ≤ ·) := by
  have := List.pairwise_mergeSort (le := fun x y : S => decide (x ≤ y)) (fun a b c h1 h2 => by simp only [decide_eq_true_eq] at *; exact List.le_trans h1 h2) (fun a b => by simp only [Bool.or_eq_true, decide_eq_true_eq]; exact List.le_total a b) l
  exact this.imp fun h => by simpa using h
theorem canon_up (l : List S) : Up (canon l) := compact_up (sorted_merge l)
theorem mem_canon {l : List S} {x : S} : x ∈ canon l ↔ x ∈ l := mem_compact.trans (List.mergeSort_perm l _).mem_iff
theorem canon_ext {l l' : List S} (h : ∀ x, x ∈ l ↔ x ∈ l') : canon l = canon l' := (canon_up l).ext (canon_up l') fun x => by rw [mem_canon, mem_canon]; exact h x
theorem canon_of {l l' : List S} (hu : Up l') (h : ∀ x, x ∈ l ↔ x ∈ l') : canon l = l' := (canon_up l).ext hu fun x => by rw [mem_canon]; exact h x
theorem canon_canon (l : List S) : canon (canon l) = canon l := canon_of (canon_up l) fun _ => Iff.rfl
theorem canon_nil : canon [] = [] := canon_of List.Pairwise.nil fun _ => Iff.rfl
theorem canon_len (l : List S) : (canon l).length ≤ l.length := by
  unfold canon
  refine Nat.le_trans ?_ (Nat.le_of_eq (List.length_mergeSort (le := fun x y : S => decide (x ≤ y)) l))
  unfold compact compactUpTo
  rw [List.length_map]
  refine Nat.le_trans (List.length_filter_le _ _) ?_
  simp
end
/-- The reference's Add: into a rising list. -/
def addS : List S → S → List S
  | [], x => [x]
  | y :: l, x => if y < x then y :: addS l x else if y = x then y :: l else x :: y :: l
theorem mem_addS {l : List S} {x z : S} : z ∈ addS l x ↔ z ∈ l ∨ z = x := by
  induction l with
  | nil => simp [addS]
  | cons y l ih =>
    unfold addS
    split
    · simp [ih, or_assoc]
    · split
      · rename_i e
        subst e
        simp only [List.mem_cons]
        constructor
        · exact .inl
        · rintro (h | h)
          · exact h
          · exact .inl h
      · simp only [List.mem_cons]
        constructor
        · rintro (h | h | h)
          · exact .inr h
          · exact .inl (.inl h)
          · exact .inl (.inr h)
        · rintro ((h | h) | h)
          · exact .inr (.inl h)
          · exact .inr (.inr h)
          · exact .inl h
theorem addS_up {l : List S} {x : S} (h : Up l) : Up (addS l x) := by
  induction l with
  | nil => exact List.pairwise_singleton _ _
  | cons y l ih =>
    obtain ⟨h1, h2⟩ := List.pairwise_cons.1 h
    unfold addS
    split
    · rename_i hlt
      refine List.pairwise_cons.2 ⟨fun z hz => ?_, ih h2⟩
      rcases mem_addS.1 hz with h | h
      · exact h1 z h
      · subst h; exact hlt
    · split
      · exact h
      · rename_i h3 h4
        have hxy : x < y := lt_of_le_ne (show x ≤ y from h3) (fun e => h4 e.symm)
        refine List.pairwise_cons.2 ⟨fun z hz => ?_, h⟩
        rcases List.mem_cons.1 hz with e | e
        · subst e; exact hxy
        · exact List.lt_trans hxy (h1 z e)
theorem fold_addS (l : List S) : l.foldl addS [] = canon l := by
  have key : ∀ (l acc : List S), Up acc → Up (l.foldl addS acc) ∧ ∀ z, z ∈ l.foldl addS acc ↔ z ∈ acc ∨ z ∈ l := by
    intro l
    induction l with
    | nil => intro acc h; exact ⟨h, fun z => by simp⟩
    | cons x l ih =>
      intro acc h
      obtain ⟨h1, h2⟩ := ih (addS acc x) (addS_up h)
      refine ⟨h1, fun z => ?_⟩
      rw [List.foldl_cons, h2 z, mem_addS, List.mem_cons, or_assoc]
  obtain ⟨h1, h2⟩ := key l [] List.Pairwise.nil
  exact ((canon_of h1 fun z => by rw [h2]; simp)).symm
end Go.Proofs.Ytkohobkeapcpfaa
