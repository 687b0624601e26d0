/-
  What any argument opens to, type by type: slices of elements of any number of cells, structs field by field. No function in sight.
-/
import Derived.Test.YtelglbblgkhcmaaGreatArg
import Derived.Deep.Slices
namespace Go.Proofs.YtelglbblgkhcmaaGreat
open Go.RowKit Go.ChangeShapes Go.WideShapes Go.Deep

/-- The cells cs read as some datum of type t in W. -/
def Trd (t : TypeId) (W : World) (cs : List Value) : Prop :=
  ∃ (H : Type) (enc : TypeId × Value → H) (fuel : Nat) (x : DataW H × List MemPlace), DataW.trod enc Tryz.prog W 0 (fun _ => true) true fuel t cs = some x

set_option maxRecDepth 100000 in
theorem ArgOk.trd {t : TypeId} {W : World} {v : Value} (h : ArgOk t W v) : Trd t W v.cells.toList := by
  obtain ⟨H, enc, d, p, base, hok, fuel, hf⟩ := h
  exact ⟨H, enc, fuel, _, hf⟩

theorem flat_at {α : Type} {C : Nat} : ∀ {css : List (List α)} (_ : ∀ x ∈ css, x.length = C) {j : Nat} {u : α}, css.flatten[j]? = some u → ∃ i r cs, css[i]? = some cs ∧ cs[r]? = some u ∧ j = i * C + r ∧ r < C
  | [], _, j, u, h => by simp at h
  | c :: css, hl, j, u, h => by
    have hc := hl c (List.mem_cons_self ..)
    rw [List.flatten_cons] at h
    rcases Nat.lt_or_ge j C with hj | hj
    · rw [List.getElem?_append_left (by omega)] at h
      exact ⟨0, j, c, rfl, h, by omega, hj⟩
    · rw [List.getElem?_append_right (by omega), hc] at h
      obtain ⟨i, r, cs, h1, h2, h3, h4⟩ := flat_at (fun x hx => hl x (List.mem_cons_of_mem _ hx)) h
      exact ⟨i + 1, r, cs, by simpa using h1, h2, by rw [Nat.add_mul]; omega, h4⟩
theorem flat_get {α : Type} {C : Nat} : ∀ {css : List (List α)} (_ : ∀ x ∈ css, x.length = C) {i r : Nat} {cs : List α} {u : α}, css[i]? = some cs → cs[r]? = some u → css.flatten[i * C + r]? = some u
  | [], _, i, r, cs, u, h, _ => by simp at h
  | c :: css, hl, i, r, cs, u, h, hu => by
    have hc := hl c (List.mem_cons_self ..)
    rw [List.flatten_cons]
    cases i with
    | zero =>
      simp only [List.getElem?_cons_zero, Option.some.injEq] at h
      subst h
      have : r < c.length := (List.getElem?_eq_some_iff.1 hu).1
      rw [Nat.zero_mul, Nat.zero_add, List.getElem?_append_left this]
      exact hu
    | succ i =>
      rw [List.getElem?_append_right (by rw [Nat.add_mul]; omega), hc]
      have := flat_get (fun x hx => hl x (List.mem_cons_of_mem _ hx)) (i := i) (r := r) (by simpa using h) hu
      rw [← this]
      congr 1
      rw [Nat.add_mul]
      omega

theorem row_of_cells {W : World} {a : Addr} {vs : List Value} (hc : ∀ j u, vs[j]? = some u → W.cell? (a.add j) = some u) : Row W W.heap.size (some a) vs := fun hne => by
  obtain ⟨b, off, spot⟩ := a
  obtain ⟨u0, hu0⟩ : ∃ u, vs[0]? = some u := by
    cases vs with
    | nil => exact absurd rfl hne
    | cons x r => exact ⟨x, rfl⟩
  have h0 := hc 0 u0 hu0
  have hspot : spot = none := by simpa [Addr.add] using World.cell?_spot h0
  subst hspot
  have hadd : ∀ j, (⟨b, off, none⟩ : Addr).add j = ⟨b, off + j, none⟩ := by intro j; unfold Addr.add; split <;> simp_all
  refine ⟨b, off, rfl, ?_, fun j u hu => by rw [← hadd]; exact hc j u hu⟩
  rw [hadd] at h0
  exact block_lt_of_cell h0

theorem add_add' (a : Addr) (i j : Nat) : (a.add i).add j = a.add (i + j) := by
  unfold Addr.add
  split <;> split <;> simp_all <;> omega

theorem Trd.slice {t e : TypeId} {W : World} {cs : List Value} (ht : Tryz.prog.underlying t = some (.slice e)) (h : Trd t W cs) :
    ∃ (A : Option Addr) (n c : Nat) (css : List (List Value)), cs = [.slice A n c] ∧ css.length = n ∧ n ≤ c ∧ c ≤ maxLen ∧ (∀ x ∈ css, x.length = Tryz.prog.cellsOf e ∧ Trd e W x) ∧ Row W W.heap.size A css.flatten := by
  obtain ⟨H, enc, fuel, x, hf⟩ := h
  rcases open_slice ht hf with ⟨rfl, _⟩ | ⟨a, len, cap, m, n, D, Pl, rfl, _, hl, hm, hmm, _, hi⟩
  · exact ⟨none, 0, 0, [], rfl, rfl, Nat.le_refl _, by simp, fun x hx => by simp at hx, Row.nil_ _ _ _⟩
  · simp only [if_true] at hmm
    subst hmm
    obtain ⟨f, hfl⟩ := choose_lt (p := fun i cs' => W.cells? 0 (a.add (i * Tryz.prog.cellsOf e)) (Tryz.prog.cellsOf e) = some cs' ∧ DataW.trod enc Tryz.prog W 0 (fun _ => true) true n e cs' = some (D i, Pl i)) (fun i him => hi i him)
    have hlen : ∀ x ∈ (List.range len).map f, x.length = Tryz.prog.cellsOf e := by
      intro x hx
      obtain ⟨i, hi', rfl⟩ := List.mem_map.1 hx
      exact (World.cells?_some (hfl i (by have := List.mem_range.1 hi'; omega)).1).2.1
    refine ⟨some a, len, m, (List.range len).map f, rfl, by simp, hl, hm, fun x hx => ⟨hlen x hx, ?_⟩, row_of_cells fun j u hu => ?_⟩
    · obtain ⟨i, hi', rfl⟩ := List.mem_map.1 hx
      exact ⟨H, enc, n, _, (hfl i (by have := List.mem_range.1 hi'; omega)).2⟩
    · obtain ⟨i, r, cs, h1, h2, rfl, hr⟩ := flat_at hlen hu
      have hil : i < len := by
        rcases Nat.lt_or_ge i len with h | h
        · exact h
        · rw [List.getElem?_eq_none (by simp; omega)] at h1; cases h1
      have e1 : f i = cs := by simpa [hil] using h1
      obtain ⟨_, _, hat⟩ := World.cells?_some (hfl i (by omega)).1
      have := hat r hr
      rw [add_add'] at this
      rw [this, e1, h2]
theorem Trd.int {k : IntKind} {t : TypeId} {W : World} {cs : List Value} (ht : Tryz.prog.underlying t = some (.int k)) (h : Trd t W cs) : ∃ n, cs = [.int k n] ∧ (Lit.int k n).wf = true := by
  obtain ⟨H, enc, fuel, x, hf⟩ := h
  obtain ⟨n, h1, _, h2⟩ := DataW.trod_int ht hf
  exact ⟨n, h1, h2⟩
theorem Trd.bool {t : TypeId} {W : World} {cs : List Value} (ht : Tryz.prog.underlying t = some .bool) (h : Trd t W cs) : ∃ b, cs = [.bool b] := by
  obtain ⟨H, enc, fuel, x, hf⟩ := h
  obtain ⟨b, h1, _⟩ := DataW.trod_bool ht hf
  exact ⟨b, h1⟩
theorem Trd.string {t : TypeId} {W : World} {cs : List Value} (ht : Tryz.prog.underlying t = some .string) (h : Trd t W cs) : ∃ s : ByteArray, cs = [.string s] ∧ s.size ≤ maxLen := by
  obtain ⟨H, enc, fuel, x, hf⟩ := h
  obtain ⟨b, h1, _, h2⟩ := DataW.trod_string ht hf
  exact ⟨b, h1, h2⟩
theorem Trd.struct {fs : Array Field} {t : TypeId} {W : World} {cs : List Value} (ht : Tryz.prog.underlying t = some (.struct fs)) (h : Trd t W cs) :
    cs.length = Tryz.prog.cellsOf t ∧ ∀ (i : Nat) (f : Field), fs[i]? = some f → Trd f.type W ((cs.drop f.offset).take (Tryz.prog.cellsOf f.type)) := by
  obtain ⟨H, enc, fuel, x, hf⟩ := h
  obtain ⟨xs, n, _, _, hl, hx, hg⟩ := DataW.trod_struct ht hf
  refine ⟨hl, fun i f hif => ?_⟩
  have hlt : i < xs.length := by rw [hx]; exact (Array.getElem?_eq_some_iff.1 hif).1
  exact ⟨H, enc, n, xs[i], by rw [hg i f hif]; exact List.getElem?_eq_getElem hlt⟩

/-- Elements of one cell: each read by itself. -/
theorem Trd.row {α : Type} {t e : TypeId} {W : World} {cs : List Value} {f : α → Value} {p : α → Prop} (ht : Tryz.prog.underlying t = some (.slice e)) (hd : ∀ x, Trd e W x → ∃ a, x = [f a] ∧ p a) (h : Trd t W cs) :
    ∃ (A : Option Addr) (n c : Nat) (l : List α), cs = [.slice A n c] ∧ l.length = n ∧ n ≤ c ∧ c ≤ maxLen ∧ (∀ a ∈ l, p a) ∧ Row W W.heap.size A (l.map f) := by
  obtain ⟨A, n, c, css, rfl, hn, hc, hm, hx, hr⟩ := h.slice ht
  have : ∀ css : List (List Value), (∀ x ∈ css, Trd e W x) → ∃ l : List α, l.length = css.length ∧ css.flatten = l.map f ∧ ∀ a ∈ l, p a := by
    intro css
    induction css with
    | nil => exact fun _ => ⟨[], rfl, rfl, by simp⟩
    | cons y r ih =>
      intro hy
      obtain ⟨l, h1, h2, h3⟩ := ih fun x hx => hy x (List.mem_cons_of_mem _ hx)
      obtain ⟨a, rfl, ha⟩ := hd y (hy y (List.mem_cons_self ..))
      refine ⟨a :: l, by simp [h1], by simp [h2], fun x hx => ?_⟩
      rcases List.mem_cons.1 hx with rfl | hx
      · exact ha
      · exact h3 x hx
  obtain ⟨l, h1, h2, h3⟩ := this css fun x hx' => (hx x hx').2
  exact ⟨A, n, c, l, rfl, by omega, hc, hm, h3, by rw [← h2]; exact hr⟩
end Go.Proofs.YtelglbblgkhcmaaGreat
