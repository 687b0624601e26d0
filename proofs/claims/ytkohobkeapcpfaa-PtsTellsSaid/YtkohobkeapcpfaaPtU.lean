/-
  Several pointers made at once, each in a variable of its own: what a region that draws its order leaves of them. The ghost says which block each allocation has made.
-/
import Derived.Test.YtkohobkeapcpfaaRelG
import Derived.Test.YtkohobkeapcpfaaPtS
import Derived.Test.YtkohobkeapcpfaaPtK
namespace Go.Proofs.Ytkohobkeapcpfaa
open Go.RowKit

abbrev Gh := Nat → Option Nat
/-- What an operation may do: a store (st) writes one block of a pointer, all others only make blocks. -/
structure GPt (T : TypeId) (st : List Nat) (i : Nat) (W W' : World × Gh) : Prop where
  size : W.1.heap.size ≤ W'.1.heap.size
  more : ∀ a g, W.2 a = some g → W'.2 a = some g
  still : i ∉ st → Below W.1.heap.size W.1 W'.1
  store : i ∈ st → ∃ g z A n c, Holds W.1 g T #[.bool z, .slice A n c] ∧ Writes [some g] W.1 W'.1
theorem GPt.below {T : TypeId} {st : List Nat} {i : Nat} {w w' : World} {γ : Gh} (hi : i ∉ st) (h : Below w.heap.size w w') : GPt T st i (w, γ) (w', γ) := ⟨h.size, fun _ _ e => e, fun _ => h, fun e => absurd e hi⟩
theorem PtsV.kept {T : TypeId} {st : List Nat} {i : Nat} {W W' : World × Gh} {p : Pz} {v : Value} (h : PtsV W.1 p v) (hG : GPt T st i W W') : PtsV W'.1 p v := by
  by_cases hi : i ∈ st
  · obtain ⟨g, z, A', n, c', hg, hw⟩ := hG.store hi
    obtain ⟨A, c, e, hr, hc⟩ := h
    exact ⟨A, c, e, (hw.row hr (Nat.le_refl _) (fun hne => hr.apartPt hg hne)).more hG.size, hc⟩
  · exact h.up (hG.still hi)

/-- How the region stands: al: the allocations, ss: the stores, ps: what is stored; pre: what is done ahead of all stores. -/
structure CPt (w0 : World) (T : TypeId) (al ss : List Nat) (ps : List Pz) (pre : List Nat) (L : Nat → Bool) (W : World × Gh) : Prop where
  bel : Below w0.heap.size w0 W.1
  done : ∀ (k : Nat) a s p, al[k]? = some a → ss[k]? = some s → ps[k]? = some p → L a = true → ∃ g, W.2 a = some g ∧ w0.heap.size ≤ g ∧ (L s = false → Holds W.1 g T #[.bool false, .slice none 0 0]) ∧
    (L s = true → ∃ A c, Holds W.1 g T #[.bool p.nul, .slice A p.cells.length c] ∧ Row W.1 W.1.heap.size A (p.cells.map encStr) ∧ p.cells.length ≤ c)
  inj : ∀ a b g, W.2 a = some g → W.2 b = some g → a = b
  lt : ∀ a g, W.2 a = some g → g < W.1.heap.size
  fresh : ∀ a ∈ al, L a = false → W.2 a = none
  late : ∀ (k : Nat) a s, al[k]? = some a → ss[k]? = some s → L s = true → L a = true ∧ ∀ j ∈ pre, L j = true
theorem nd_inj {l : List Nat} (h : l.Nodup) {i j : Nat} {x : Nat} (hi : l[i]? = some x) (hj : l[j]? = some x) : i = j := by
  obtain ⟨l1, q1⟩ := List.getElem?_eq_some_iff.1 hi
  obtain ⟨l2, q2⟩ := List.getElem?_eq_some_iff.1 hj
  rcases Nat.lt_trichotomy i j with h1 | h1 | h1
  · exact absurd (q1.trans q2.symm) (List.pairwise_iff_getElem.1 h i j l1 l2 h1)
  · exact h1
  · exact absurd (q2.trans q1.symm) (List.pairwise_iff_getElem.1 h j i l2 l1 h1)
section
variable {w0 : World} {T : TypeId} {al ss : List Nat} {ps : List Pz} {pre : List Nat} {L : Nat → Bool}
theorem CPt.start {w : World} (hb : Below w0.heap.size w0 w) (h1 : ∀ a ∈ al, L a = false) (h2 : ∀ s ∈ ss, L s = false) : CPt w0 T al ss ps pre L (w, fun _ => none) :=
  ⟨hb, fun k a s p h _ _ e => (by rw [h1 a (List.mem_of_getElem? h)] at e; cases e), fun _ _ _ h => (by cases h), fun _ _ h => (by cases h), fun _ _ _ => rfl, fun k a s _ h e => (by rw [h2 s (List.mem_of_getElem? h)] at e; cases e)⟩
theorem orL {k i : Nat} (h : k ≠ i) : (k == i || L k) = L k := by simp [h]
theorem CPt.other {w w' : World} {γ : Gh} {i : Nat} (h : CPt w0 T al ss ps pre L (w, γ)) (ha : i ∉ al) (hs : i ∉ ss) (hb : Below w.heap.size w w') : CPt w0 T al ss ps pre (fun k => k == i || L k) (w', γ) := by
  refine ⟨h.bel.trans (hb.mono h.bel.size), fun k a s p e1 e2 e3 hL => ?_, h.inj, fun a g e => Nat.lt_of_lt_of_le (h.lt a g e) hb.size, fun a ham hL => h.fresh a ham (by rw [orL (show a ≠ i from fun e => ha (e ▸ ham))] at hL; exact hL), fun k a s e1 e2 hL => ?_⟩
  · have n1 : a ≠ i := fun e => ha (e ▸ List.mem_of_getElem? e1)
    have n2 : s ≠ i := fun e => hs (e ▸ List.mem_of_getElem? e2)
    rw [orL n1] at hL
    obtain ⟨g, h1, h2, h3, h4⟩ := h.done k a s p e1 e2 e3 hL
    simp only [orL n2]
    refine ⟨g, h1, h2, fun e => (h3 e).below hb (h3 e).lt, fun e => ?_⟩
    obtain ⟨A, c, h5, h6, h7⟩ := h4 e
    exact ⟨A, c, h5.below hb h5.lt, (h6.below hb).more hb.size, h7⟩
  · have n1 : a ≠ i := fun e => ha (e ▸ List.mem_of_getElem? e1)
    have n2 : s ≠ i := fun e => hs (e ▸ List.mem_of_getElem? e2)
    simp only [orL n2] at hL
    obtain ⟨h1, h2⟩ := h.late k a s e1 e2 hL
    exact ⟨by simp only [orL n1]; exact h1, fun j hj => by simp [h2 j hj]⟩
theorem CPt.alloc {w : World} {γ : Gh} {i : Nat} (h : CPt w0 T al ss ps pre L (w, γ)) (hi : L i = false) (hd : ∀ s ∈ ss, s ∉ al) (hm : i ∈ al) :
    CPt w0 T al ss ps pre (fun k => k == i || L k) (w.alloc (.cells #[.bool false, .slice none 0 0] T), fun j => if j = i then some w.heap.size else γ j) ∧ ∀ st, i ∉ st → GPt T st i (w, γ) (w.alloc (.cells #[.bool false, .slice none 0 0] T), fun j => if j = i then some w.heap.size else γ j) := by
  have hb := below_new w (.cells #[.bool false, .slice none 0 0] T)
  have hno : ∀ (k : Nat) a s, al[k]? = some a → ss[k]? = some s → a = i → L s = false := fun k a s e1 e2 e => by
    cases hL : L s with
    | false => rfl
    | true =>
      have := (h.late k a s e1 e2 hL).1
      rw [e, hi] at this
      cases this
  have hγ : ∀ g, γ i = some g → g < w.heap.size := fun g e => h.lt i g e
  refine ⟨⟨h.bel.trans (hb.mono h.bel.size), fun k a s p e1 e2 e3 hL => ?_, fun a b g ea eb => ?_, fun a g ea => ?_, fun a ham hL => ?_, fun k a s e1 e2 hL => ?_⟩, fun st hst => ⟨hb.size, fun a g e => ?_, fun _ => hb, fun e => absurd e hst⟩⟩
  · have n2 : s ≠ i := fun e => hd s (List.mem_of_getElem? e2) (e ▸ hm)
    simp only [orL n2]
    by_cases n1 : a = i
    · have hs := hno k a s e1 e2 n1
      exact ⟨w.heap.size, by simp [n1], h.bel.size, fun _ => Holds.new w _ _, fun e => by rw [hs] at e; cases e⟩
    · rw [orL n1] at hL
      obtain ⟨g, h1, h2, h3, h4⟩ := h.done k a s p e1 e2 e3 hL
      refine ⟨g, by simp [n1]; exact h1, h2, fun e => (h3 e).below hb (h3 e).lt, fun e => ?_⟩
      obtain ⟨A, c, h5, h6, h7⟩ := h4 e
      exact ⟨A, c, h5.below hb h5.lt, (h6.below hb).more hb.size, h7⟩
  · simp only at ea eb
    split at ea <;> split at eb
    · omega
    · injection ea with ea
      have := h.lt b g eb
      simp only at this
      omega
    · injection eb with eb
      have := h.lt a g ea
      simp only at this
      omega
    · exact h.inj a b g ea eb
  · simp only at ea
    split at ea
    · injection ea with ea
      rw [← ea]
      simp
    · exact Nat.lt_of_lt_of_le (h.lt a g ea) hb.size
  · simp only
    by_cases e : a = i
    · subst e
      simp at hL
    · rw [if_neg e]
      exact h.fresh a ham (by rw [orL e] at hL; exact hL)
  · have n2 : s ≠ i := fun e => hd s (List.mem_of_getElem? e2) (e ▸ hm)
    simp only [orL n2] at hL
    obtain ⟨h1, h2⟩ := h.late k a s e1 e2 hL
    exact ⟨by simp [h1], fun j hj => by simp [h2 j hj]⟩
  · simp only at e ⊢
    rw [if_neg]
    · exact e
    · rintro rfl
      have := h.fresh a hm hi
      simp only at this
      rw [this] at e
      cases e
theorem CPt.stored {w : World} {γ : Gh} {i k a g : Nat} {p : Pz} {A : Option Addr} {c : Nat} (h : CPt w0 T al ss ps pre L (w, γ)) (hi : L i = false) (ka : al[k]? = some a) (ks : ss[k]? = some i) (kp : ps[k]? = some p) (hna : al.Nodup) (hns : ss.Nodup) (hd : i ∉ al)
    (hg : γ a = some g) (hpre : ∀ j ∈ pre, L j = true) (hLa : L a = true) (hr : Row w w.heap.size A (p.cells.map encStr)) (hc : p.cells.length ≤ c) :
    CPt w0 T al ss ps pre (fun k => k == i || L k) ((w.setCell ⟨g, 0, none⟩ (.bool p.nul)).setCell ⟨g, 1, none⟩ (.slice A p.cells.length c), γ) ∧ ∀ st, i ∈ st → GPt T st i (w, γ) ((w.setCell ⟨g, 0, none⟩ (.bool p.nul)).setCell ⟨g, 1, none⟩ (.slice A p.cells.length c), γ) := by
  have hw := writes_store2 w g (.bool p.nul) (.slice A p.cells.length c)
  obtain ⟨g', e1, hgb, hz, _⟩ := h.done k a i p ka ks kp hLa
  obtain rfl : g = g' := by
    simp only at e1
    rw [hg] at e1
    exact Option.some.inj e1
  have hz := hz hi
  refine ⟨⟨h.bel.trans (hw.below h.bel.size (fun j hj => by simp at hj; omega)), fun k' a' s' p' e1 e2 e3 hL => ?_, h.inj, fun a' g' e => Nat.lt_of_lt_of_le (h.lt a' g' e) hw.size, fun a' ham hL => ?_, fun k' a' s' e1 e2 hL => ?_⟩, fun st hst => ⟨hw.size, fun _ _ e => e, fun e => absurd hst e, fun _ => ⟨g, false, none, 0, 0, hz, hw⟩⟩⟩
  · have n1 : a' ≠ i := fun e => hd (e ▸ List.mem_of_getElem? e1)
    rw [orL n1] at hL
    obtain ⟨g', h1, h2, h3, h4⟩ := h.done k' a' s' p' e1 e2 e3 hL
    by_cases hk : k' = k
    · subst hk
      rw [ka] at e1
      rw [ks] at e2
      rw [kp] at e3
      cases e1
      cases e2
      cases e3
      refine ⟨g, hg, hgb, fun e => by simp at e, fun _ => ⟨A, c, hz.store2 _ _, (hw.row hr (Nat.le_refl _) (fun hne => hr.apartPt hz hne)).more hw.size, hc⟩⟩
    · have n2 : s' ≠ i := fun e => hk (nd_inj hns (e ▸ e2) ks)
      have n3 : a' ≠ a := fun e => hk (nd_inj hna (e ▸ e1) ka)
      have hgg : g' ≠ g := fun e => n3 (h.inj a' a g (e ▸ h1) hg)
      simp only [orL n2]
      refine ⟨g', h1, h2, fun e => hw.holds (h3 e) (by simp; exact hgg), fun e => ?_⟩
      obtain ⟨A', c', h5, h6, h7⟩ := h4 e
      exact ⟨A', c', hw.holds h5 (by simp; exact hgg), (hw.row h6 (Nat.le_refl _) (fun hne => h6.apartPt hz hne)).more hw.size, h7⟩
  · exact h.fresh a' ham (by rw [orL (show a' ≠ i from fun e => hd (e ▸ ham))] at hL; exact hL)
  · by_cases n2 : s' = i
    · subst n2
      have hk : k' = k := nd_inj hns e2 ks
      subst hk
      rw [ka] at e1
      cases e1
      exact ⟨by simp [hLa], fun j hj => by simp [hpre j hj]⟩
    · simp only [orL n2] at hL
      obtain ⟨h1, h2⟩ := h.late k' a' s' e1 e2 hL
      exact ⟨by simp [h1], fun j hj => by simp [h2 j hj]⟩
/-- What holds until an operation ahead of all stores has run. -/
theorem Till.keepG {n i : Nat} {R : World → Value → Prop} {W W' : World × Gh} {v : Value} (h : Till n R L W.1 v) (hp : n ∈ pre) (hl : al.length = ss.length) (hC' : CPt w0 T al ss ps pre (fun k => k == i || L k) W') (hG : GPt T ss i W W') (hk : Below W.1.heap.size W.1 W'.1 → R W.1 v → R W'.1 v) :
    Till n R (fun k => k == i || L k) W'.1 v := fun hn => by
  by_cases hs : i ∈ ss
  · obtain ⟨k, hk1, e⟩ := List.getElem_of_mem hs
    have h1 := (hC'.late k (al[k]'(by omega)) i (List.getElem?_eq_getElem _) (by rw [← e]; exact List.getElem?_eq_getElem hk1) (by simp)).2 n hp
    simp only at h1 hn
    rw [hn] at h1
    cases h1
  · exact hk (hG.still hs) (h (by simp only [Bool.or_eq_false_iff] at hn; exact hn.2))
end
end Go.Proofs.Ytkohobkeapcpfaa
