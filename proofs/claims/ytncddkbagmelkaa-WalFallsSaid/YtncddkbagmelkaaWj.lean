/-
  Scripts of acts, as arguments; the walks of light and size.
-/
import Derived.Test.YtncddkbagmelkaaWi
namespace Go.Proofs.Ytncddkbagmelkaa
open Go.RowKit Go.Deep Go.ChangeShapes Go.WideShapes

structure ActR where
  what : Int
  A : Option Addr
  c : Nat
  lens : List UInt8
def ActR.cells (a : ActR) : List Value := [.int .i64 a.what, .slice a.A a.lens.length a.c]
def ActR.ok (W : World) (a : ActR) : Prop := (-9223372036854775808 ≤ a.what ∧ a.what ≤ 9223372036854775807) ∧ Bytes W W.heap.size a.A a.lens ∧ a.lens.length ≤ a.c ∧ a.c ≤ maxLen
theorem Try.cAct : Try.prog.cellsOf 48 = 2 := by kernel_rfl
theorem Try.cInt1 : Try.prog.cellsOf 3 = 1 := by kernel_rfl
theorem Try.cU8s : Try.prog.cellsOf 23 = 1 := by kernel_rfl
section
variable {W : World} {cs : List Value}
set_option maxRecDepth 100000 in
theorem Trd.u8s (h : Trd 23 W cs) : ∃ (A : Option Addr) (c : Nat) (l : List UInt8), cs = [.slice A l.length c] ∧ l.length ≤ c ∧ c ≤ maxLen ∧ Bytes W W.heap.size A l := by
  obtain ⟨A, n, c, l, e, h1, h2, h3, _, h5⟩ := Trd.row (f := byteV) (p := fun _ => True) Try.underlying23 (fun x hx => by
    obtain ⟨n, rfl, hw⟩ := hx.int Try.underlying5
    have := bounds_u8 hw
    refine ⟨UInt8.ofNat n.toNat, ?_, trivial⟩
    unfold byteV
    rw [UInt8.toNat_ofNat_of_lt' (show n.toNat < 256 by omega), Int.toNat_of_nonneg this.1]) h
  subst h1
  exact ⟨A, c, l, e, h2, h3, h5⟩
set_option maxRecDepth 100000 in
theorem Trd.act (h : Trd 48 W cs) : ∃ a : ActR, cs = a.cells ∧ a.ok W := by
  obtain ⟨hl, hf⟩ := h.struct Try.underlying48
  rw [Try.cAct] at hl
  match cs, hl with
  | [a, b], _ =>
    have h0 : Trd 3 W (([a, b].drop 0).take (Try.prog.cellsOf 3)) := hf 0 _ rfl
    have h1 : Trd 23 W (([a, b].drop 1).take (Try.prog.cellsOf 23)) := hf 1 _ rfl
    rw [Try.cInt1] at h0
    rw [Try.cU8s] at h1
    simp only [List.drop_zero, List.drop_succ_cons, List.take_succ_cons, List.take_zero] at h0 h1
    obtain ⟨n, e0, w0⟩ := h0.int Try.underlying3
    obtain ⟨A, c, l, e1, h2, h3, h4⟩ := h1.u8s
    simp only [List.cons.injEq, and_true] at e0 e1
    subst e0 e1
    simp [Lit.wf, IntKind.min, IntKind.max, IntKind.signed, IntKind.bits] at w0
    exact ⟨⟨n, A, c, l⟩, rfl, by simp only; omega, h4, h2, h3⟩
end
/-- A script behind A. -/
structure Acts (W : World) (A : Option Addr) (l : List ActR) : Prop where
  row : Row W W.heap.size A (l.flatMap ActR.cells)
  ok : ∀ a ∈ l, a.ok W
set_option maxRecDepth 100000 in
theorem ArgOk.acts {W : World} {v : Value} (h : ArgOk 45 W v) : ∃ (A : Option Addr) (n c : Nat) (l : List ActR), v = .slice A n c ∧ l.length = n ∧ n ≤ c ∧ c ≤ maxLen ∧ Acts W A l := by
  obtain ⟨A, n, c, rfl⟩ := okWide_slice Try.underlying45 h.choose_spec.choose_spec.choose_spec.choose_spec.choose_spec.1
  obtain ⟨A', n', c', css, e, h1, h2, h3, h4, h5⟩ := h.trd.slice Try.underlying45
  simp [Value.cells] at e
  obtain ⟨rfl, rfl, rfl⟩ := e
  have : ∀ css : List (List Value), (∀ x ∈ css, Trd 48 W x) → ∃ l : List ActR, l.length = css.length ∧ css.flatten = l.flatMap ActR.cells ∧ ∀ a ∈ l, a.ok W := by
    intro css
    induction css with
    | nil => exact fun _ => ⟨[], rfl, rfl, by simp⟩
    | cons y r ih =>
      intro hy
      obtain ⟨l, h1, h2, h3⟩ := ih fun x hx => hy x (List.mem_cons_of_mem _ hx)
      obtain ⟨a, rfl, ha⟩ := (hy y (List.mem_cons_self ..)).act
      refine ⟨a :: l, by simp [h1], by simp [h2], fun x hx => ?_⟩
      rcases List.mem_cons.1 hx with rfl | hx
      · exact ha
      · exact h3 x hx
  obtain ⟨l, h6, h7, h8⟩ := this css fun x hx => (h4 x hx).2
  exact ⟨_, _, _, l, rfl, by omega, h2, h3, ⟨by rw [← h7]; exact h5, h8⟩⟩
theorem actCells_at : ∀ (l : List ActR) (i : Nat) (h : i < l.length) (j : Nat), j < 2 → (l.flatMap ActR.cells)[i * 2 + j]? = (l[i].cells)[j]?
  | a :: t, 0, _, j, hj => by
    rw [List.flatMap_cons, List.getElem?_append_left (by simp [ActR.cells]; omega)]
    simp
  | a :: t, i + 1, h, j, hj => by
    rw [List.flatMap_cons, List.getElem?_append_right (by simp [ActR.cells]; omega)]
    have := actCells_at t i (by simpa using h) j hj
    rw [show (i + 1) * 2 + j - a.cells.length = i * 2 + j by simp [ActR.cells]; omega, this]
    simp
theorem Acts.at_ {W w : World} {A : Option Addr} {l : List ActR} (h : Acts W A l) (hb : Below W.heap.size W w) {i : Nat} (hi : i < l.length) : ∃ b off, A = some ⟨b, off, none⟩ ∧ w.cell? ⟨b, off + i * 2, none⟩ = some (.int .i64 l[i].what) ∧ w.cell? ⟨b, off + i * 2 + 1, none⟩ = some (.slice l[i].A l[i].lens.length l[i].c) ∧ Bytes w w.heap.size l[i].A l[i].lens := by
  obtain ⟨b, off, e, hlt, hc⟩ := h.row (by
    intro e
    have := actCells_at l i hi 0 (by omega)
    rw [e] at this
    simp [ActR.cells] at this)
  have h0 := hc (i * 2 + 0) _ ((actCells_at l i hi 0 (by omega)).trans rfl)
  have h1 := hc (i * 2 + 1) _ ((actCells_at l i hi 1 (by omega)).trans rfl)
  refine ⟨b, off, e, (hb.cell hlt).trans h0, (hb.cell (p := ⟨b, off + i * 2 + 1, none⟩) hlt).trans h1, ?_⟩
  exact ((h.ok _ (List.getElem_mem hi)).2.1.below hb).more hb.size
def lightF (l : List ActR) : Bool := decide (l.length ≤ 30) && l.all fun a => decide (a.lens.length ≤ 6)
theorem lightF_lens {l : List ActR} (h : lightF l = true) : l.length ≤ 30 ∧ ∀ a ∈ l, a.lens.length ≤ 6 := by
  unfold lightF at h
  rw [Bool.and_eq_true, List.all_eq_true] at h
  exact ⟨of_decide_eq_true h.1, fun a ha => of_decide_eq_true (h.2 a ha)⟩
set_option maxRecDepth 100000 in
set_option maxHeartbeats 4000000 in
theorem light_any (W w : World) (hb : Below W.heap.size W w) (A : Option Addr) (n c : Nat) (l : List ActR) (hl : l.length = n) (hm : n ≤ maxLen) (ha : Acts W A l) :
    Calls Try.prog 23 #[.slice A n c] w fun e w' => e = .returned (.bool (lightF l)) ∧ Below w.heap.size w w' := by
  unfold maxLen at hm
  have hB := Lib.hid hb
  have hA := Lib.hid ha
  have hl' := Lib.hid hl
  clear hb ha hl
  by_cases h30 : 30 < n
  · have hmi : (30 : Int) < (n : Int) := by omega
    have hf : Hid (lightF l = false) := Lib.hid (by unfold lightF; rw [hl'.out, decide_eq_false (by omega)]; rfl)
    go_enter Try.func23, Try.ntmps23
    go_wp2_with fail
    go_ret
    exact ⟨by rw [hf.out]; rfl, Below.refl _ _⟩
  have hmi : ¬ (30 : Int) < (n : Int) := by omega
  go_enter Try.func23, Try.ntmps23
  go_wp2_with fail
  go_loopw [3] (fun iv wr => ∃ i : Nat, i ≤ n ∧ iv = .int .i64 i ∧ Hid (∀ a ∈ l.take i, a.lens.length ≤ 6) ∧ Hid (wr = w)) (fun iv _ => n - (intOf iv).toNat)
  case atStart => exact ⟨0, by omega, rfl, Lib.hid (by simp), Lib.hid rfl⟩
  obtain ⟨i, hi, rfl, hpre, hwr⟩ := hrel
  by_cases hin : i < n
  · have hil : i < l.length := by rw [hl'.out]; exact hin
    obtain ⟨b, off, rfl, hc0, hc1, _⟩ := hA.out.at_ hB.out hil
    rw [← hwr.out] at hc0 hc1
    obtain ⟨a, haa⟩ : ∃ a, a = l[i] := ⟨_, rfl⟩
    rw [← haa] at hc0 hc1
    have hai := Lib.hid haa
    clear haa
    have hii : (i : Int) < (n : Int) := by omega
    have hiw : IntKind.i64.wrap ((i : Int) + 1) = ((i + 1 : Nat) : Int) := by rw [IntWalk.i64_in _ (by omega)]; omega
    obtain ⟨k, hk⟩ : ∃ k, k = a.lens.length := ⟨_, rfl⟩
    rw [← hk] at hc1
    have hk' := Lib.hid hk
    clear hk
    by_cases h6 : 6 < k
    · have h6i : (6 : Int) < (k : Int) := by omega
      have hf : Hid (lightF l = false) := Lib.hid (by
        have : l.all (fun a => decide (a.lens.length ≤ 6)) = false := by
          rw [List.all_eq_false]
          exact ⟨l[i], List.getElem_mem hil, by rw [← hai.out, ← hk'.out]; simp; omega⟩
        unfold lightF
        rw [this, Bool.and_false])
      go_wp2_with fail
      go_ret
      exact ⟨by rw [hf.out]; rfl, by rw [hwr.out]; exact Below.refl _ _⟩
    · have h6i : ¬ (6 : Int) < (k : Int) := by omega
      have hnx : Hid (∀ a ∈ l.take (i + 1), a.lens.length ≤ 6) := Lib.hid (fun x hx => by
        rw [List.take_succ_eq_append_getElem hil, List.mem_append, List.mem_singleton] at hx
        rcases hx with hx | rfl
        · exact hpre.out x hx
        · rw [← hai.out, ← hk'.out]; omega)
      go_wp2_with fail
      refine ⟨⟨i + 1, by omega, by simp, hnx, hwr⟩, by simp [intOf]; omega⟩
  · obtain rfl : n = i := by omega
    have hii : ¬ (n : Int) < (n : Int) := by omega
    have hf : Hid (lightF l = true) := Lib.hid (by
      unfold lightF
      rw [Bool.and_eq_true, List.all_eq_true]
      refine ⟨decide_eq_true (by rw [hl'.out]; omega), fun a ha => decide_eq_true (hpre.out a ?_)⟩
      rw [List.take_of_length_le (by rw [hl'.out]; exact Nat.le_refl _)]
      exact ha)
    go_wp2_with fail
    go_ret
    exact ⟨by rw [hf.out]; rfl, by rw [hwr.out]; exact Below.refl _ _⟩
/-- size: 16 more than its bytes for each record. -/
def sizeF (ls : List (List UInt8)) : Nat := (framesF ls).length + ls.length * 8
set_option maxRecDepth 100000 in
set_option maxHeartbeats 4000000 in
theorem sizel_any (w : World) (A : Option Addr) (n c : Nat) (ls : List (List UInt8)) (hl : ls.length = n) (hn : n ≤ 1000) (hr : ∀ r ∈ ls, r.length ≤ 255) (hs : Slices w w.heap.size A ls) :
    Calls Try.prog 25 #[.slice A n c] w fun e w' => e = .returned (.int .i64 (sizeF ls)) ∧ Below w.heap.size w w' := by
  have hs' := Lib.hid hs
  have hl' := Lib.hid hl
  have hr' := Lib.hid hr
  clear hs hl hr
  go_enter Try.func25, Try.ntmps25
  go_wp2_with fail
  go_loopw [3, 4] (fun tv iv wr => ∃ k : Nat, k ≤ n ∧ iv = .int .i64 k ∧ tv = .int .i64 (sizeF (ls.take k)) ∧ Hid (wr = w)) (fun _ iv _ => n - (intOf iv).toNat)
  case atStart => exact ⟨0, by omega, rfl, rfl, Lib.hid rfl⟩
  obtain ⟨k, hk, rfl, rfl, hwr⟩ := hrel
  by_cases hkn : k < n
  · have hkl : k < ls.length := by rw [hl'.out]; exact hkn
    obtain ⟨b, off, Ai, ci, rfl, _, hcell, _, _⟩ := hs'.out.at_ hkl
    rw [← hwr.out] at hcell
    have hrl := hr'.out ls[k] (List.getElem_mem hkl)
    have hst : Hid (sizeF (ls.take (k + 1)) = sizeF (ls.take k) + (ls[k].length + 16)) := Lib.hid (by
      unfold sizeF
      rw [framesF_snoc ls k hkl, List.length_append, frameOf_length, List.length_take, List.length_take]
      rw [Nat.min_eq_left (by omega), Nat.min_eq_left (by omega)]
      omega)
    have hbd : sizeF (ls.take k) ≤ 1000000 := by
      unfold sizeF
      have := framesF_bound (ls.take k) 255 (fun r hr => hr'.out r (List.mem_of_mem_take hr))
      have h2 : (ls.take k).length ≤ 1000 := by rw [List.length_take]; omega
      have h3 : (ls.take k).length * (255 + 8) ≤ 1000 * (255 + 8) := Nat.mul_le_mul_right _ h2
      omega
    obtain ⟨m, hm⟩ : ∃ m, m = ls[k].length := ⟨_, rfl⟩
    rw [← hm] at hcell hrl hst
    clear hm
    obtain ⟨T, hT⟩ : ∃ T, T = sizeF (ls.take k) := ⟨_, rfl⟩
    rw [← hT] at hst hbd ⊢
    clear hT
    have hki : (k : Int) < (n : Int) := by omega
    have hkw : IntKind.i64.wrap ((k : Int) + 1) = ((k + 1 : Nat) : Int) := by rw [IntWalk.i64_in _ (by omega)]; omega
    have hw1 : IntKind.i64.wrap ((m : Int) + 16) = (m : Int) + 16 := IntWalk.i64_in _ (by omega)
    have hw2 : IntKind.i64.wrap ((T : Int) + ((m : Int) + 16)) = ((T + (m + 16) : Nat) : Int) := by rw [IntWalk.i64_in _ (by omega)]; omega
    go_wp2_with fail
    refine ⟨⟨k + 1, by omega, by simp, by rw [hst.out]; simp, hwr⟩, by simp [intOf]; omega⟩
  · obtain rfl : n = k := by omega
    have hki : ¬ (n : Int) < (n : Int) := by omega
    have htk : ls.take n = ls := List.take_of_length_le (by rw [hl'.out]; exact Nat.le_refl _)
    rw [htk]
    obtain ⟨T, hT⟩ : ∃ T, T = sizeF ls := ⟨_, rfl⟩
    rw [← hT]
    have hT' := Lib.hid hT
    clear hT htk
    go_wp2_with fail
    go_ret
    exact ⟨by rw [← hT'.out]; rfl, by rw [hwr.out]; exact Below.refl _ _⟩
end Go.Proofs.Ytncddkbagmelkaa
