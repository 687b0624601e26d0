/-
  Arguments that are pointers, slices of pointers, slices of strings: what they open to.
-/
import Derived.Test.YtkohobkeapcpfaaPtD
import Derived.Test.YtkohobkeapcpfaaArg
import Derived.Test.YtkohobkeapcpfaaOpen
namespace Go.Proofs.Ytkohobkeapcpfaa
open Go.RowKit Go.ChangeShapes Go.WideShapes Go.Deep

theorem Try.pcBool : Try.prog.cellsOf 4 = 1 := by kernel_rfl
theorem Try.pcStrs : Try.prog.cellsOf 23 = 1 := by kernel_rfl
theorem Try.pcPt : Try.prog.cellsOf 25 = 2 := by kernel_rfl

theorem Trd.encS {W : World} {cs : List Value} (h : Trd 9 W cs) : ∃ x : S, cs = [encStr x] ∧ x.length ≤ maxLen := by
  obtain ⟨s, rfl, hw⟩ := h.string Try.underlying9
  exact ⟨s.data.toList, rfl, hw⟩
theorem Trd.strs {W : World} {cs : List Value} (h : Trd 23 W cs) : ∃ (A : Option Addr) (n c : Nat) (l : List S), cs = [.slice A n c] ∧ l.length = n ∧ n ≤ c ∧ c ≤ maxLen ∧ (∀ s ∈ l, s.length ≤ maxLen) ∧ Row W W.heap.size A (l.map encStr) :=
  Trd.row (f := encStr) (p := fun s : S => s.length ≤ maxLen) Try.underlying23 (fun _ hx => hx.encS) h
/-- A pointer whose parts are of any length that a value may have. -/
def Pq.okIn (W : World) (q : Pq) : Prop := Row W W.heap.size q.at_ (q.p.cells.map encStr) ∧ q.p.cells.length ≤ q.cap ∧ q.cap ≤ maxLen ∧ ∀ s ∈ q.p.cells, s.length ≤ maxLen
set_option maxRecDepth 100000 in
theorem Trd.ptq {W : World} {cs : List Value} (h : Trd 25 W cs) : ∃ q : Pq, cs = q.cells ∧ q.okIn W := by
  obtain ⟨hl, hf⟩ := h.struct Try.underlying25
  rw [Try.pcPt] at hl
  match cs, hl with
  | [a, b], _ =>
    have h0 : Trd 4 W (([a, b].drop 0).take (Try.prog.cellsOf 4)) := hf 0 _ rfl
    have h1 : Trd 23 W (([a, b].drop 1).take (Try.prog.cellsOf 23)) := hf 1 _ rfl
    rw [Try.pcBool] at h0
    rw [Try.pcStrs] at h1
    simp only [List.drop_zero, List.drop_succ_cons, List.take_succ_cons, List.take_zero] at h0 h1
    obtain ⟨s, e0⟩ := h0.bool Try.underlying4
    obtain ⟨A, n, c, l, e1, hn, hc, hm, hs, hr⟩ := h1.strs
    simp only [List.cons.injEq, and_true] at e0 e1
    subst e0 e1 hn
    exact ⟨⟨⟨s, l⟩, A, c⟩, rfl, hr, hc, hm, hs⟩
theorem ArgOk.strs {W : World} {v : Value} (h : ArgOk 23 W v) : ∃ (A : Option Addr) (n c : Nat) (l : List S), v = .slice A n c ∧ l.length = n ∧ n ≤ c ∧ c ≤ maxLen ∧ (∀ s ∈ l, s.length ≤ maxLen) ∧ Row W W.heap.size A (l.map encStr) := by
  obtain ⟨A, n, c, rfl⟩ := okWide_slice Try.underlying23 h.choose_spec.choose_spec.choose_spec.choose_spec.choose_spec.1
  obtain ⟨A', n', c', l, e, h1, h2, h3, h4, h5⟩ := Trd.strs h.trd
  simp [Value.cells] at e
  obtain ⟨rfl, rfl, rfl⟩ := e
  exact ⟨_, _, _, l, rfl, h1, h2, h3, h4, h5⟩
theorem ArgOk.pts {W : World} {v : Value} (h : ArgOk 25 W v) : ∃ q : Pq, v = .agg q.cells.toArray ∧ q.okIn W := by
  have hok := h.choose_spec.choose_spec.choose_spec.choose_spec.choose_spec.1
  obtain ⟨cs, rfl, _⟩ := okWide_struct Try.underlying25 hok
  obtain ⟨q, e, hq⟩ := Trd.ptq h.trd
  exact ⟨q, by simp [Value.cells] at e; rw [← e], hq⟩
theorem ArgOk.ptss {W : World} {v : Value} (h : ArgOk 22 W v) : ∃ (A : Option Addr) (n c : Nat) (L : List Pq), v = .slice A n c ∧ L.length = n ∧ n ≤ c ∧ c ≤ maxLen ∧ (∀ q ∈ L, q.okIn W) ∧ PtsL W W.heap.size A L := by
  obtain ⟨A, n, c, rfl⟩ := okWide_slice Try.underlying22 h.choose_spec.choose_spec.choose_spec.choose_spec.choose_spec.1
  obtain ⟨A', n', c', css, e, h1, h2, h3, h4, h5⟩ := Trd.slice Try.underlying22 h.trd
  simp [Value.cells] at e
  obtain ⟨rfl, rfl, rfl⟩ := e
  have : ∀ css : List (List Value), (∀ x ∈ css, Trd 25 W x) → ∃ L : List Pq, L.length = css.length ∧ css.flatten = L.flatMap Pq.cells ∧ ∀ q ∈ L, q.okIn W := by
    intro css
    induction css with
    | nil => exact fun _ => ⟨[], rfl, rfl, by simp⟩
    | cons y r ih =>
      intro hy
      obtain ⟨l, h1, h2, h3⟩ := ih fun x hx => hy x (List.mem_cons_of_mem _ hx)
      obtain ⟨a, rfl, ha⟩ := (hy y (List.mem_cons_self ..)).ptq
      refine ⟨a :: l, by simp [h1], by simp [h2], fun x hx => ?_⟩
      rcases List.mem_cons.1 hx with rfl | hx
      · exact ha
      · exact h3 x hx
  obtain ⟨L, e1, e2, e3⟩ := this css fun x hx => (h4 x hx).2
  exact ⟨_, _, _, L, rfl, by omega, h2, h3, e3, by rw [← e2]; exact h5, fun q hq => ⟨(e3 q hq).1, (e3 q hq).2.1⟩⟩
end Go.Proofs.Ytkohobkeapcpfaa
