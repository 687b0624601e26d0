/-
  Requests and replies as arguments: what they open to. ReqKinds' walk.
-/
import Derived.Test.YtimhghmnnibajaaRqM
import Derived.Test.YtimhghmnnibajaaPart
namespace Go.Proofs.Ytimhghmnnibajaa
open Go.RowKit Go.ChangeShapes Go.WideShapes Go.Deep

theorem Try.cRq : Try.prog.cellsOf 78 = 4 := by kernel_rfl
theorem Try.cErr : Try.prog.cellsOf 35 = 1 := by kernel_rfl
theorem Try.cRp : Try.prog.cellsOf 86 = 6 := by kernel_rfl
set_option maxRecDepth 100000 in
theorem ArgOk.z64 {W : World} {v : Value} (h : ArgOk 2 W v) : ∃ n : Int, v = .int .i64 n ∧ i64ok n := by
  obtain ⟨H, enc, d, p, base, hok, hf⟩ := h
  obtain ⟨n, rfl, _, _, hw⟩ := open_int Try.underlying2 hok hf
  exact ⟨n, rfl, i64_of_wf hw⟩
set_option maxRecDepth 100000 in
theorem ArgOk.flag {W : World} {v : Value} (h : ArgOk 4 W v) : ∃ b, v = .bool b := by
  obtain ⟨H, enc, d, p, base, hok, hf⟩ := h
  exact okWide_bool Try.underlying4 hok
set_option maxRecDepth 100000 in
theorem ArgOk.req {W : World} {v : Value} (h : ArgOk 78 W v) : ∃ (kind : Int) (name text : ByteArray) (n : Int), v = .agg #[.int .i64 kind, .string name, .string text, .int .i64 n] ∧ i64ok kind ∧ name.size ≤ maxLen ∧ text.size ≤ maxLen ∧ i64ok n := by
  have ht := h.trd
  obtain ⟨H, enc, d, p, base, hok, _⟩ := h
  obtain ⟨cs, rfl, _⟩ := okWide_struct Try.underlying78 hok
  obtain ⟨hl, hf⟩ := ht.struct Try.underlying78
  rw [Try.cRq] at hl
  obtain ⟨ls⟩ := cs
  simp only [Value.cells] at hl hf
  match ls, hl with
  | [a, b, c, d], _ =>
    have h0 : Trd 3 W (([a, b, c, d].drop 0).take (Try.prog.cellsOf 3)) := hf 0 _ rfl
    have h1 : Trd 9 W (([a, b, c, d].drop 1).take (Try.prog.cellsOf 9)) := hf 1 _ rfl
    have h2 : Trd 9 W (([a, b, c, d].drop 2).take (Try.prog.cellsOf 9)) := hf 2 _ rfl
    have h3 : Trd 3 W (([a, b, c, d].drop 3).take (Try.prog.cellsOf 3)) := hf 3 _ rfl
    rw [Try.cInt] at h0 h3
    rw [Try.cStr] at h1 h2
    simp only [List.drop_zero, List.drop_succ_cons, List.take_succ_cons, List.take_zero] at h0 h1 h2 h3
    obtain ⟨k, e0, w0⟩ := h0.int Try.underlying3
    obtain ⟨s, e1, w1⟩ := h1.string Try.underlying9
    obtain ⟨x, e2, w2⟩ := h2.string Try.underlying9
    obtain ⟨n, e3, w3⟩ := h3.int Try.underlying3
    simp only [List.cons.injEq, and_true] at e0 e1 e2 e3
    subst e0 e1 e2 e3
    exact ⟨k, s, x, n, rfl, i64_of_wf w0, w1, w2, i64_of_wf w3⟩
set_option maxRecDepth 100000 in
theorem ArgOk.rep {W : World} {v : Value} (h : ArgOk 86 W v) : ∃ (kind err pos : Int) (A : Option Addr) (m c : Nat) (al : List Al) (text : ByteArray) (n : Int), v = .agg #[.int .i64 kind, .int .i64 err, .int .i64 pos, .slice A m c, .string text, .int .i64 n] ∧ i64ok kind ∧ i64ok err ∧ i64ok pos ∧ al.length = m ∧ m ≤ c ∧ c ≤ maxLen ∧ (∀ a ∈ al, a.ok) ∧ Row W W.heap.size A (al.flatMap Al.cells) ∧ text.size ≤ maxLen ∧ i64ok n := by
  have ht := h.trd
  obtain ⟨H, enc, d, p, base, hok, _⟩ := h
  obtain ⟨cs, rfl, _⟩ := okWide_struct Try.underlying86 hok
  obtain ⟨hl, hf⟩ := ht.struct Try.underlying86
  rw [Try.cRp] at hl
  obtain ⟨ls⟩ := cs
  simp only [Value.cells] at hl hf
  match ls, hl with
  | [a, b, c, d, e, g], _ =>
    have h0 : Trd 3 W (([a, b, c, d, e, g].drop 0).take (Try.prog.cellsOf 3)) := hf 0 _ rfl
    have h1 : Trd 35 W (([a, b, c, d, e, g].drop 1).take (Try.prog.cellsOf 35)) := hf 1 _ rfl
    have h2 : Trd 3 W (([a, b, c, d, e, g].drop 2).take (Try.prog.cellsOf 3)) := hf 2 _ rfl
    have h3 : Trd 56 W (([a, b, c, d, e, g].drop 3).take (Try.prog.cellsOf 56)) := hf 3 _ rfl
    have h4 : Trd 9 W (([a, b, c, d, e, g].drop 4).take (Try.prog.cellsOf 9)) := hf 4 _ rfl
    have h5 : Trd 3 W (([a, b, c, d, e, g].drop 5).take (Try.prog.cellsOf 3)) := hf 5 _ rfl
    rw [Try.cInt] at h0 h2 h5
    rw [Try.cErr] at h1
    rw [Try.cAls] at h3
    rw [Try.cStr] at h4
    simp only [List.drop_zero, List.drop_succ_cons, List.take_succ_cons, List.take_zero] at h0 h1 h2 h3 h4 h5
    obtain ⟨k, e0, w0⟩ := h0.int Try.underlying3
    obtain ⟨k1, e1, w1⟩ := h1.int Try.underlying35
    obtain ⟨k2, e2, w2⟩ := h2.int Try.underlying3
    obtain ⟨A, n1, c1, al, e3, hn1, hc1, hm1, ho1, hr1⟩ := Trd.rows (f := Al.cells) (p := Al.ok) Try.underlying56 (fun x hx => hx.al) h3
    obtain ⟨s, e4, w4⟩ := h4.string Try.underlying9
    obtain ⟨n, e5, w5⟩ := h5.int Try.underlying3
    simp only [List.cons.injEq, and_true] at e0 e1 e2 e3 e4 e5
    subst e0 e1 e2 e3 e4 e5
    exact ⟨k, k1, k2, A, n1, c1, al, s, n, rfl, i64_of_wf w0, i64_of_wf w1, i64_of_wf w2, hn1, hc1, hm1, ho1, hr1, w4, i64_of_wf w5⟩

theorem kinds_walk (W : World) (v0 v1 : Value) (o0 : ArgOk 3 W v0) (o1 : ArgOk 2 W v1) :
    Calls Try.prog 13 #[v0, v1] W fun e w' => e = .returned (.bool true) ∧ Below W.heap.size W w' := by
  obtain ⟨k, rfl, _, _⟩ := o0.int
  obtain ⟨n, rfl, hn⟩ := o1.z64
  exact kinds_any W k n hn
end Go.Proofs.Ytimhghmnnibajaa
