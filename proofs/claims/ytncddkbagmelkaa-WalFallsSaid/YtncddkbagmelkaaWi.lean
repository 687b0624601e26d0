/-
  What the statements' arguments open to: numbers, rows of numbers, scripts of acts.
-/
import Derived.Test.YtncddkbagmelkaaWh
import Derived.Test.YtncddkbagmelkaaOpen
namespace Go.Proofs.Ytncddkbagmelkaa
open Go.RowKit Go.Deep Go.ChangeShapes Go.WideShapes

set_option maxRecDepth 100000 in
theorem ArgOk.u64 {W : World} {v : Value} (h : ArgOk 60 W v) : ∃ n : Nat, v = .int .u64 n ∧ n < 18446744073709551616 := by
  obtain ⟨H, enc, d, p, base, hok, hf⟩ := h
  obtain ⟨n, rfl, _, _, hw⟩ := open_int Try.underlying60 hok hf
  simp [Lit.wf, IntKind.min, IntKind.max, IntKind.signed, IntKind.bits] at hw
  exact ⟨n.toNat, by rw [Int.toNat_of_nonneg hw.1], by omega⟩
def u64V (n : Nat) : Value := .int .u64 n
def u16V (n : Nat) : Value := .int .u16 n
set_option maxRecDepth 100000 in
theorem ArgOk.u64s {W : World} {v : Value} (h : ArgOk 63 W v) : ∃ (A : Option Addr) (n c : Nat) (l : List Nat), v = .slice A n c ∧ l.length = n ∧ n ≤ c ∧ c ≤ maxLen ∧ (∀ n ∈ l, n < 18446744073709551616) ∧ Row W W.heap.size A (l.map u64V) := by
  obtain ⟨A, n, c, rfl⟩ := okWide_slice Try.underlying63 h.choose_spec.choose_spec.choose_spec.choose_spec.choose_spec.1
  obtain ⟨A', n', c', l, e, h1, h2, h3, h4, h5⟩ := Trd.row (f := u64V) (p := fun n => n < 18446744073709551616) Try.underlying63 (fun x hx => by
    obtain ⟨n, rfl, hw⟩ := hx.int Try.underlying60
    simp [Lit.wf, IntKind.min, IntKind.max, IntKind.signed, IntKind.bits] at hw
    exact ⟨n.toNat, by rw [u64V, Int.toNat_of_nonneg hw.1], by omega⟩) h.trd
  simp [Value.cells] at e
  obtain ⟨rfl, rfl, rfl⟩ := e
  exact ⟨_, _, _, l, rfl, h1, h2, h3, h4, h5⟩
set_option maxRecDepth 100000 in
theorem ArgOk.u16s {W : World} {v : Value} (h : ArgOk 22 W v) : ∃ (A : Option Addr) (n c : Nat) (l : List Nat), v = .slice A n c ∧ l.length = n ∧ n ≤ c ∧ c ≤ maxLen ∧ (∀ n ∈ l, n < 65536) ∧ Row W W.heap.size A (l.map u16V) := by
  obtain ⟨A, n, c, rfl⟩ := okWide_slice Try.underlying22 h.choose_spec.choose_spec.choose_spec.choose_spec.choose_spec.1
  obtain ⟨A', n', c', l, e, h1, h2, h3, h4, h5⟩ := Trd.row (f := u16V) (p := fun n => n < 65536) Try.underlying22 (fun x hx => by
    obtain ⟨n, rfl, hw⟩ := hx.int Try.underlying35
    simp [Lit.wf, IntKind.min, IntKind.max, IntKind.signed, IntKind.bits] at hw
    exact ⟨n.toNat, by rw [u16V, Int.toNat_of_nonneg hw.1], by omega⟩) h.trd
  simp [Value.cells] at e
  obtain ⟨rfl, rfl, rfl⟩ := e
  exact ⟨_, _, _, l, rfl, h1, h2, h3, h4, h5⟩
end Go.Proofs.Ytncddkbagmelkaa
