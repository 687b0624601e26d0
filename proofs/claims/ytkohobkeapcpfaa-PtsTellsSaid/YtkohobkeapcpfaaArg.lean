/-
  What a statement's walk is told of each argument that came in, and two closed facts of the program that every row asks.
-/
import Derived.Test.YtkohobkeapcpfaaRows
import Derived.Test.YtkohobkeapcpfaaBase
import Derived.ProofKit
import Derived.OpenShut
import Derived.Deep.Matrix
namespace Go.Proofs.Ytkohobkeapcpfaa
open Go.RowKit Go.ChangeShapes Go.WideShapes Go.Deep
open Go.ChangeMaps (open_string)

theorem Try.own : ownKnob Try.prog.godebug = none := by kernel_rfl
theorem Try.laidOut : laidOutB Try.prog = true := by kernel_rfl

/-- The value v, of type t, reads as some datum in W. -/
def ArgOk (t : TypeId) (W : World) (v : Value) : Prop :=
  ∃ (H : Type) (enc : TypeId × Value → H) (d : DataW H) (p : List MemPlace) (base : Nat), Value.okWide Try.prog W .any base t v ∧ DataW.Trod enc Try.prog W 0 (fun _ => true) true t v d p

theorem arg_lt {H : Type} {enc : TypeId × Value → H} {W : World} {t : TypeId} {v : Value} {d : DataW H} {p : List MemPlace} (h : DataW.Trod enc Try.prog W 0 (fun _ => true) true t v d p) : ∀ x ∈ p, x.block < W.heap.size := by
  obtain ⟨m, hm⟩ := h
  exact DataW.trod_lt m _ _ _ hm

/-- Cells that hold numbers of a byte hold bytes. -/
theorem bytes_of_cells {W : World} {A : Option Addr} {n c : Nat} {Z : List Int} (hZ : Z.length = c) (hn : n ≤ c) (hwf : ∀ n ∈ Z, (Lit.int .u8 n).wf = true)
    (hc : ∀ a', A = some a' → ∀ j, j < c → W.cell? (a'.add j) = some (.int .u8 (Z.getD j 0))) (h0 : A = none → c = 0) :
    ∃ l : List UInt8, l.length = n ∧ Bytes W W.heap.size A l := by
  refine ⟨(Z.take n).map fun z => UInt8.ofNat z.toNat, by simp; omega, fun hne => ?_⟩
  have hn0 : 0 < n := by
    rcases Nat.eq_zero_or_pos n with h | h
    · subst h; simp at hne
    · exact h
  rcases A with _ | a
  · have := h0 rfl; omega
  · obtain ⟨b, off, rfl, hc2⟩ := ints_at (k := .u8) (zs := Z) (fun i hi => hc a rfl i (by omega)) (by omega)
    refine ⟨b, off, rfl, ?_, fun j u hu => ?_⟩
    · have := hc2 0 (by omega)
      exact block_lt_of_cell this
    · have hj : j < n := by
        rcases Nat.lt_or_ge j n with h | h
        · exact h
        · rw [List.getElem?_eq_none (by simp; omega)] at hu; cases hu
      rw [hc2 j (by omega)]
      have hjZ : j < Z.length := by omega
      have hz := bounds_u8 (hwf Z[j] (List.getElem_mem hjZ))
      simp [hj, hjZ] at hu
      subst hu
      simp only [byteV, List.getD_eq_getElem?_getD, List.getElem?_eq_getElem hjZ, Option.getD_some]
      congr 2
      rw [UInt8.toNat_ofNat_of_lt' (show Z[j].toNat < 256 by omega)]
      omega

set_option maxRecDepth 100000 in
theorem ArgOk.bytes {W : World} {v : Value} (h : ArgOk 54 W v) : ∃ A n c l, v = .slice A n c ∧ l.length = n ∧ n ≤ c ∧ c ≤ maxLen ∧ Bytes W W.heap.size A l := by
  obtain ⟨H, enc, d, p, base, hok, fuel, hf⟩ := h
  obtain ⟨a0, len0, cap0, rfl⟩ := okWide_slice Try.underlying54 hok
  rcases open_ints Try.underlying54 Try.underlying5 (by kernel_rfl) hf with ⟨hcs, _⟩ | ⟨x, l, c, zs, hcs, _, hl, hm, hz, _, hcell, hwz⟩
  · simp [Value.cells] at hcs
    obtain ⟨rfl, rfl, rfl⟩ := hcs
    exact ⟨_, _, _, [], rfl, rfl, Nat.le_refl _, by simp, Row.nil_ _ _ _⟩
  · simp [Value.cells] at hcs
    obtain ⟨rfl, rfl, rfl⟩ := hcs
    simp only [if_true] at hz
    obtain ⟨l, hl2, hb⟩ := bytes_of_cells (W := W) (A := some x) hz hl hwz (fun a' e j hj => by cases e; exact hcell j (by omega)) (fun e => by cases e)
    exact ⟨_, _, _, l, rfl, hl2, hl, hm, hb⟩

set_option maxRecDepth 100000 in
theorem ArgOk.int {W : World} {v : Value} (h : ArgOk 3 W v) : ∃ n : Int, v = .int .i64 n ∧ -9223372036854775808 ≤ n ∧ n ≤ 9223372036854775807 := by
  obtain ⟨H, enc, d, p, base, hok, hf⟩ := h
  obtain ⟨n, rfl, _, _, hw⟩ := open_int Try.underlying3 hok hf
  refine ⟨n, rfl, ?_⟩
  simp [Lit.wf, IntKind.min, IntKind.max, IntKind.signed, IntKind.bits] at hw
  omega
set_option maxRecDepth 100000 in
theorem ArgOk.u8 {W : World} {v : Value} (h : ArgOk 5 W v) : ∃ n : Nat, v = .int .u8 n ∧ n < 256 := by
  obtain ⟨H, enc, d, p, base, hok, hf⟩ := h
  obtain ⟨n, rfl, _, _, hw⟩ := open_int Try.underlying5 hok hf
  have := bounds_u8 hw
  exact ⟨n.toNat, by rw [Int.toNat_of_nonneg this.1], by omega⟩

end Go.Proofs.Ytkohobkeapcpfaa
