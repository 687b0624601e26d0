/-
  What a statement's walk is told of each argument that came in, and two closed facts of the program that every row asks.
-/
import Derived.Test.YtelglbblgkhcmaaGreatRows
import Derived.Test.YtelglbblgkhcmaaGreatBase
import Derived.ProofKit
import Derived.OpenShut
import Derived.Deep.Matrix
namespace Go.Proofs.YtelglbblgkhcmaaGreat
open Go.RowKit Go.ChangeShapes Go.WideShapes Go.Deep
open Go.ChangeMaps (open_string)

theorem Tryz.own : ownKnob Tryz.prog.godebug = none := by kernel_rfl
theorem Tryz.laidOut : laidOutB Tryz.prog = true := by kernel_rfl

/-- The value v, of type t, reads as some datum in W. -/
def ArgOk (t : TypeId) (W : World) (v : Value) : Prop :=
  ∃ (H : Type) (enc : TypeId × Value → H) (d : DataW H) (p : List MemPlace) (base : Nat), Value.okWide Tryz.prog W .any base t v ∧ DataW.Trod enc Tryz.prog W 0 (fun _ => true) true t v d p

theorem arg_lt {H : Type} {enc : TypeId × Value → H} {W : World} {t : TypeId} {v : Value} {d : DataW H} {p : List MemPlace} (h : DataW.Trod enc Tryz.prog W 0 (fun _ => true) true t v d p) : ∀ x ∈ p, x.block < W.heap.size := by
  obtain ⟨m, hm⟩ := h
  exact DataW.trod_lt m _ _ _ hm

/-- Cells that hold numbers of a byte hold bytes. -/
theorem bytes_of_cells {W : World} {A : Option Addr} {n c : Nat} {Z : List Int} (hZ : Z.length = c) (hn : n ≤ c) (hwf : ∀ n ∈ Z, (Lit.int .u8 n).wf = true)
    (hc : ∀ a', A = some a' → ∀ j, j < c → W.cell? (a'.add j) = some (.int .u8 (Z.getD j 0))) (h0 : A = none → c = 0) :
    ∃ l : List UInt8, l.length = n ∧ Bytes W W.heap.size A l := by
  refine ⟨(Z.take n).map fun z => UInt8.ofNat z.toNat, by simp; omega, fun hne => ?_⟩
  have hn0 : 0 < n := by
    rcases Nat.eq_zero_or_pos n with h | h
    · subst h; simp at hne
    · exact h
  rcases A with _ | a
  · have := h0 rfl; omega
  · obtain ⟨b, off, rfl, hc2⟩ := ints_at (k := .u8) (zs := Z) (fun i hi => hc a rfl i (by omega)) (by omega)
    refine ⟨b, off, rfl, ?_, fun j u hu => ?_⟩
    · have := hc2 0 (by omega)
      exact block_lt_of_cell this
    · have hj : j < n := by
        rcases Nat.lt_or_ge j n with h | h
        · exact h
        · rw [List.getElem?_eq_none (by simp; omega)] at hu; cases hu
      rw [hc2 j (by omega)]
      have hjZ : j < Z.length := by omega
      have hz := bounds_u8 (hwf Z[j] (List.getElem_mem hjZ))
      simp [hj, hjZ] at hu
      subst hu
      simp only [byteV, List.getD_eq_getElem?_getD, List.getElem?_eq_getElem hjZ, Option.getD_some]
      congr 2
      rw [UInt8.toNat_ofNat_of_lt' (show Z[j].toNat < 256 by omega)]
      omega

set_option maxRecDepth 100000 in
theorem ArgOk.bytes {W : World} {v : Value} (h : ArgOk 37 W v) : ∃ A n c l, v = .slice A n c ∧ l.length = n ∧ n ≤ c ∧ c ≤ maxLen ∧ Bytes W W.heap.size A l := by
  obtain ⟨H, enc, d, p, base, hok, fuel, hf⟩ := h
  obtain ⟨a0, len0, cap0, rfl⟩ := okWide_slice Tryz.underlying37 hok
  rcases open_ints Tryz.underlying37 Tryz.underlying5 (by kernel_rfl) hf with ⟨hcs, _⟩ | ⟨x, l, c, zs, hcs, _, hl, hm, hz, _, hcell, hwz⟩
  · simp [Value.cells] at hcs
    obtain ⟨rfl, rfl, rfl⟩ := hcs
    exact ⟨_, _, _, [], rfl, rfl, Nat.le_refl _, by simp, Row.nil_ _ _ _⟩
  · simp [Value.cells] at hcs
    obtain ⟨rfl, rfl, rfl⟩ := hcs
    simp only [if_true] at hz
    obtain ⟨l, hl2, hb⟩ := bytes_of_cells (W := W) (A := some x) hz hl hwz (fun a' e j hj => by cases e; exact hcell j (by omega)) (fun e => by cases e)
    exact ⟨_, _, _, l, rfl, hl2, hl, hm, hb⟩

set_option maxRecDepth 100000 in
theorem ArgOk.byteRows {W : World} {v : Value} (h : ArgOk 72 W v) : ∃ A n c ls, v = .slice A n c ∧ ls.length = n ∧ n ≤ c ∧ c ≤ maxLen ∧ Slices W W.heap.size A ls := by
  obtain ⟨H, enc, d, p, base, hok, fuel, hf⟩ := h
  obtain ⟨a0, len0, cap0, rfl⟩ := okWide_slice Tryz.underlying72 hok
  rcases open_int_rows Tryz.underlying72 Tryz.underlying37 Tryz.underlying5 (by kernel_rfl) (by kernel_rfl) hf with ⟨hcs, _⟩ | ⟨a, len, cap, A, L, C, Z, hcs, _, hl, hm, _, hr⟩
  · simp [Value.cells] at hcs
    obtain ⟨rfl, rfl, rfl⟩ := hcs
    exact ⟨_, _, _, [], rfl, rfl, Nat.le_refl _, by simp, [], rfl, Row.nil_ _ _ _, fun i hi => absurd hi (by simp)⟩
  · simp [Value.cells] at hcs
    obtain ⟨rfl, rfl, rfl⟩ := hcs
    have each : ∀ r, r < len0 → ∃ l : List UInt8, l.length = L r ∧ Bytes W W.heap.size (A r) l := fun r hrl => by
      obtain ⟨_, h2, _, h4, h5, h6, h7⟩ := hr r (by omega)
      exact bytes_of_cells h4 h2 h5 (fun a' e => (h7 a' e).2) h6
    obtain ⟨f, hfl⟩ := choose_lt each
    refine ⟨_, _, _, (List.range len0).map f, rfl, by simp, hl, hm, (List.range len0).map fun r => .slice (A r) (L r) (C r), by simp, fun hne => ?_, fun i hi => ?_⟩
    · have h0 : 0 < len0 := by
        rcases Nat.eq_zero_or_pos len0 with h | h
        · subst h; simp at hne
        · exact h
      have hspot : a.spot = none := by
        have := (hr 0 (by omega)).1
        simpa [Addr.add] using World.cell?_spot this
      obtain ⟨b, off, spot⟩ := a
      simp only at hspot
      subst hspot
      refine ⟨b, off, rfl, ?_, fun j u hu => ?_⟩
      · have := (hr 0 (by omega)).1
        exact block_lt_of_cell this
      · have hj : j < len0 := by
          rcases Nat.lt_or_ge j len0 with h | h
          · exact h
          · rw [List.getElem?_eq_none (by simp; omega)] at hu; cases hu
        simp [hj] at hu
        subst hu
        have := (hr j (by omega)).1
        have hadd : (⟨b, off, none⟩ : Addr).add j = ⟨b, off + j, none⟩ := by unfold Addr.add; split <;> simp_all
        rw [← hadd]
        exact this
    · simp at hi
      obtain ⟨_, h2, h3, _⟩ := hr i (by omega)
      obtain ⟨e1, e2⟩ := hfl i hi
      refine ⟨A i, C i, ?_, ?_, ?_⟩
      · simp [hi, e1]
      · simpa using e2
      · simp [e1]; omega

set_option maxRecDepth 100000 in
theorem ArgOk.int {W : World} {v : Value} (h : ArgOk 3 W v) : ∃ n : Int, v = .int .i64 n ∧ -9223372036854775808 ≤ n ∧ n ≤ 9223372036854775807 := by
  obtain ⟨H, enc, d, p, base, hok, hf⟩ := h
  obtain ⟨n, rfl, _, _, hw⟩ := open_int Tryz.underlying3 hok hf
  refine ⟨n, rfl, ?_⟩
  simp [Lit.wf, IntKind.min, IntKind.max, IntKind.signed, IntKind.bits] at hw
  omega
set_option maxRecDepth 100000 in
theorem ArgOk.u8 {W : World} {v : Value} (h : ArgOk 5 W v) : ∃ n : Nat, v = .int .u8 n ∧ n < 256 := by
  obtain ⟨H, enc, d, p, base, hok, hf⟩ := h
  obtain ⟨n, rfl, _, _, hw⟩ := open_int Tryz.underlying5 hok hf
  have := bounds_u8 hw
  exact ⟨n.toNat, by rw [Int.toNat_of_nonneg this.1], by omega⟩
set_option maxRecDepth 100000 in
theorem ArgOk.u16 {W : World} {v : Value} (h : ArgOk 36 W v) : ∃ n : Nat, v = .int .u16 n ∧ n < 65536 := by
  obtain ⟨H, enc, d, p, base, hok, hf⟩ := h
  obtain ⟨n, rfl, _, _, hw⟩ := open_int Tryz.underlying36 hok hf
  simp [Lit.wf, IntKind.min, IntKind.max, IntKind.signed, IntKind.bits] at hw
  exact ⟨n.toNat, by rw [Int.toNat_of_nonneg hw.1], by omega⟩

end Go.Proofs.YtelglbblgkhcmaaGreat
