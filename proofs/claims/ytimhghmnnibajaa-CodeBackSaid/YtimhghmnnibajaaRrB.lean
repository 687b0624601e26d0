/-
  The walks of the reference's reader (augurref1.Reader): Int, Small, Text, Bool. What is read lies in range.
-/
import Derived.Test.YtimhghmnnibajaaRrA
namespace Go.Proofs.Ytimhghmnnibajaa
open Go.RowKit

theorem rdN_lt : ∀ (k i v : Nat) (l : List UInt8) (n : Nat) (l' : List UInt8), i + k = 10 → v < 2 ^ (7 * i) → rdN k i v l = some (n, l') → n < 18446744073709551616
  | 0, _, _, _, _, _, _, _, h => by simp [rdN] at h
  | k + 1, i, v, [], n, l', _, _, h => by simp [rdN] at h
  | k + 1, i, v, b :: l, n, l', hk, hv, h => by
    by_cases h9 : i = 9 ∧ 1 < b.toNat
    · rw [rdN_wide _ _ _ _ _ h9] at h
      cases h
    · have hs := acc_64 (b := b.toNat) (k := i) (by omega) hv b.toNat_lt h9
      by_cases h1 : b.toNat < 128
      · by_cases h2 : b.toNat = 0 ∧ 0 < i
        · rw [rdN_idle _ _ _ _ _ h9 h2] at h
          cases h
        · rw [rdN_last _ _ _ _ _ h9 h1 h2] at h
          simp only [Option.some.injEq, Prod.mk.injEq] at h
          rw [Nat.mod_eq_of_lt h1] at hs
          omega
      · rw [rdN_more _ _ _ _ _ h9 h1] at h
        exact rdN_lt k (i + 1) _ l n l' (by omega) (acc_lt hv) h
theorem numR_lt {l l' : List UInt8} {n : Nat} (h : numR l = some (n, l')) : n < 18446744073709551616 := rdN_lt 10 0 0 l n l' rfl (by decide) h
theorem valNum_lt (st : Option (List UInt8)) : valOf numR 0 st < 18446744073709551616 := by
  cases st with
  | none => simp [valOf]
  | some l =>
    cases h : numR l with
    | none => simp [valOf, h]
    | some p => obtain ⟨n, l'⟩ := p; have := numR_lt h; simpa [valOf, h] using this
theorem intR_ok {l l' : List UInt8} {z : Int} (h : intR l = some (z, l')) : -9223372036854775808 ≤ z ∧ z ≤ 9223372036854775807 := by
  unfold intR at h
  cases hn : numR l with
  | none => rw [hn] at h; cases h
  | some p =>
    obtain ⟨n, l2⟩ := p
    rw [hn] at h
    simp only [Option.map_some, Option.some.injEq, Prod.mk.injEq] at h
    rw [← h.1]
    exact zagN_range n (numR_lt hn)
theorem valInt_ok (st : Option (List UInt8)) : -9223372036854775808 ≤ valOf intR 0 st ∧ valOf intR 0 st ≤ 9223372036854775807 := by
  cases st with
  | none => simp [valOf]
  | some l =>
    cases h : intR l with
    | none => simp [valOf, h]
    | some p => obtain ⟨n, l'⟩ := p; have := intR_ok h; simpa [valOf, h] using this

theorem rrNum_any (w : World) (g : Nat) (st : Option (List UInt8)) (h : Rrd w g st) :
    Calls Try.prog 34 #[.pointer (some ⟨g, 0, none⟩)] w (TookR w g (fun n : Nat => .int .u64 n) numR 0 st) := by
  cases st with
  | none => exact (rrNum_none w g h).mono fun e w' ⟨he, h1, h2⟩ => ⟨he, h1, h2⟩
  | some l => exact (rrNum_some w g l h).mono fun e w' ⟨_, _, _, h3⟩ => h3
theorem and1_u64 (n : Nat) (h : n < 18446744073709551616) : bits .and .u64 (n : Int) 1 = ((n % 2 : Nat) : Int) := by
  have := u64_and_nat n 1 h (by omega)
  rw [nat_mask1] at this
  exact this
set_option maxRecDepth 100000 in
set_option maxHeartbeats 1000000 in
theorem rrInt_any (w : World) (g : Nat) (st : Option (List UInt8)) (h : Rrd w g st) :
    Calls Try.prog 68 #[.pointer (some ⟨g, 0, none⟩)] w (TookR w g (fun z : Int => .int .i64 z) intR 0 st) := by
  have hlt := valNum_lt st
  have hv : Hid (valOf intR 0 st = zagN (valOf numR 0 st)) := Lib.hid (by
    cases st with
    | none => rfl
    | some l => cases hn : numR l with
      | none => simp [valOf, intR, hn]; rfl
      | some p => simp [valOf, intR, hn])
  have hx : Hid (nextOf intR st = nextOf numR st) := Lib.hid (by
    cases st with
    | none => rfl
    | some l => cases hn : numR l <;> simp [nextOf, intR, hn])
  go_enter Try.func68, Try.ntmps68
  go_wp2_with fail
  refine (rrNum_any _ g st h).mono ?_
  rintro e w2 ⟨rfl, hR, hM⟩
  generalize valOf numR 0 st = n at hlt hv
  have hand := and1_u64 n hlt
  by_cases h2 : n % 2 = 0
  · have hz := Lib.hid (show zagN n = ((n / 2 : Nat) : Int) by rw [zagN, if_pos h2])
    go_wp2_with fail
    go_ret
    exact ⟨by rw [hv.out, hz.out]; go_num, by rw [hx.out]; exact hR, hM⟩
  · have h2' : n % 2 = 1 := by omega
    have hz := Lib.hid (show zagN n = -((n / 2 : Nat) : Int) - 1 by rw [zagN, if_neg h2])
    go_wp2_with fail
    go_ret
    exact ⟨by rw [hv.out, hz.out]; go_num, by rw [hx.out]; exact hR, hM⟩
theorem Rrd.cells {w : World} {g : Nat} {st : Option (List UInt8)} (h : Rrd w g st) : ∃ A n c, w.cell? ⟨g, 0, none⟩ = some (.slice A n c) ∧ w.cell? ⟨g, 1, none⟩ = some (.bool st.isNone) ∧ w.frozen? ⟨g, 0, none⟩ = false ∧ w.frozen? ⟨g, 1, none⟩ = false ∧ Holds w g 69 #[.slice A n c, .bool st.isNone] ∧ n ≤ 100000000000 ∧ ∀ l, st = some l → l.length = n ∧ n ≤ c ∧ Bytes w w.heap.size A l ∧ (l ≠ [] → ∀ a, A = some a → a.block < g) := by
  obtain ⟨A, n, c, h1, h2, h3⟩ := h
  exact ⟨A, n, c, by rw [h1.cell 0]; rfl, by rw [h1.cell 1]; rfl, h1.frozen 0, h1.frozen 1, h1, h2, h3⟩
set_option maxRecDepth 100000 in
set_option maxHeartbeats 1000000 in
theorem rrSmall_any (w : World) (g : Nat) (st : Option (List UInt8)) (h : Rrd w g st) :
    Calls Try.prog 76 #[.pointer (some ⟨g, 0, none⟩)] w (TookR w g (fun z : Int => .int .i64 z) smallR 0 st) := by
  have hok := valInt_ok st
  go_enter Try.func76, Try.ntmps76
  go_wp2_with fail
  refine (rrInt_any _ g st h).mono ?_
  rintro e w2 ⟨rfl, hR, hM⟩
  obtain ⟨A, n, c, c0, c1, f0, f1, hh, hn, _⟩ := hR.cells
  have hh := Lib.hid hh
  rename_i hh'
  have hR := Lib.hid hR
  rename_i hR'
  have hM := Lib.hid hM
  rename_i hM'
  clear hh' hR' hM'
  by_cases hs : -2147483648 ≤ valOf intR 0 st ∧ valOf intR 0 st ≤ 2147483647
  · have hv : Hid (valOf smallR 0 st = valOf intR 0 st) := Lib.hid (by
      cases st with
      | none => rfl
      | some l => cases hn : intR l with
        | none => simp [valOf, smallR, hn]
        | some p => simp [valOf, hn] at hs; simp [valOf, smallR, hn, hs])
    have hx : Hid (nextOf smallR st = nextOf intR st) := Lib.hid (by
      cases st with
      | none => rfl
      | some l => cases hn : intR l with
        | none => simp [nextOf, smallR, hn]
        | some p => simp [valOf, hn] at hs; simp [nextOf, smallR, hn, hs])
    obtain ⟨hs1, hs2⟩ := hs
    generalize valOf intR 0 st = z at hok hs1 hs2 hv ⊢
    go_wp2_with fail
    go_ret
    exact ⟨by rw [hv.out]; rfl, by rw [hx.out]; exact hR.out, hM.out⟩
  · have hno : Hid (st.bind smallR = none) := Lib.hid (by
      cases st with
      | none => rfl
      | some l => cases hn : intR l with
        | none => simp [smallR, hn]
        | some p =>
          have : valOf intR 0 (some l) = p.1 := by simp [valOf, hn]
          rw [this] at hs
          simp [smallR, hn, hs])
    have hfin := Lib.hid (TookR.no (val := fun z : Int => .int .i64 z) (zero := 0) hno.out (Rrd.fail hh.out hn) (hM.out.trans (Writes.store w2 (p := ⟨g, 1, none⟩) (by simp) (.bool true))))
    generalize valOf intR 0 st = z at hok hs ⊢
    by_cases ha : z < -2147483648
    · go_wp2_with fail
      go_ret
      exact hfin.out
    · have hb : 2147483647 < z := by omega
      go_wp2_with fail
      go_ret
      exact hfin.out
set_option maxRecDepth 100000 in
set_option maxHeartbeats 2000000 in
theorem rrBool_any (w : World) (g : Nat) (st : Option (List UInt8)) (h : Rrd w g st) :
    Calls Try.prog 37 #[.pointer (some ⟨g, 0, none⟩)] w (TookR w g Value.bool boolR false st) := by
  obtain ⟨A, n, c, c0, c1, f0, f1, hh, hn, hl⟩ := h.cells
  have hh := Lib.hid hh
  rename_i hh'
  clear hh' h
  cases st with
  | none =>
    have hfin := Lib.hid (TookR.no (val := Value.bool) (r := boolR) (zero := false) (st := none) rfl (Rrd.fail hh.out hn) (Writes.store w (p := ⟨g, 1, none⟩) (by simp) (.bool true)))
    clear hl
    go_enter Try.func37, Try.ntmps37
    go_wp2_with fail
    go_ret
    exact hfin.out
  | some l =>
    obtain ⟨hnl0, hc, hb0, hA0⟩ := hl l rfl
    clear hl
    cases l with
    | nil =>
      have hfin := Lib.hid (TookR.no (val := Value.bool) (r := boolR) (zero := false) (st := some []) rfl (Rrd.fail hh.out hn) (Writes.store w (p := ⟨g, 1, none⟩) (by simp) (.bool true)))
      subst hnl0
      clear hb0 hA0
      go_enter Try.func37, Try.ntmps37
      go_wp2_with fail
      go_ret
      exact hfin.out
    | cons b r =>
      obtain ⟨bk, off, rfl, _, hcell⟩ := hb0.at_ (k := 0) (by simp)
      have hcell1 : w.cell? ⟨bk, off, none⟩ = some (.int .u8 b.toNat) := by simpa using hcell
      clear hcell
      have hnl := Lib.hid hnl0
      have hn0 : 0 < n := by rw [← hnl0]; simp
      have hnz : ((n : Int) == 0) = false := by rw [beq_eq_false_iff_ne]; omega
      have hrl : Hid (r.length = n - 1) := Lib.hid (by rw [← hnl0]; simp)
      clear hnl0
      have hcut := hb0.cut 1 (c := c) (by rw [hnl.out]; exact hc)
      have hgb := Lib.hid (hA0 (by simp) _ rfl)
      clear hb0 hA0
      have hb256 := b.toNat_lt
      by_cases h1 : 1 < b.toNat
      · have hfin := Lib.hid (TookR.no (val := Value.bool) (r := boolR) (zero := false) (st := some (b :: r)) (by simp [boolR, h1]) (Rrd.fail hh.out hn) (Writes.store w (p := ⟨g, 1, none⟩) (by simp) (.bool true)))
        clear hcut
        go_enter Try.func37, Try.ntmps37
        go_wp2_with fail
        go_ret
        exact hfin.out
      · have hyes : Hid (boolR (b :: r) = some (b.toNat == 1, r)) := Lib.hid (by simp [boolR, h1])
        have hfin : Hid (∀ o n2 c2 x, n2 = n - 1 → n2 ≤ c2 → x = (b.toNat == 1) → Bytes w w.heap.size (some ⟨bk, o, none⟩) r → TookR w g Value.bool boolR false (some (b :: r)) (.returned (.bool x)) (w.setCell ⟨g, 0, none⟩ (.slice (some ⟨bk, o, none⟩) n2 c2))) := Lib.hid fun o n2 c2 x h0 h3 hx h4 => by
          subst h0 hx
          exact TookR.ok (val := Value.bool) (zero := false) hyes.out (Rrd.set rfl hh.out hrl.out h3 h4 (fun _ a e => by injection e with e; rw [← e]; exact hgb.out) (by omega)) (Writes.store _ (by simp) _)
        have hx1 : ((b.toNat : Int) == 1) = (b.toNat == 1) := by
          cases h : (b.toNat == 1)
          · rw [beq_eq_false_iff_ne] at h ⊢
            omega
          · rw [beq_iff_eq] at h ⊢
            omega
        by_cases e : c = 1
        · subst e
          rw [if_pos rfl] at hcut
          have hcut1 := Lib.hid hcut
          clear hcut
          go_enter Try.func37, Try.ntmps37
          go_wp2_with fail
          go_ret
          exact hfin.out _ _ _ _ (by omega) (by omega) rfl hcut1.out
        · rw [if_neg e] at hcut
          have hcut1 := Lib.hid (show Bytes w w.heap.size (some ⟨bk, off + 1, none⟩) r from hcut)
          clear hcut
          go_enter Try.func37, Try.ntmps37
          go_wp2_with fail
          go_ret
          exact hfin.out _ _ _ _ (by omega) (by omega) rfl hcut1.out
end Go.Proofs.Ytimhghmnnibajaa
