/-
  Plain law of CRC-32: one bit that is turned, and three, change the sum. No program in sight.
-/
import Derived.Test.YtbpmgdcfcmjoiaaSumQ
namespace Go.Proofs.Ytbpmgdcfcmjoiaa

theorem nib_one (m : Nat) : nibN m 1 ≠ 0 := fun h => by
  have := nibN_zero (by omega) h
  omega
theorem min_powers (a b c : Nat) (h1 : 1 ≤ a) (hab : a < b) (hac : a < c) (hb : b ≤ 4000) (hc : c ≤ 4000) : nibN a 1 ^^^ nibN b 1 ^^^ nibN c 1 ≠ 0 := by
  intro h
  have eb : nibN b 1 = nibN a (nibN (b - a) 1) := by rw [← nibN_add]; congr 1; omega
  have ec : nibN c 1 = nibN a (nibN (c - a) 1) := by rw [← nibN_add]; congr 1; omega
  rw [eb, ec, ← nibN_xor, ← nibN_xor] at h
  have hl := fun m => nibN_lt m 1 (by omega)
  have h2 := nibN_zero (Nat.xor_lt_two_pow (n := 32) (Nat.xor_lt_two_pow (n := 32) (by omega) (hl (b - a))) (hl (c - a))) h
  refine two_powers (b - a) (c - a) (by omega) (by omega) (by omega) (by omega) ?_
  have h3 := congrArg (· ^^^ nibN (c - a) 1) h2
  simp only [Nat.xor_assoc, Nat.xor_self, Nat.xor_zero, Nat.zero_xor] at h3
  rw [Nat.xor_comm]
  exact h3
theorem three_powers (a b c : Nat) (ha : 1 ≤ a) (hb : 1 ≤ b) (hc : 1 ≤ c) (ha2 : a ≤ 4000) (hb2 : b ≤ 4000) (hc2 : c ≤ 4000) : nibN a 1 ^^^ nibN b 1 ^^^ nibN c 1 ≠ 0 := by
  intro h
  by_cases e1 : a = b
  · subst e1
    rw [Nat.xor_self, Nat.zero_xor] at h
    exact nib_one c h
  by_cases e2 : b = c
  · subst e2
    rw [Nat.xor_assoc, Nat.xor_self, Nat.xor_zero] at h
    exact nib_one a h
  by_cases e3 : a = c
  · subst e3
    rw [Nat.xor_comm (nibN a 1), Nat.xor_assoc, Nat.xor_self, Nat.xor_zero] at h
    exact nib_one b h
  by_cases h1 : a < b ∧ a < c
  · exact min_powers a b c ha h1.1 h1.2 hb2 hc2 h
  by_cases h2 : b < a ∧ b < c
  · refine min_powers b a c hb h2.1 h2.2 ha2 hc2 ?_
    rw [Nat.xor_comm (nibN b 1)]
    exact h
  · refine min_powers c a b hc (by omega) (by omega) ha2 hb2 ?_
    rw [Nat.xor_assoc, Nat.xor_comm]
    exact h
theorem crcOf_inj {l m : List UInt8} (h : crcOf [l] = crcOf [m]) : crcL 4294967295 l = crcL 4294967295 m := by
  have h1 := crcL_lt 4294967295 l (by omega)
  have h2 := crcL_lt 4294967295 m (by omega)
  unfold crcOf at h
  simp only [List.flatten_cons, List.flatten_nil, List.append_nil] at h
  omega
theorem xor_self_of {a b : Nat} (h : a ^^^ b = a) : b = 0 := by
  have h3 := congrArg (a ^^^ ·) h
  simpa [← Nat.xor_assoc] using h3
theorem turned_one (l : List UInt8) (p : Nat) (hp : p < 8 * l.length) : crcOf [turn l p] ≠ crcOf [l] := by
  intro h
  have h1 := crcOf_inj h
  rw [crcL_turn l _ p hp] at h1
  exact nib_one _ (xor_self_of h1)
theorem turned_three (l : List UInt8) (p q r : Nat) (hl : l.length ≤ 500) (hp : p < 8 * l.length) (hq : q < 8 * l.length) (hr : r < 8 * l.length) : crcOf [turn (turn (turn l p) q) r] ≠ crcOf [l] := by
  intro h
  have h1 := crcOf_inj h
  rw [crcL_turn _ _ r (by simpa [turn_length] using hr), crcL_turn _ _ q (by simpa [turn_length] using hq), crcL_turn l _ p hp] at h1
  simp only [turn_length] at h1
  rw [Nat.xor_assoc, Nat.xor_assoc] at h1
  have h2 := xor_self_of h1
  rw [← Nat.xor_assoc] at h2
  exact three_powers (8 * l.length - p) (8 * l.length - q) (8 * l.length - r) (by omega) (by omega) (by omega) (by omega) (by omega) (by omega) h2
theorem turned_text (l : List UInt8) (p q r : Nat) (hl : l.length ≤ 500) (hp : p < 8 * l.length) (hq : q < 8 * l.length) (hr : r < 8 * l.length) : turn (turn (turn l p) q) r ≠ l := by
  intro h
  exact turned_three l p q r hl hp hq hr (by rw [h])
end Go.Proofs.Ytbpmgdcfcmjoiaa
