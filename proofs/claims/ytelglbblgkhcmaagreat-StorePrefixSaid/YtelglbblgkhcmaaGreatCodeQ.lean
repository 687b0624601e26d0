/-
  Plain laws of package code: what is written is read back; just one text each; the nearer to 0, the shorter. No program in sight.
-/
import Derived.Test.YtelglbblgkhcmaaGreatCodeP
namespace Go.Proofs.YtelglbblgkhcmaaGreat

theorem pow_step (i : Nat) : 2 ^ (7 * (i + 1)) = 128 * 2 ^ (7 * i) := by rw [show 7 * (i + 1) = 7 + 7 * i by omega, Nat.pow_add]
theorem rdN_back (n : Nat) : ∀ k i v l, i + k = 9 → n * 2 ^ (7 * i) < 18446744073709551616 → (0 < i → n ≠ 0) → rdN (k + 1) i v (numE n ++ l) = some (v + n * 2 ^ (7 * i), l) := by
  induction n using Nat.strongRecOn with
  | _ n ih =>
    intro k i v l hk hn h0
    have h9 : i = 9 → n ≤ 1 := by
      rintro rfl
      have h2 : (2 : Nat) ^ (7 * 9) = 9223372036854775808 := by decide
      rw [h2] at hn
      omega
    by_cases h : n < 128
    · rw [numE_small h]
      have hb : (UInt8.ofNat n).toNat = n := by simp; omega
      rw [List.singleton_append, rdN_last _ _ _ _ _ (by rw [hb]; omega) (by rw [hb]; exact h) (by rw [hb]; omega), hb]
    · rw [numE_big h]
      have hb : (UInt8.ofNat (n % 128 + 128)).toNat = n % 128 + 128 := by simp; omega
      have hi : i ≠ 9 := by omega
      obtain ⟨k, rfl⟩ : ∃ k', k = k' + 1 := ⟨k - 1, by omega⟩
      rw [List.cons_append, rdN_more _ _ _ _ _ (by omega) (by rw [hb]; omega), hb]
      have he : n / 128 * 2 ^ (7 * (i + 1)) + n % 128 * 2 ^ (7 * i) = n * 2 ^ (7 * i) := by
        rw [pow_step, ← Nat.mul_assoc, ← Nat.add_mul]
        congr 1
        omega
      rw [ih (n / 128) (by omega) k (i + 1) _ l (by omega) (by omega) (by omega)]
      rw [show (n % 128 + 128) % 128 = n % 128 by omega]
      congr 2
      omega
theorem numR_back (n : Nat) (l : List UInt8) (h : n < 18446744073709551616) : numR (numE n ++ l) = some (n, l) := by
  unfold numR
  rw [rdN_back n 9 0 0 l (by omega) (by simpa using h) (by omega)]
  simp
theorem zigN_range (z : Int) (h1 : -9223372036854775808 ≤ z) (h2 : z ≤ 9223372036854775807) : zigN z < 18446744073709551616 := by
  unfold zigN
  split <;> omega
theorem intR_back (z : Int) (l : List UInt8) (h1 : -9223372036854775808 ≤ z) (h2 : z ≤ 9223372036854775807) : intR (intE z ++ l) = some (z, l) := by
  unfold intR intE
  rw [numR_back _ _ (zigN_range z h1 h2)]
  simp [zag_zig]
theorem boolR_back (b : Bool) (l : List UInt8) : boolR (boolE b ++ l) = some (b, l) := by
  cases b <;> simp [boolE, boolR]
theorem textR_back (s l : List UInt8) (h : s.length < 18446744073709551616) : textR (textE s ++ l) = some (s, l) := by
  unfold textR countR textE
  rw [List.append_assoc, numR_back _ _ h]
  simp
/-- The nearer to 0, the shorter. -/
theorem numE_mono (n : Nat) : ∀ m, n ≤ m → (numE n).length ≤ (numE m).length := by
  induction n using Nat.strongRecOn with
  | _ n ih =>
    intro m hm
    by_cases h : n < 128
    · rw [numE_small h]
      by_cases h' : m < 128
      · rw [numE_small h']; simp
      · rw [numE_big h']; simp
    · have h' : ¬ m < 128 := by omega
      rw [numE_big h, numE_big h']
      have := ih (n / 128) (by omega) (m / 128) (by omega)
      simpa using this
theorem intE_inj (a b : Int) (h1 : -9223372036854775808 ≤ a) (h2 : a ≤ 9223372036854775807) (h3 : -9223372036854775808 ≤ b) (h4 : b ≤ 9223372036854775807) (h : intE a = intE b) : a = b := by
  have e1 := intR_back a [] h1 h2
  rw [h, intR_back b [] h3 h4] at e1
  simpa using e1.symm
end Go.Proofs.YtelglbblgkhcmaaGreat
