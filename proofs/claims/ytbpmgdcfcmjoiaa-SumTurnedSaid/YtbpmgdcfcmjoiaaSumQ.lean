/-
  Plain law of CRC-32: one bit that is turned, and three, change the sum of up to 500 bytes. No program in sight.
-/
import Derived.Test.YtbpmgdcfcmjoiaaSumP
import Derived.Test.YtbpmgdcfcmjoiaaSumT
namespace Go.Proofs.Ytbpmgdcfcmjoiaa

theorem nibS_zero {c : Nat} (h : c < 4294967296) (h0 : nibS c = 0) : c = 0 := by
  unfold nibS at h0
  split at h0
  · exfalso
    have h1 : (c / 2 ^^^ 3988292384).testBit 31 = true := by
      rw [Nat.testBit_xor, Nat.testBit_lt_two_pow (show c / 2 < 2 ^ 31 by omega)]
      decide
    rw [h0] at h1
    simp at h1
  · omega
theorem nibN_zero {m c : Nat} (h : c < 4294967296) (h0 : nibN m c = 0) : c = 0 := by
  induction m with
  | zero => exact h0
  | succ m ih => exact ih (nibS_zero (nibN_lt m c h) h0)
theorem nibN_inj {m a b : Nat} (ha : a < 4294967296) (hb : b < 4294967296) (h : nibN m a = nibN m b) : a = b := by
  have h1 : nibN m (a ^^^ b) = 0 := by rw [nibN_xor, h, Nat.xor_self]
  have h2 := nibN_zero (Nat.xor_lt_two_pow (n := 32) ha hb) h1
  have h3 := congrArg (· ^^^ b) h2
  simpa [Nat.xor_assoc] using h3
theorem nibN_pow (p : Nat) : nibN p (2 ^ p) = 1 := by
  induction p with
  | zero => rfl
  | succ p ih =>
    rw [nibN_add p 1]
    show nibN p (nibS (2 ^ (p + 1))) = 1
    rw [show nibS (2 ^ (p + 1)) = 2 ^ p by unfold nibS; rw [Nat.pow_succ, if_neg (by omega)]; omega]
    exact ih

/-- Bit s of a byte is turned. -/
def turnB (b : UInt8) (s : Nat) : UInt8 := UInt8.ofNat (b.toNat ^^^ 2 ^ s)
theorem turnB_toNat (b : UInt8) (s : Nat) (hs : s < 8) : (turnB b s).toNat = b.toNat ^^^ 2 ^ s := by
  unfold turnB
  have h1 := b.toNat_lt
  have h2 : 2 ^ s < 2 ^ 8 := Nat.pow_lt_pow_right (by omega) hs
  exact UInt8.toNat_ofNat_of_lt' (Nat.xor_lt_two_pow (n := 8) h1 h2)
/-- Bit p of a text is turned. -/
def turn (l : List UInt8) (p : Nat) : List UInt8 := l.set (p / 8) (turnB (l.getD (p / 8) 0) (p % 8))
theorem turn_length (l : List UInt8) (p : Nat) : (turn l p).length = l.length := by simp [turn]

theorem crcS_xor (c d : Nat) (b : UInt8) : crcS (c ^^^ d) b = crcS c b ^^^ nibN 8 d := by
  unfold crcS
  rw [← nibN_xor]
  congr 1
  rw [Nat.xor_assoc, Nat.xor_comm d, ← Nat.xor_assoc]
theorem crcL_xor (l : List UInt8) : ∀ c d : Nat, crcL (c ^^^ d) l = crcL c l ^^^ nibN (8 * l.length) d := by
  induction l with
  | nil => intro c d; rfl
  | cons b l ih =>
    intro c d
    show crcL (crcS (c ^^^ d) b) l = crcL (crcS c b) l ^^^ _
    rw [crcS_xor, ih, ← nibN_add]
    congr 2
theorem crcL_turn (l : List UInt8) : ∀ (c p : Nat), p < 8 * l.length → crcL c (turn l p) = crcL c l ^^^ nibN (8 * l.length - p) 1 := by
  induction l with
  | nil => intro c p h; simp at h
  | cons b l ih =>
    intro c p h
    simp only [List.length_cons] at h ⊢
    by_cases hp : p < 8
    · have e : turn (b :: l) p = turnB b p :: l := by
        unfold turn
        rw [Nat.div_eq_of_lt hp, Nat.mod_eq_of_lt hp]
        rfl
      rw [e]
      show crcL (crcS c (turnB b p)) l = crcL (crcS c b) l ^^^ _
      have e2 : crcS c (turnB b p) = crcS c b ^^^ nibN 8 (2 ^ p) := by
        unfold crcS
        rw [turnB_toNat b p hp, ← Nat.xor_assoc, nibN_xor]
      rw [e2, crcL_xor, ← nibN_add]
      congr 1
      rw [show 8 * l.length + 8 = (8 * (l.length + 1) - p) + p by omega, nibN_add, nibN_pow]
    · have e : turn (b :: l) p = b :: turn l (p - 8) := by
        unfold turn
        rw [show p / 8 = (p - 8) / 8 + 1 by omega, show p % 8 = (p - 8) % 8 by omega]
        rfl
      rw [e]
      show crcL (crcS c b) (turn l (p - 8)) = crcL (crcS c b) l ^^^ _
      rw [ih _ _ (by omega)]
      congr 2
      omega

/-- The n values from c on lie in the tree; with their last bit turned they don't. -/
def allIn (t : Tree) : Nat → Nat → Bool
  | 0, _ => true
  | n + 1, c => t.has c && !t.has (c ^^^ 1) && allIn t n (nibS c)
theorem allIn_spec (t : Tree) (n : Nat) : ∀ c, allIn t n c = true → ∀ i, i < n → t.has (nibN i c) = true ∧ t.has (nibN i c ^^^ 1) = false := by
  induction n with
  | zero => intro c _ i h; omega
  | succ n ih =>
    intro c h i hi
    rw [allIn, Bool.and_eq_true, Bool.and_eq_true] at h
    cases i with
    | zero => exact ⟨h.1.1, by have := h.1.2; rw [Bool.not_eq_true'] at this; exact this⟩
    | succ i =>
      have := ih _ h.2 i (by omega)
      rw [nibN_add i 1]
      exact this
theorem powers_checked : allIn powersT 4000 (nibS 1) = true := by decide +kernel
/-- Two powers and 1 never cancel. -/
theorem two_powers (x y : Nat) (hx : 0 < x) (hx2 : x ≤ 4000) (hy : 0 < y) (hy2 : y ≤ 4000) : nibN x 1 ^^^ 1 ≠ nibN y 1 := by
  intro h
  have h1 := (allIn_spec _ _ _ powers_checked (x - 1) (by omega)).2
  have e : ∀ z, 0 < z → nibN (z - 1) (nibS 1) = nibN z 1 := fun z hz => by
    have := nibN_add (z - 1) 1 1
    rw [show z - 1 + 1 = z by omega] at this
    rw [this]
    rfl
  rw [e x hx, h] at h1
  have h2 := (allIn_spec _ _ _ powers_checked (y - 1) (by omega)).1
  rw [e y hy, h1] at h2
  cases h2
end Go.Proofs.Ytbpmgdcfcmjoiaa
