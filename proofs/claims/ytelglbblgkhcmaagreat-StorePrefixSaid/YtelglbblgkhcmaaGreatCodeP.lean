/-
  Plain laws of package code: the bytes of a number, and how they are read. No program in sight.
-/
import Derived.WalkKit
namespace Go.Proofs.YtelglbblgkhcmaaGreat

/-- The bytes of a number, seven bits each, the last below 128. -/
def numE (n : Nat) : List UInt8 := if n < 128 then [UInt8.ofNat n] else UInt8.ofNat (n % 128 + 128) :: numE (n / 128)
termination_by n
decreasing_by omega
theorem numE_small {n : Nat} (h : n < 128) : numE n = [UInt8.ofNat n] := by rw [numE, if_pos h]
theorem numE_big {n : Nat} (h : ¬ n < 128) : numE n = UInt8.ofNat (n % 128 + 128) :: numE (n / 128) := by rw [numE, if_neg h]

/-- An integer as a number. -/
def zigN (z : Int) : Nat := if 0 ≤ z then 2 * z.toNat else 2 * (-(z + 1)).toNat + 1
def intE (z : Int) : List UInt8 := numE (zigN z)
/-- A text: its length, its bytes. -/
def textE (l : List UInt8) : List UInt8 := numE l.length ++ l
def boolE (b : Bool) : List UInt8 := [if b then 1 else 0]

/-- A number read: k bytes at most are left to read, i have been, v so far. -/
def rdN : Nat → Nat → Nat → List UInt8 → Option (Nat × List UInt8)
  | 0, _, _, _ => none
  | _ + 1, _, _, [] => none
  | k + 1, i, v, b :: l =>
    if i = 9 ∧ 1 < b.toNat then none
    else if b.toNat < 128 then (if b.toNat = 0 ∧ 0 < i then none else some (v + b.toNat * 2 ^ (7 * i), l))
    else rdN k (i + 1) (v + b.toNat % 128 * 2 ^ (7 * i)) l
def numR (l : List UInt8) : Option (Nat × List UInt8) := rdN 10 0 0 l
theorem numE_len (n : Nat) : ∀ k, n < 128 ^ (k + 1) → (numE n).length ≤ k + 1 := by
  induction n using Nat.strongRecOn with
  | _ n ih =>
    intro k hk
    by_cases h : n < 128
    · rw [numE_small h]; simp
    · rw [numE_big h]
      cases k with
      | zero => omega
      | succ k =>
        have := ih (n / 128) (by omega) k (by
          rw [Nat.div_lt_iff_lt_mul (by omega)]
          rw [Nat.pow_succ] at hk
          exact hk)
        simp only [List.length_cons]
        omega
theorem numE_len10 (n : Nat) (h : n < 18446744073709551616) : (numE n).length ≤ 10 := numE_len n 9 (by omega)
theorem flat_take {α β : Type} (f : α → List β) (l : List α) (k : Nat) (h : k < l.length) : (l.take (k + 1)).flatMap f = (l.take k).flatMap f ++ f l[k] := by
  rw [List.take_succ_eq_append_getElem h, List.flatMap_append]
  simp
theorem flat_len (l : List Nat) (h : ∀ n ∈ l, n < 18446744073709551616) : (l.flatMap numE).length ≤ 10 * l.length := by
  induction l with
  | nil => simp
  | cons a r ih =>
    have h1 := numE_len10 a (h a (List.mem_cons_self ..))
    have h2 := ih fun n hn => h n (List.mem_cons_of_mem _ hn)
    simp only [List.flatMap_cons, List.length_append, List.length_cons]
    omega
theorem rdN_nil (k i v : Nat) : rdN k i v [] = none := by cases k <;> rfl
theorem rdN_wide (k i v : Nat) (b : UInt8) (l : List UInt8) (h : i = 9 ∧ 1 < b.toNat) : rdN (k + 1) i v (b :: l) = none := by rw [rdN, if_pos h]
theorem rdN_last (k i v : Nat) (b : UInt8) (l : List UInt8) (h : ¬ (i = 9 ∧ 1 < b.toNat)) (h1 : b.toNat < 128) (h2 : ¬ (b.toNat = 0 ∧ 0 < i)) : rdN (k + 1) i v (b :: l) = some (v + b.toNat * 2 ^ (7 * i), l) := by rw [rdN, if_neg h, if_pos h1, if_neg h2]
theorem rdN_idle (k i v : Nat) (b : UInt8) (l : List UInt8) (h : ¬ (i = 9 ∧ 1 < b.toNat)) (h2 : b.toNat = 0 ∧ 0 < i) : rdN (k + 1) i v (b :: l) = none := by rw [rdN, if_neg h, if_pos (by omega), if_pos h2]
theorem rdN_more (k i v : Nat) (b : UInt8) (l : List UInt8) (h : ¬ (i = 9 ∧ 1 < b.toNat)) (h1 : ¬ b.toNat < 128) : rdN (k + 1) i v (b :: l) = rdN k (i + 1) (v + b.toNat % 128 * 2 ^ (7 * i)) l := by rw [rdN, if_neg h, if_neg h1]
theorem rdN_out (i v : Nat) (l : List UInt8) : rdN 0 i v l = none := rfl
/-- A round's sum has room. -/
theorem acc_lt {k v b : Nat} (hv : v < 2 ^ (7 * k)) : v + b % 128 * 2 ^ (7 * k) < 2 ^ (7 * (k + 1)) := by
  have h1 : b % 128 * 2 ^ (7 * k) ≤ 127 * 2 ^ (7 * k) := Nat.mul_le_mul_right _ (by omega)
  have h2 : 2 ^ (7 * (k + 1)) = 128 * 2 ^ (7 * k) := by rw [show 7 * (k + 1) = 7 + 7 * k by omega, Nat.pow_add]
  omega
theorem acc_64 {k v b : Nat} (hk : k ≤ 9) (hv : v < 2 ^ (7 * k)) (hb : b < 256) (h9 : ¬ (k = 9 ∧ 1 < b)) : v + b % 128 * 2 ^ (7 * k) < 18446744073709551616 := by
  by_cases h : k = 9
  · subst h
    have : b % 128 ≤ 1 := by omega
    have h1 : b % 128 * 2 ^ (7 * 9) ≤ 1 * 2 ^ (7 * 9) := Nat.mul_le_mul_right _ this
    have h2 : (2 : Nat) ^ (7 * 9) = 9223372036854775808 := by decide
    omega
  · have h1 := acc_lt (b := b) hv
    have h2 : 2 ^ (7 * (k + 1)) ≤ 2 ^ 63 := Nat.pow_le_pow_right (by omega) (by omega)
    have h3 : (2 : Nat) ^ 63 = 9223372036854775808 := by decide
    omega
theorem or_acc {k v b : Nat} (hv : v < 2 ^ (7 * k)) : (v ||| b % 128 * 2 ^ (7 * k)) = v + b % 128 * 2 ^ (7 * k) := by
  rw [Nat.or_comm, Nat.add_comm]
  exact Go.nat_join _ _ _ (Nat.mul_mod_left _ _) hv
/-- An integer out of its number. -/
def zagN (n : Nat) : Int := if n % 2 = 0 then ((n / 2 : Nat) : Int) else -((n / 2 : Nat) : Int) - 1
theorem zag_zig (z : Int) : zagN (zigN z) = z := by
  unfold zagN zigN
  split <;> split <;> omega
theorem zagN_range (n : Nat) (h : n < 18446744073709551616) : -9223372036854775808 ≤ zagN n ∧ zagN n ≤ 9223372036854775807 := by
  unfold zagN
  split <;> omega
def intR (l : List UInt8) : Option (Int × List UInt8) := (numR l).map fun p => (zagN p.1, p.2)
def boolR : List UInt8 → Option (Bool × List UInt8)
  | [] => none
  | b :: l => if 1 < b.toNat then none else some (b.toNat == 1, l)
def countR (l : List UInt8) : Option (Nat × List UInt8) := (numR l).bind fun p => if p.1 ≤ p.2.length then some p else none
def textR (l : List UInt8) : Option (List UInt8 × List UInt8) := (countR l).map fun p => (p.2.take p.1, p.2.drop p.1)
def smallR (l : List UInt8) : Option (Int × List UInt8) := (intR l).bind fun p => if -2147483648 ≤ p.1 ∧ p.1 ≤ 2147483647 then some p else none
end Go.Proofs.YtelglbblgkhcmaaGreat
