/-
  Plain laws of package code: a text that is cut off is not read. No program in sight.
-/
import Derived.Test.YtimhghmnnibajaaCodeC
import Derived.Test.YtimhghmnnibajaaCodeQ
namespace Go.Proofs.Ytimhghmnnibajaa

theorem rdN_cut (n : Nat) : ∀ k i v j, j < (numE n).length → rdN k i v ((numE n).take j) = none := by
  induction n using Nat.strongRecOn with
  | _ n ih =>
    intro k i v j hj
    cases k with
    | zero => exact rdN_out _ _ _
    | succ k =>
      cases j with
      | zero => exact rdN_nil _ _ _
      | succ j =>
        by_cases h : n < 128
        · rw [numE_small h] at hj
          simp at hj
        · rw [numE_big h] at hj ⊢
          rw [List.take_succ_cons]
          have hb : (UInt8.ofNat (n % 128 + 128)).toNat = n % 128 + 128 := by simp; omega
          by_cases h9 : i = 9 ∧ 1 < (UInt8.ofNat (n % 128 + 128)).toNat
          · exact rdN_wide _ _ _ _ _ h9
          · rw [rdN_more _ _ _ _ _ h9 (by rw [hb]; omega)]
            exact ih (n / 128) (by omega) _ _ _ _ (by simpa using hj)
theorem numE_pos (n : Nat) : 0 < (numE n).length := by
  by_cases h : n < 128
  · rw [numE_small h]; simp
  · rw [numE_big h]; simp
theorem textR_cut (s : List UInt8) (hs : s.length < 18446744073709551616) (j : Nat) (hj : j < (textE s).length) : textR ((textE s).take j) = none := by
  unfold textE at hj ⊢
  unfold textR countR
  by_cases h : j < (numE s.length).length
  · rw [List.take_append_of_le_length (by omega)]
    have : numR ((numE s.length).take j) = none := rdN_cut _ _ _ _ _ h
    rw [this]
    rfl
  · rw [List.take_append, List.take_of_length_le (by omega), numR_back _ _ hs]
    simp only [Option.bind_some]
    rw [if_neg (by simp only [List.length_take]; simp only [List.length_append] at hj; omega)]
    rfl

/-- Where the i-th text ends. -/
def endOf (ss : List ByteArray) (i : Nat) : Nat := ((ss.take i).flatMap txtE).length
theorem endOf_zero (ss : List ByteArray) : endOf ss 0 = 0 := rfl
theorem endOf_succ (ss : List ByteArray) (i : Nat) (h : i < ss.length) : endOf ss (i + 1) = endOf ss i + (txtE ss[i]).length := by
  unfold endOf
  rw [flat_take txtE ss i h, List.length_append]
theorem endOf_all (ss : List ByteArray) : endOf ss ss.length = (ss.flatMap txtE).length := by
  unfold endOf
  rw [List.take_length]
theorem flat_split {α : Type} (f : α → List UInt8) (l : List α) (i : Nat) (h : i < l.length) : l.flatMap f = (l.take i).flatMap f ++ (f l[i] ++ (l.drop (i + 1)).flatMap f) := by
  conv => lhs; rw [← List.take_append_drop i l, List.flatMap_append, List.drop_eq_getElem_cons h, List.flatMap_cons]
/-- What the reader has before it reads the i-th text, of k bytes. -/
def cutAt (ss : List ByteArray) (k i : Nat) : Option (List UInt8) := if endOf ss i ≤ k then some (((ss.flatMap txtE).take k).drop (endOf ss i)) else none
theorem cutAt_zero (ss : List ByteArray) (k : Nat) : cutAt ss k 0 = some ((ss.flatMap txtE).take k) := by simp [cutAt, endOf_zero]
theorem txtE_text (s : ByteArray) : txtE s = textE s.data.toList := by
  unfold txtE textE
  rw [Array.length_toList]
  rfl
theorem strV_back (s : ByteArray) : strV s.data.toList = s := by
  unfold strV
  rw [Array.toArray_toList]
/-- A text that is there whole is read. -/
theorem cutAt_in (ss : List ByteArray) (k i : Nat) (hi : i < ss.length) (hk : endOf ss (i + 1) ≤ k) : ∃ l, cutAt ss k i = some (textE ss[i].data.toList ++ l) ∧ cutAt ss k (i + 1) = some l := by
  have e1 := endOf_succ ss i hi
  have hL := flat_split txtE ss i hi
  have hlen : ((ss.take i).flatMap txtE).length = endOf ss i := rfl
  unfold cutAt
  rw [if_pos (by omega), if_pos hk, hL, List.take_append, List.drop_append, List.drop_eq_nil_of_le (by rw [List.length_take]; omega), List.nil_append, List.length_take, hlen, List.take_append, Nat.min_eq_right (by omega), Nat.sub_self, List.drop_zero, List.take_of_length_le (i := k - endOf ss i) (by omega)]
  refine ⟨_, by rw [← txtE_text], ?_⟩
  rw [List.drop_append, List.drop_eq_nil_of_le (by rw [List.length_take]; omega), List.nil_append, List.drop_append, List.length_take, hlen, Nat.min_eq_right (by omega), List.drop_eq_nil_of_le (by omega), List.nil_append, e1]
  rw [show endOf ss i + (txtE ss[i]).length - endOf ss i - (txtE ss[i]).length = 0 by omega, List.drop_zero]
/-- One that is cut off isn't. -/
theorem cutAt_cut (ss : List ByteArray) (k i : Nat) (hi : i < ss.length) (hk : k < endOf ss (i + 1)) (hs : ss[i].size < 18446744073709551616) : cutAt ss k (i + 1) = none ∧ (cutAt ss k i = none ∨ ∃ l, cutAt ss k i = some l ∧ textR l = none) := by
  have e1 := endOf_succ ss i hi
  have hL := flat_split txtE ss i hi
  have hlen : ((ss.take i).flatMap txtE).length = endOf ss i := rfl
  refine ⟨by unfold cutAt; rw [if_neg (by omega)], ?_⟩
  unfold cutAt
  by_cases h : endOf ss i ≤ k
  · right
    rw [if_pos h]
    refine ⟨_, rfl, ?_⟩
    rw [hL, List.take_append, List.drop_append, List.drop_eq_nil_of_le (by rw [List.length_take]; omega), List.nil_append, List.length_take, hlen, List.take_append_of_le_length (by omega), Nat.min_eq_right (by omega), Nat.sub_self, List.drop_zero, txtE_text]
    exact textR_cut _ (by rw [Array.length_toList]; exact hs) _ (by rw [← txtE_text]; omega)
  · left
    rw [if_neg h]
theorem flat_pos (ss : List ByteArray) (h : 0 < ss.length) : 0 < (ss.flatMap txtE).length := by
  cases ss with
  | nil => simp at h
  | cons s r =>
    rw [List.flatMap_cons, List.length_append]
    have := numE_pos s.size
    unfold txtE
    rw [List.length_append]
    omega
end Go.Proofs.Ytimhghmnnibajaa
