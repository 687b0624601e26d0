/-
  The statements' helps that hold requests, replies, alarms against one another: equal ones are told so.
-/
import Derived.Test.YtimhghmnnibajaaRqN
import Derived.Deep.QuietTactic
import Derived.BigQuiet
namespace Go.Proofs.Ytimhghmnnibajaa
open Go.RowKit

set_option maxRecDepth 100000 in
set_option maxHeartbeats 1000000 in
theorem alarmsEq_any (w : World) (A1 A2 : Option Addr) (n c1 c2 : Nat) (al : List Al) (hn : al.length = n) (hm : n ≤ maxLen) (h1 : Row w w.heap.size A1 (al.flatMap Al.cells)) (h2 : Row w w.heap.size A2 (al.flatMap Al.cells)) :
    Calls Try.prog 69 #[.slice A1 n c1, .slice A2 n c2] w fun e w' => e = .returned (.bool true) ∧ Below w.heap.size w w' := by
  unfold maxLen at hm
  have h1 := Lib.hid h1
  have h2 := Lib.hid h2
  have hn := Lib.hid hn
  rename_i x1 x2 x3
  clear x1 x2 x3
  go_enter Try.func69, Try.ntmps69
  go_wp2_with fail
  go_loopw [5] (fun i wr => ∃ k : Nat, k ≤ n ∧ i = .int .i64 k ∧ Below w.heap.size w wr) (fun i _ => n - (intOf i).toNat)
  case atStart => exact ⟨0, Nat.zero_le _, rfl, Below.refl _ _⟩
  case round =>
    obtain ⟨k, hk, rfl, hb⟩ := hrel
    by_cases hlt : k < n
    · obtain ⟨g1, o1, e1, hg1, hne1, q1⟩ := Row.elem (C := 2) (h1.out.below hb) (fun _ _ => rfl) (by omega) (k := k) (by rw [hn.out]; exact hlt)
      obtain ⟨g2, o2, e2, hg2, hne2, q2⟩ := Row.elem (C := 2) (h2.out.below hb) (fun _ _ => rfl) (by omega) (k := k) (by rw [hn.out]; exact hlt)
      subst e1 e2
      have a0 := q1 0 _ rfl
      have a1 := q1 1 _ rfl
      have b0 := q2 0 _ rfl
      have b1 := q2 1 _ rfl
      simp only [Nat.add_zero] at a0 b0
      have hb := Lib.hid hb
      rename_i x4
      clear x4 hne1 hne2 q1 q2
      generalize (al[k]'(by rw [hn.out]; exact hlt)).pos = z at a0 b0
      generalize (al[k]'(by rw [hn.out]; exact hlt)).kind = y at a1 b1
      go_wp2_with fail
      go_region
      all_goals
        go_wp2_with fail
        go_roundw
        case rel => exact ⟨k + 1, by omega, by go_num, hb.out.drew⟩
        case measure => simp [intOf]; omega
    · go_wp2_with fail
      go_ret
      exact ⟨rfl, hb⟩

set_option maxRecDepth 100000 in
set_option maxHeartbeats 1000000 in
theorem same_any (w : World) (k : Int) (a b : ByteArray) (n : Int) :
    Calls Try.prog 48 #[.agg #[.int .i64 k, .string a, .string b, .int .i64 n], .agg #[.int .i64 k, .string a, .string b, .int .i64 n]] w fun e w' => e = .returned (.bool true) ∧ Below w.heap.size w w' := by
  have hb := Lib.hid ((below_new w (.cells #[.int .i64 k, .string a, .string b, .int .i64 n] 78)).trans ((below_new (w.alloc (.cells #[.int .i64 k, .string a, .string b, .int .i64 n] 78)) (.cells #[.int .i64 k, .string a, .string b, .int .i64 n] 78)).mono (below_new w _).size))
  go_enter Try.func48, Try.ntmps48
  go_wp2_with fail
  go_ret
  exact ⟨rfl, hb.out⟩

end Go.Proofs.Ytimhghmnnibajaa
