/-
  The walk of DiskBounds.
-/
import Derived.Test.YtncddkbagmelkaaDkI
import Derived.Test.YtncddkbagmelkaaArg
namespace Go.Proofs.Ytncddkbagmelkaa
open Go.RowKit Go.Deep

theorem new_ex (w : World) (n s : Int) :
    Calls Try.prog 12 #[.int .i64 n, .int .i64 s] w fun e w' => e = .returned (.pointer (some ⟨w.heap.size, 0, none⟩)) ∧ ∃ q : DR, q.g = w.heap.size ∧ (q.n : Int) = min (max n 1) 4096 ∧ (q.size : Int) = min (max s 64) 4096 ∧ DiskP q w' ∧ Below w.heap.size w w' :=
  (new_any w n s (min (max n 1) 4096).toNat (min (max s 64) 4096).toNat (by omega) (by omega)).mono fun _ _ ⟨he, hD, hb⟩ => ⟨he, _, rfl, by show (((min (max n 1) 4096).toNat : Nat) : Int) = _; omega, by show (((min (max s 64) 4096).toNat : Nat) : Int) = _; omega, hD, hb⟩
set_option maxRecDepth 100000 in
set_option maxHeartbeats 2000000 in
theorem bounds_any (w : World) (n s : Int) :
    Calls Try.prog 7 #[.int .i64 n, .int .i64 s] w fun e w' => e = .returned (.bool true) ∧ Below w.heap.size w w' := by
  go_enter Try.func7, Try.ntmps7
  go_wp2_with fail
  refine (known3_any w).mono ?_
  rintro e w1 ⟨rfl, hb1⟩
  have hb1' := Lib.hid hb1
  clear hb1
  by_cases h1 : 20 < n <;> by_cases h2 : 100 < s <;>
  · go_wp2_with fail
    all_goals
      refine (new_ex w1 _ _).mono ?_
      rintro e w2 ⟨rfl, q, hg, hn, hs, hD, hb2⟩
      have hse := sectors_any w2 q hD
      have hsi := size_any w2 q hD
      rw [hg, hn] at hse
      rw [hg, hs] at hsi
      have hb3 := Lib.hid (hb1'.out.trans (hb2.mono hb1'.out.size))
      clear hg hn hs hD hb2
      go_wp2_with fail
      refine hse.mono ?_
      clear hse
      rintro e w3 ⟨rfl, rfl⟩
      go_wp2_with fail
      refine hsi.mono ?_
      clear hsi
      rintro e w4 ⟨rfl, rfl⟩
      go_wp2_with fail
      go_ret
      exact ⟨rfl, hb3.out⟩
theorem bounds_walk (w : World) (v1 v2 : Value) (h1 : ArgOk 3 w v1) (h2 : ArgOk 3 w v2) : Calls Try.prog 7 #[v1, v2] w fun e w' => e = .returned (.bool true) ∧ Below w.heap.size w w' := by
  obtain ⟨n, rfl, _⟩ := h1.int
  obtain ⟨s, rfl, _⟩ := h2.int
  exact bounds_any w n s
end Go.Proofs.Ytncddkbagmelkaa
