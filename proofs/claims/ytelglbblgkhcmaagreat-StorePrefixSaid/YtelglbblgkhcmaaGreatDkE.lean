/-
  The walks of disk.New and Cut.
-/
import Derived.Test.YtelglbblgkhcmaaGreatDkD
import Derived.Carry
namespace Go.Proofs.YtelglbblgkhcmaaGreat
open Go.RowKit Go.Deep

/-- What New leaves. -/
theorem new_left (w : World) (a b : Int) (c z : Nat) (ha : a = c) (hb : b = z) (c1 : 1 ≤ c) (c2 : c ≤ 4096) (z1 : 64 ≤ z) (z2 : z ≤ 4096) :
    DiskP ⟨w.heap.size, w.heap.size + 1, w.heap.size + 1 + 1, c, z, fun _ => none, fun _ => none, false, false, 0⟩ (((w.alloc (.cells #[.int .i64 a, .int .i64 b, .map (some (w.heap.size + 1)), .map (some (w.heap.size + 1 + 1)), .bool false, .bool false, .int .i64 0] 71)).alloc (.map #[] 0)).alloc (.map #[] 0)) ∧
    Below w.heap.size w (((w.alloc (.cells #[.int .i64 a, .int .i64 b, .map (some (w.heap.size + 1)), .map (some (w.heap.size + 1 + 1)), .bool false, .bool false, .int .i64 0] 71)).alloc (.map #[] 0)).alloc (.map #[] 0)) := by
  subst ha hb
  obtain ⟨w1, hw1⟩ : ∃ w1, w1 = w.alloc (.cells #[.int .i64 c, .int .i64 z, .map (some (w.heap.size + 1)), .map (some (w.heap.size + 1 + 1)), .bool false, .bool false, .int .i64 0] 71) := ⟨_, rfl⟩
  have hh : Holds w1 w.heap.size 71 #[.int .i64 c, .int .i64 z, .map (some (w.heap.size + 1)), .map (some (w.heap.size + 1 + 1)), .bool false, .bool false, .int .i64 0] := by rw [hw1]; exact Holds.new w _ _
  have hs1 : w1.heap.size = w.heap.size + 1 := by rw [hw1]; simp
  have b1 : Below w.heap.size w w1 := by rw [hw1]; exact below_new w _
  rw [← hw1]
  have m1 := IMap.made w1
  rw [hs1] at m1
  have b2 := below_new w1 (.map #[] 0)
  have hs2 : (w1.alloc (.map #[] 0)).heap.size = w.heap.size + 1 + 1 := by simp [hs1]
  have m2 := IMap.made (w1.alloc (.map #[] 0))
  rw [hs2] at m2
  have b3 := below_new (w1.alloc (.map #[] 0)) (.map #[] 0)
  refine ⟨⟨(hh.alloc _).alloc _, ?_, m2, fun k p hp => ?_, fun k p hp => ?_, by show w.heap.size + 1 ≠ w.heap.size + 1 + 1; omega, c1, c2, z1, z2, by show 0 ≤ _; omega⟩, (b1.trans (b2.mono b1.size)).trans (b3.mono (by rw [hs2]; omega))⟩
  · exact m1.loc (b3.block _ (by rw [hs2]; omega))
  · rcases hp with hp | hp <;> cases hp
  · rcases hp with hp | hp <;> cases hp
set_option maxRecDepth 100000 in
set_option maxHeartbeats 1000000 in
theorem new_any (w : World) (n s : Int) (c z : Nat) (hc : (c : Int) = min (max n 1) 4096) (hz : (z : Int) = min (max s 64) 4096) :
    Calls Tryz.prog 10 #[.int .i64 n, .int .i64 s] w fun e w' => e = .returned (.pointer (some ⟨w.heap.size, 0, none⟩)) ∧
      DiskP ⟨w.heap.size, w.heap.size + 1, w.heap.size + 1 + 1, c, z, fun _ => none, fun _ => none, false, false, 0⟩ w' ∧ Below w.heap.size w w' := by
  have hmm := @run_makeMap Tryz.prog
  go_enter Tryz.func10, Tryz.ntmps10
  go_wp2_with fail
  all_goals
    go_ret
    exact ⟨rfl, new_left w _ _ c z (by omega) (by omega) (by omega) (by omega) (by omega) (by omega)⟩
set_option maxRecDepth 100000 in
set_option maxHeartbeats 1000000 in
theorem cut_any (w : World) (q : DR) (hq : DiskP q w) (n : Int) (hn : -9223372036854775808 ≤ n ∧ n ≤ 9223372036854775807) :
    Calls Tryz.prog 23 #[.pointer (some ⟨q.g, 0, none⟩), .int .i64 n] w fun e w' => e = .returned (.tuple #[]) ∧ DStep q w { q with dead := q.dead, cut := true, left := n.toNat } w' := by
  have z5 := hq.hold.frozen 5
  have z6 := hq.hold.frozen 6
  have f5 := hq.f5
  have f6 := hq.f6
  go_enter Tryz.func23, Tryz.ntmps23
  go_wp2_with fail
  · have := hq.turn (w' := (w.setCell ⟨q.g, 5, none⟩ (.bool true)).setCell ⟨q.g, 6, none⟩ (.int .i64 0)) ((Writes.store w (p := ⟨q.g, 5, none⟩) (by simp) (.bool true)).trans (Writes.store _ (p := ⟨q.g, 6, none⟩) (by simp) _)) q.dead true n.toNat (by omega) (by
      rw [show n.toNat = 0 by omega]
      exact (hq.hold.store 5 (.bool true)).store 6 (.int .i64 0))
    go_end0
    exact ⟨rfl, this⟩
  · have := hq.turn (w' := (w.setCell ⟨q.g, 5, none⟩ (.bool true)).setCell ⟨q.g, 6, none⟩ (.int .i64 n)) ((Writes.store w (p := ⟨q.g, 5, none⟩) (by simp) (.bool true)).trans (Writes.store _ (p := ⟨q.g, 6, none⟩) (by simp) _)) q.dead true n.toNat (by omega) (by
      have e : ((n.toNat : Nat) : Int) = n := by omega
      have := (hq.hold.store 5 (.bool true)).store 6 (.int .i64 n)
      simp only [DR.cells] at this ⊢
      rw [e]
      exact this)
    go_end0
    exact ⟨rfl, this⟩
end Go.Proofs.YtelglbblgkhcmaaGreat
