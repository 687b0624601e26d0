/-
  The walks of package sum: nibbles, Crc, mix, Print.
-/
import Derived.Test.YtelglbblgkhcmaaGreatRows
import Derived.Test.YtelglbblgkhcmaaGreatBase
import Derived.Test.YtelglbblgkhcmaaGreatSumP
namespace Go.Proofs.YtelglbblgkhcmaaGreat
open Go.RowKit

theorem tab_start (o : Obj) (w : World) : Holds ((w.alloc o).alloc (.cells #[.int .u32 0, .int .u32 0, .int .u32 0, .int .u32 0, .int .u32 0, .int .u32 0, .int .u32 0, .int .u32 0,
    .int .u32 0, .int .u32 0, .int .u32 0, .int .u32 0, .int .u32 0, .int .u32 0, .int .u32 0, .int .u32 0] 195)) (w.heap.size + 1) 195 (tabV 0) := by
  have h := Holds.new (w.alloc o) 195 (tabV 0)
  simp only [World.size_alloc] at h
  exact h

set_option maxHeartbeats 400000 in
theorem nibbles_any (w : World) :
    Calls Tryz.prog 130 #[] w fun e w' => e = .returned (.agg (tabV 16)) ∧ Below w.heap.size w w' := by
  go_enter Tryz.func130, Tryz.ntmps130
  go_wp2
  go_loopw [4] (fun i wr => ∃ k : Nat, k ≤ 16 ∧ i = .int .i64 k ∧ Holds wr (w.heap.size + 1) 195 (tabV k) ∧ (∃ cs, cs.size = 16 ∧ Holds wr w.heap.size 195 cs) ∧ Below w.heap.size w wr)
    (fun i _ => 16 - (intOf i).toNat)
  case atStart =>
    exact ⟨0, by omega, rfl, tab_start _ w, ⟨_, rfl, (Holds.new _ _ _).alloc _⟩, ((Below.refl _ _).alloc (Nat.le_refl _) _).alloc (by simp) _⟩
  case round =>
    obtain ⟨k, hk, rfl, h1, ⟨cs, hcs, h0⟩, hb⟩ := hrel
    by_cases hlt : k < 16
    · go_wp2
      go_loop [3, 9] (fun c j => ∃ m : Nat, m ≤ 4 ∧ j = .int .i64 m ∧ c = .int .u32 (nibN m k : Nat)) (fun _ j => 4 - (intOf j).toNat)
      case atStart => exact ⟨0, by omega, rfl, rfl⟩
      case round =>
        obtain ⟨m, hm, rfl, rfl⟩ := hrel
        by_cases hml : m < 4
        · have hnl := nibN_lt m k (by omega)
          have e1 := and1_u32 _ hnl
          have e2 : bits .xor .u32 ((nibN m k : Int) / 2) 3988292384 = ((nibN m k / 2 ^^^ 3988292384 : Nat) : Int) := xor_u32 (nibN m k / 2) 3988292384 (by omega) (by omega)
          by_cases ho : nibN m k % 2 = 1
          · go_wp2
            go_round
            case rel => exact ⟨m + 1, by omega, by go_num, by rw [← nib_odd m k ho]⟩
            case measure => simp [intOf]; omega
          · go_wp2
            go_round
            case rel => exact ⟨m + 1, by omega, by go_num, by rw [← nib_even m k ho]; go_num⟩
            case measure => simp [intOf]; omega
        · obtain rfl : m = 4 := by omega
          have c1 := (h1.cell k).trans (tabV_get k hlt)
          have f1 := h1.frozen k
          go_wp2
          go_roundw
          case rel => exact ⟨k + 1, by omega, by go_num, by rw [← tabV_set k hlt]; exact h1.store k _, ⟨cs, hcs, h0.apart (by simp) _⟩, hb.setCell (by simp) _⟩
          case measure => simp [intOf]; omega
    · obtain rfl : k = 16 := by omega
      go_wp2_with (first
        | (refine wpList_load_row rfl 195 (.tmp 1) rfl (w.heap.size + 1) rfl 195 (tabV 16) (0, 0) _ h1 Tryz.underlying195 rfl (by kernel_rfl) ?_)
        | (refine wpList_store_row rfl 195 (.tmp 0) (.tmp 24) rfl w.heap.size (tabV 16) rfl rfl 195 cs h0 (by kernel_rfl) hcs (by kernel_rfl) ?_))
      exact bodyPost_ret (v := .agg (tabV 16)) (results_cell_row Tryz.results130 _ _ w.heap.size 195 (tabV 16) (0, 0) _ rfl (h0.row (tabV 16)) Tryz.underlying195 rfl (by kernel_rfl)) rfl ⟨rfl, below_row hb (Nat.le_refl _) _⟩

end Go.Proofs.YtelglbblgkhcmaaGreat
