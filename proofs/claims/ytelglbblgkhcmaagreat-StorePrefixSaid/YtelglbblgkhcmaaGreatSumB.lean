/-
  The walk of sum.Crc.
-/
import Derived.Test.YtelglbblgkhcmaaGreatSumA
namespace Go.Proofs.YtelglbblgkhcmaaGreat
open Go.RowKit

set_option maxHeartbeats 1000000 in
theorem crc_any (w : World) (A : Option Addr) (c : Nat) (ls : List (List UInt8)) (hn : ls.length ≤ maxLen) (hl : Slices w w.heap.size A ls) :
    Calls Tryz.prog 104 #[.slice A ls.length c] w fun e w' => e = .returned (.int .u32 (crcOf ls : Nat)) ∧ Below w.heap.size w w' := by
  unfold maxLen at hn
  go_enter Tryz.func104, Tryz.ntmps104
  go_wp2_with fail
  refine (nibbles_any _).mono ?_
  rintro e w1 ⟨rfl, hb1⟩
  go_wp2_with (refine wpList_store_row rfl 195 (.tmp 3) (.tmp 9) rfl w1.heap.size (tabV 16) rfl rfl 195 _ (heap_alloc_new _ _) (by kernel_rfl) rfl (by kernel_rfl) ?_)
  generalize hW : World.setRow _ _ _ = W
  have hT : Holds W w1.heap.size 195 (tabV 16) := by rw [← hW]; exact (Holds.new _ _ _).row _
  have hB : Below w.heap.size w W := by rw [← hW]; exact below_row (hb1.alloc hb1.size _) hb1.size _
  have hL := hl.below hB
  clear hW hl hb1
  go_loop [4, 12] (fun c i => ∃ k : Nat, k ≤ ls.length ∧ i = .int .i64 k ∧ c = .int .u32 (crcL 4294967295 (ls.take k).flatten : Nat)) (fun _ i => ls.length - (intOf i).toNat)
  case atStart => exact ⟨0, by omega, rfl, rfl⟩
  case round =>
    obtain ⟨k, hk, rfl, rfl⟩ := hrel
    by_cases hlt : k < ls.length
    · obtain ⟨b, off, Ai, ci, rfl, hbB, hcell, hby, hm⟩ := hL.at_ hlt
      unfold maxLen at hm
      go_wp2
      go_loop [4, 18] (fun c i => ∃ j : Nat, j ≤ ls[k].length ∧ i = .int .i64 j ∧ c = .int .u32 (crcL (crcL 4294967295 (ls.take k).flatten) (ls[k].take j) : Nat)) (fun _ i => ls[k].length - (intOf i).toNat)
      case atStart => exact ⟨0, by omega, rfl, rfl⟩
      case round =>
        obtain ⟨j, hj, rfl, rfl⟩ := hrel
        by_cases hjl : j < ls[k].length
        · obtain ⟨b', off', rfl, hbB', hcell'⟩ := hby.at_ hjl
          have hbl := ls[k][j].toNat_lt
          have hcl := crcL_lt (crcL 4294967295 (ls.take k).flatten) (ls[k].take j) (crcL_lt _ _ (by omega))
          have hsn := Lib.hid (crcL_snoc (crcL 4294967295 (ls.take k).flatten) ls[k] j hjl)
          generalize hcd : crcL (crcL 4294967295 (ls.take k).flatten) (ls[k].take j) = cd at *
          generalize hbd : ls[k][j] = bd at *
          have H1 := Lib.hid (crc_two cd bd)
          have e1 := xor_u32 cd bd.toNat hcl (by omega)
          have hxl : cd ^^^ bd.toNat < 4294967296 := Nat.xor_lt_two_pow (n := 32) hcl (by omega)
          generalize hxd : cd ^^^ bd.toNat = xd at *
          have e2 := and15_u32 xd hxl
          have t1 := (hT.cell (xd % 16)).trans (tabV_all _ (by omega))
          have hnl := nibN_lt 4 (xd % 16) (by omega)
          generalize hnd : nibN 4 (xd % 16) = nd at *
          have e3 : bits .xor .u32 (nd : Int) ((xd : Int) / 16) = ((nd ^^^ xd / 16 : Nat) : Int) := xor_u32 nd (xd / 16) hnl (by omega)
          have hyl : nd ^^^ xd / 16 < 4294967296 := Nat.xor_lt_two_pow (n := 32) hnl (by omega)
          generalize hyd : nd ^^^ xd / 16 = yd at *
          have e4 := and15_u32 yd hyl
          have t2 := (hT.cell (yd % 16)).trans (tabV_all _ (by omega))
          have hml := nibN_lt 4 (yd % 16) (by omega)
          generalize hmd : nibN 4 (yd % 16) = md at *
          have e5 : bits .xor .u32 (md : Int) ((yd : Int) / 16) = ((md ^^^ yd / 16 : Nat) : Int) := xor_u32 md (yd / 16) hml (by omega)
          clear hcd hbd hxd hnd hyd hmd
          go_wp2
          go_round
          case rel => exact ⟨j + 1, by omega, by go_num, by rw [hsn.out, ← H1.out]⟩
          case measure => simp [intOf]; omega
        · obtain rfl : j = ls[k].length := by omega
          go_wp2
          go_round
          case rel => exact ⟨k + 1, by omega, by go_num, by rw [flat_snoc ls k hlt, crcL_append, List.take_length]⟩
          case measure => simp [intOf]; omega
    · obtain rfl : k = ls.length := by omega
      have hcl := crcL_lt 4294967295 (ls.take ls.length).flatten (by omega)
      rw [List.take_length] at *
      have H2 := Lib.hid (show crcOf ls = 4294967295 - crcL 4294967295 ls.flatten from rfl)
      have e1 := not_u32 _ hcl
      go_wp2
      go_ret
      exact ⟨ret_int (by rw [H2.out]), hB⟩

theorem crc_len (w : World) (A : Option Addr) (n c : Nat) (ls : List (List UInt8)) (hl : Slices w w.heap.size A ls) (hn : ls.length = n) (hm : n ≤ maxLen) :
    Calls Tryz.prog 104 #[.slice A n c] w fun e w' => e = .returned (.int .u32 (crcOf ls : Nat)) ∧ Below w.heap.size w w' := by
  subst hn
  exact crc_any w A c ls hm hl

end Go.Proofs.YtelglbblgkhcmaaGreat
