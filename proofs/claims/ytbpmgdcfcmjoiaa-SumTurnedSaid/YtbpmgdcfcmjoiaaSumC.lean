/-
  The walks of sum.mix and sum.Print.
-/
import Derived.Test.YtbpmgdcfcmjoiaaSumA
namespace Go.Proofs.Ytbpmgdcfcmjoiaa
open Go.RowKit

set_option maxHeartbeats 400000 in
theorem mix_any (h b : Nat) (w : World) (hh : h < 18446744073709551616) (hb : b < 256) :
    Calls Try.prog 15 #[.int .u64 h, .int .u8 b] w fun e w' => e = .returned (.int .u64 (mixN h b : Nat)) ∧ w = w' := by
  have e1 := xor_u64 h b hh (by omega)
  have H1 := Lib.hid (show mixN h b = (h ^^^ b) * 1099511628211 % 18446744073709551616 from rfl)
  go_enter Try.func15, Try.ntmps15
  go_wp2
  go_ret
  exact ⟨ret_int (by rw [H1.out]; simp only [IntKind.wrap_u64]; omega), rfl⟩

theorem mix_int (h : Nat) (z : Int) (w : World) (hh : h < 18446744073709551616) (h0 : 0 ≤ z) (h1 : z < 256) :
    Calls Try.prog 15 #[.int .u64 h, .int .u8 z] w fun e w' => e = .returned (.int .u64 (mixN h z.toNat : Nat)) ∧ w = w' := by
  obtain ⟨n, rfl⟩ := Int.eq_ofNat_of_zero_le h0
  exact mix_any h n w hh (by omega)

set_option maxHeartbeats 1000000 in
theorem print_any (w : World) (A : Option Addr) (c : Nat) (ss : List ByteArray) (hn : ss.length ≤ maxLen) (hs : ∀ s ∈ ss, s.size ≤ maxLen) (hl : Strs w w.heap.size A ss) :
    Calls Try.prog 11 #[.slice A ss.length c] w fun e w' => e = .returned (.int .u64 (printOf ss : Nat)) ∧ w = w' := by
  unfold maxLen at hn
  go_enter Try.func11, Try.ntmps11
  go_wp2
  go_loop [3, 11] (fun h i => ∃ k : Nat, k ≤ ss.length ∧ i = .int .i64 k ∧ h = .int .u64 (printL 14695981039346656037 (ss.take k) : Nat)) (fun _ i => ss.length - (intOf i).toNat)
  case atStart => exact ⟨0, by omega, rfl, rfl⟩
  case round =>
    obtain ⟨k, hk, rfl, rfl⟩ := hrel
    by_cases hlt : k < ss.length
    · obtain ⟨b, off, rfl, hbB, hcell⟩ := hl.at_ hlt
      have hsz := hs _ (List.getElem_mem hlt)
      unfold maxLen at hsz
      have hpl := printL_lt 14695981039346656037 (ss.take k) (by omega)
      have hsn := Lib.hid (printL_snoc 14695981039346656037 ss k hlt)
      generalize hp : printL 14695981039346656037 (ss.take k) = p at *
      generalize hsd : ss[k] = s at *
      clear hp hsd
      have hnl : s.size % 4294967296 < 4294967296 := Nat.mod_lt _ (by omega)
      go_wp2
      go_loop [3, 7] (fun h i => ∃ m : Nat, m ≤ 4 ∧ i = .int .i64 (24 - 8 * (m : Int)) ∧ h = .int .u64 (lenN p (s.size % 4294967296) m : Nat)) (fun _ i => (intOf i + 8).toNat)
      case atStart => exact ⟨0, by omega, rfl, rfl⟩
      case round =>
        obtain ⟨m, hm, rfl, rfl⟩ := hrel
        have hll := lenN_lt p (s.size % 4294967296) m hpl
        by_cases hml : m < 4
        · rcases (show m = 0 ∨ m = 1 ∨ m = 2 ∨ m = 3 by omega) with rfl | rfl | rfl | rfl
          all_goals
            go_wp2_with fail
            refine (mix_int _ _ _ hll (by omega) (by omega)).mono ?_
            rintro e w1 ⟨rfl, rfl⟩
            go_wp2
            go_round
          case rel => exact ⟨0 + 1, by omega, by go_num, by rw [lenN_1]; simp <;> omega⟩
          case measure => simp [intOf]
          case rel => exact ⟨1 + 1, by omega, by go_num, by rw [lenN_2]; simp <;> omega⟩
          case measure => simp [intOf]
          case rel => exact ⟨2 + 1, by omega, by go_num, by rw [lenN_3]; simp <;> omega⟩
          case measure => simp [intOf]
          case rel => exact ⟨3 + 1, by omega, by go_num, by rw [lenN_4]; simp <;> omega⟩
          case measure => simp [intOf]
        · obtain rfl : m = 4 := by omega
          have H3 := Lib.hid (printS_eq p s)
          generalize lenN p (s.size % 4294967296) 4 = q at *
          go_wp2
          go_loop [3, 30] (fun h i => ∃ j : Nat, j ≤ s.size ∧ i = .int .i64 j ∧ h = .int .u64 (mixL q (s.data.toList.take j) : Nat)) (fun _ i => s.size - (intOf i).toNat)
          case atStart => exact ⟨0, by omega, rfl, by rw [mixL_zero]⟩
          case round =>
            obtain ⟨j, hj, rfl, rfl⟩ := hrel
            by_cases hjl : j < s.size
            · have hll := mixL_lt q (s.data.toList.take j) hll
              have hsn2 := Lib.hid (mixL_str q s j hjl)
              generalize mixL q (s.data.toList.take j) = r at *
              have hbb := s[j].toNat_lt
              go_wp2_with fail
              refine (mix_any _ _ _ hll hbb).mono ?_
              rintro e w1 ⟨rfl, rfl⟩
              go_wp2
              go_round
              case rel => exact ⟨j + 1, by omega, by go_num, by rw [hsn2.out]⟩
              case measure => simp [intOf]; omega
            · obtain rfl : j = s.size := by omega
              go_wp2
              go_round
              case rel => exact ⟨k + 1, by omega, by go_num, by rw [hsn.out, H3.out, List.take_of_length_le (by simp)]⟩
              case measure => simp [intOf]; omega
    · obtain rfl : k = ss.length := by omega
      go_wp2
      go_ret
      exact ⟨ret_int (by rw [printOf_eq]), rfl⟩

theorem print_len (w : World) (A : Option Addr) (n c : Nat) (ss : List ByteArray) (hl : Strs w w.heap.size A ss) (hs : ∀ s ∈ ss, s.size ≤ maxLen) (hn : ss.length = n) (hm : n ≤ maxLen) :
    Calls Try.prog 11 #[.slice A n c] w fun e w' => e = .returned (.int .u64 (printOf ss : Nat)) ∧ w = w' := by
  subst hn
  exact print_any w A c ss hm hs hl

end Go.Proofs.Ytbpmgdcfcmjoiaa
