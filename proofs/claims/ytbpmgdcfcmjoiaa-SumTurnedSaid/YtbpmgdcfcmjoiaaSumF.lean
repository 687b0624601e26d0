/-
  The walks of the statements' helper texts, and of the reference of Print.
-/
import Derived.Test.YtbpmgdcfcmjoiaaSumA
namespace Go.Proofs.Ytbpmgdcfcmjoiaa
open Go.RowKit

theorem Try.infoStr : (Try.prog.info? 9).map (fun i => (i.zero, i.size, i.bytes)) = some (some (.string ⟨#[]⟩), 1, 16) := by kernel_rfl

def textsL (ls : List (List UInt8)) (k : Nat) : List Value := ((ls.take k).map strV).map Value.string
theorem textsL_snoc (ls : List (List UInt8)) (k : Nat) (h : k < ls.length) : textsL ls (k + 1) = textsL ls k ++ [.string (strV ls[k])] := by
  unfold textsL
  rw [List.take_succ_eq_append_getElem h, List.map_append, List.map_append, List.map_cons, List.map_nil, List.map_cons, List.map_nil]
theorem textsL_all (ls : List (List UInt8)) : textsL ls ls.length = (ls.map strV).map Value.string := by
  unfold textsL
  rw [List.take_length]

set_option maxHeartbeats 400000 in
theorem texts_any (w : World) (A : Option Addr) (c : Nat) (ls : List (List UInt8)) (hn : ls.length ≤ 1000000) (hl : Slices w w.heap.size A ls) :
    Calls Try.prog 12 #[.slice A ls.length c] w fun e w' => (∃ A' c', e = .returned (.slice A' ls.length c') ∧ Strs w' w'.heap.size A' (ls.map strV)) ∧ Below w.heap.size w w' := by
  obtain ⟨i0, hi, hz0, hz1, hz2⟩ := info_parts Try.infoStr
  go_enter Try.func12, Try.ntmps12
  go_wp2
  go_loopw [3, 4] (fun v i wr => ∃ k : Nat, k ≤ ls.length ∧ i = .int .i64 k ∧ wr.ownsRow w.heap.size 9 1 v k (textsL ls k) ∧ Below w.heap.size w wr) (fun _ i _ => ls.length - (intOf i).toNat)
  case atStart => exact ⟨0, by omega, rfl, World.ownsRow_nil _ _ _ _, Below.refl _ _⟩
  case round =>
    obtain ⟨k, hk, rfl, hown, hb⟩ := hrel
    by_cases hlt : k < ls.length
    · obtain ⟨b, off, Ai, ci, rfl, hbB, hcell, hby, hm⟩ := (hl.below hb).at_ hlt
      have kv := run_text (P := Try.prog) wr 33 5 Try.underlying33 Try.underlying5 Ai ls[k].length ci ls[k] rfl hby 9 Try.underlying9
      have htk := Lib.hid (textsL_snoc ls k hlt)
      go_wp2_with (at_builtin; refine wpList_append_own _ rfl _ _ 30 rfl w.heap.size 9 i0 (.string ⟨#[]⟩) 1 16 Try.underlying30 hi hz0 hz1 hz2 rfl (by decide) _ _ _ rfl (hown.alloc _) ⟨wr.heap.size, 0, none⟩ 1 1 [.string (strV ls[k])] rfl rfl ?c1 ?c2 ?c3 ?c4 ?c5 ?_)
      case c1 => exact cell_one_new _ _ _
      case c2 => intro u hu; simp at hu; subst hu; rfl
      case c3 => unfold maxLen; omega
      case c4 => omega
      case c5 => have := hb.size; simp; omega
      intro v' w1 hown' hgrow _
      have hb1 : Below w.heap.size w w1 := (hb.alloc hb.size _).grown hgrow (by have := hb.size; simp; omega) (fun g hg => (hown.lt g hg).1)
      rw [← htk.out] at hown'
      clear kv hcell
      go_wp2
      go_roundw
      case rel => exact ⟨k + 1, by omega, by go_num, hown', hb1⟩
      case measure => simp [intOf]; omega
    · obtain rfl : k = ls.length := by omega
      rw [textsL_all] at hown
      obtain ⟨A', c', rfl, hr, _, _⟩ := own_row hown
      go_wp2
      go_ret
      exact ⟨⟨A', c', rfl, hr⟩, hb⟩

set_option maxHeartbeats 1000000 in
theorem refprint_any (w : World) (A : Option Addr) (c : Nat) (ss : List ByteArray) (hn : ss.length ≤ maxLen) (hs : ∀ s ∈ ss, s.size ≤ maxLen) (hl : Strs w w.heap.size A ss) :
    Calls Try.prog 13 #[.slice A ss.length c] w fun e w' => e = .returned (.int .u64 (printOf ss : Nat)) ∧ w = w' := by
  unfold maxLen at hn
  go_enter Try.func13, Try.ntmps13
  go_wp2
  go_loop [3, 4] (fun h i => ∃ k : Nat, k ≤ ss.length ∧ i = .int .i64 k ∧ h = .int .u64 (printL 14695981039346656037 (ss.take k) : Nat)) (fun _ i => ss.length - (intOf i).toNat)
  case atStart => exact ⟨0, by omega, rfl, rfl⟩
  case round =>
    obtain ⟨k, hk, rfl, rfl⟩ := hrel
    by_cases hlt : k < ss.length
    · obtain ⟨b, off, rfl, hbB, hcell⟩ := hl.at_ hlt
      have hsz := hs _ (List.getElem_mem hlt)
      unfold maxLen at hsz
      have hpl := printL_lt 14695981039346656037 (ss.take k) (by omega)
      have hsn := Lib.hid (printL_snoc 14695981039346656037 ss k hlt)
      generalize hp : printL 14695981039346656037 (ss.take k) = p at *
      generalize hsd : ss[k] = s at *
      clear hp hsd
      have hnl : s.size % 4294967296 < 4294967296 := Nat.mod_lt _ (by omega)
      go_wp2
      go_loop [3, 6] (fun h i => ∃ m : Nat, m ≤ 4 ∧ i = .int .i64 m ∧ h = .int .u64 (lenN p (s.size % 4294967296) m : Nat)) (fun _ i => 4 - (intOf i).toNat)
      case atStart => exact ⟨0, by omega, rfl, rfl⟩
      case round =>
        obtain ⟨m, hm, rfl, rfl⟩ := hrel
        have hll := lenN_lt p (s.size % 4294967296) m hpl
        by_cases hml : m < 4
        · rcases (show m = 0 ∨ m = 1 ∨ m = 2 ∨ m = 3 by omega) with rfl | rfl | rfl | rfl
          all_goals
            go_wp2
            go_round
          case rel => exact ⟨0 + 1, by omega, by go_num, by rw [lenN_1, mixN_int _ _ hll (by omega) (by omega)]; simp <;> omega⟩
          case measure => simp [intOf]
          case rel => exact ⟨1 + 1, by omega, by go_num, by rw [lenN_2, mixN_int _ _ hll (by omega) (by omega)]; simp <;> omega⟩
          case measure => simp [intOf]
          case rel => exact ⟨2 + 1, by omega, by go_num, by rw [lenN_3, mixN_int _ _ hll (by omega) (by omega)]; simp <;> omega⟩
          case measure => simp [intOf]
          case rel => exact ⟨3 + 1, by omega, by go_num, by rw [lenN_4, mixN_int _ _ hll (by omega) (by omega)]; simp <;> omega⟩
          case measure => simp [intOf]
        · obtain rfl : m = 4 := by omega
          have H3 := Lib.hid (printS_eq p s)
          generalize lenN p (s.size % 4294967296) 4 = q at *
          go_wp2
          go_loop [3, 7] (fun h i => ∃ j : Nat, j ≤ s.size ∧ i = .int .i64 j ∧ h = .int .u64 (mixL q (s.data.toList.take j) : Nat)) (fun _ i => s.size - (intOf i).toNat)
          case atStart => exact ⟨0, by omega, rfl, by rw [mixL_zero]⟩
          case round =>
            obtain ⟨j, hj, rfl, rfl⟩ := hrel
            by_cases hjl : j < s.size
            · have hll := mixL_lt q (s.data.toList.take j) hll
              have hsn2 := Lib.hid (mixL_str q s j hjl)
              generalize mixL q (s.data.toList.take j) = r at *
              have hbb := s[j].toNat_lt
              have e1 := xor_u64 r s[j].toNat hll (by omega)
              have H1 := Lib.hid (mixN_eq r s[j].toNat)
              go_wp2
              go_round
              case rel => exact ⟨j + 1, by omega, by go_num, by rw [hsn2.out, H1.out]⟩
              case measure => simp [intOf]; omega
            · obtain rfl : j = s.size := by omega
              go_wp2
              go_round
              case rel => exact ⟨k + 1, by omega, by go_num, by rw [hsn.out, H3.out, List.take_of_length_le (by simp)]⟩
              case measure => simp [intOf]; omega
    · obtain rfl : k = ss.length := by omega
      go_wp2
      go_ret
      exact ⟨ret_int (by rw [printOf_eq]), rfl⟩

end Go.Proofs.Ytbpmgdcfcmjoiaa
