/-
  The walks of the statements' helpers: light, texts; and of the references of Crc and Print.
-/
import Derived.Test.YtbpmgdcfcmjoiaaSumA
namespace Go.Proofs.Ytbpmgdcfcmjoiaa
open Go.RowKit

def lightB (ls : List (List UInt8)) : Bool := decide (ls.length ≤ 20) && ls.all (fun l => decide (l.length ≤ 300))
theorem lightB_len {ls : List (List UInt8)} (h : lightB ls = true) : ls.length ≤ 20 := by simp [lightB] at h; exact h.1
theorem lightB_at {ls : List (List UInt8)} (h : lightB ls = true) (k : Nat) (hk : k < ls.length) : ls[k].length ≤ 300 := by simp [lightB] at h; exact h.2 _ (List.getElem_mem hk)
theorem lightB_no {ls : List (List UInt8)} (k : Nat) (hk : k < ls.length) (h : ¬ ls[k].length ≤ 300) : lightB ls = false := by
  rcases hb : lightB ls with _ | _
  · rfl
  · exact absurd (lightB_at hb k hk) h
theorem lightB_yes {ls : List (List UInt8)} (h : ls.length ≤ 20) (h2 : ∀ i (hi : i < ls.length), ls[i].length ≤ 300) : lightB ls = true := by
  simp only [lightB, Bool.and_eq_true, decide_eq_true_eq, List.all_eq_true]
  refine ⟨h, fun x hx => ?_⟩
  obtain ⟨i, hi, rfl⟩ := List.getElem_of_mem hx
  exact h2 i hi

set_option maxHeartbeats 400000 in
theorem light_any (w : World) (A : Option Addr) (c : Nat) (ls : List (List UInt8)) (hn : ls.length ≤ maxLen) (hl : Slices w w.heap.size A ls) :
    Calls Try.prog 8 #[.slice A ls.length c] w fun e w' => e = .returned (.bool (lightB ls)) ∧ w = w' := by
  unfold maxLen at hn
  by_cases h20 : ls.length ≤ 20
  · go_enter Try.func8, Try.ntmps8
    go_wp2
    go_loop [3] (fun i => ∃ k : Nat, k ≤ ls.length ∧ i = .int .i64 k ∧ ∀ j (hj : j < ls.length), j < k → ls[j].length ≤ 300) (fun i => ls.length - (intOf i).toNat)
    case atStart => exact ⟨0, by omega, rfl, fun j _ h => absurd h (by omega)⟩
    case round =>
      obtain ⟨k, hk, rfl, hall⟩ := hrel
      have hall := Lib.hid hall
      by_cases hlt : k < ls.length
      · obtain ⟨b, off, Ai, ci, rfl, hbB, hcell, hby, hm⟩ := hl.at_ hlt
        unfold maxLen at hm
        by_cases h3 : ls[k].length ≤ 300
        · go_wp2
          go_round
          case rel => exact ⟨k + 1, by omega, by go_num, fun j hj hjk => by
            by_cases e : j = k
            · subst e; exact h3
            · exact hall.out j hj (by omega)⟩
          case measure => simp [intOf]; omega
        · have hno := Lib.hid (lightB_no k hlt h3)
          go_wp2
          go_ret
          exact ⟨ret_bool (by rw [hno.out]), rfl⟩
      · have hyes := Lib.hid (lightB_yes h20 fun i hi => hall.out i hi (by omega))
        go_wp2
        go_ret
        exact ⟨ret_bool (by rw [hyes.out]), rfl⟩
  · have hno := Lib.hid (show lightB ls = false by simp [lightB, h20])
    go_enter Try.func8, Try.ntmps8
    go_wp2
    go_ret
    exact ⟨ret_bool (by rw [hno.out]), rfl⟩

set_option maxHeartbeats 1000000 in
theorem refcrc_any (w : World) (A : Option Addr) (c : Nat) (ls : List (List UInt8)) (hn : ls.length ≤ maxLen) (hl : Slices w w.heap.size A ls) :
    Calls Try.prog 10 #[.slice A ls.length c] w fun e w' => e = .returned (.int .u32 (crcOf ls : Nat)) ∧ w = w' := by
  unfold maxLen at hn
  go_enter Try.func10, Try.ntmps10
  go_wp2
  go_loop [3, 4] (fun c i => ∃ k : Nat, k ≤ ls.length ∧ i = .int .i64 k ∧ c = .int .u32 (crcL 4294967295 (ls.take k).flatten : Nat)) (fun _ i => ls.length - (intOf i).toNat)
  case atStart => exact ⟨0, by omega, rfl, rfl⟩
  case round =>
    obtain ⟨k, hk, rfl, rfl⟩ := hrel
    by_cases hlt : k < ls.length
    · obtain ⟨b, off, Ai, ci, rfl, hbB, hcell, hby, hm⟩ := hl.at_ hlt
      unfold maxLen at hm
      have hc0 := crcL_lt 4294967295 (ls.take k).flatten (by omega)
      have hfl := Lib.hid (show crcL 4294967295 (ls.take (k + 1)).flatten = crcL (crcL 4294967295 (ls.take k).flatten) ls[k] by rw [flat_snoc ls k hlt, crcL_append])
      generalize crcL 4294967295 (ls.take k).flatten = c0 at *
      go_wp2
      go_loop [3, 5] (fun c i => ∃ j : Nat, j ≤ ls[k].length ∧ i = .int .i64 j ∧ c = .int .u32 (crcL c0 (ls[k].take j) : Nat)) (fun _ i => ls[k].length - (intOf i).toNat)
      case atStart => exact ⟨0, by omega, rfl, rfl⟩
      case round =>
        obtain ⟨j, hj, rfl, rfl⟩ := hrel
        by_cases hjl : j < ls[k].length
        · obtain ⟨b', off', rfl, hbB', hcell'⟩ := hby.at_ hjl
          have hbl := ls[k][j].toNat_lt
          have hcl := crcL_lt c0 (ls[k].take j) hc0
          have hsn := Lib.hid (crcL_snoc c0 ls[k] j hjl)
          generalize hcd : crcL c0 (ls[k].take j) = cd at *
          generalize hbd : ls[k][j] = bd at *
          have H1 := Lib.hid (show crcS cd bd = nibN 8 (cd ^^^ bd.toNat) from rfl)
          have e1 := xor_u32 cd bd.toNat hcl (by omega)
          have hxl : cd ^^^ bd.toNat < 4294967296 := Nat.xor_lt_two_pow (n := 32) hcl (by omega)
          generalize hxd : cd ^^^ bd.toNat = xd at *
          clear hcd hbd hxd
          go_wp2
          go_loop [3, 6] (fun c j => ∃ m : Nat, m ≤ 8 ∧ j = .int .i64 m ∧ c = .int .u32 (nibN m xd : Nat)) (fun _ j => 8 - (intOf j).toNat)
          case atStart => exact ⟨0, by omega, rfl, rfl⟩
          case round =>
            obtain ⟨m, hm, rfl, rfl⟩ := hrel
            by_cases hml : m < 8
            · have hnl := nibN_lt m xd hxl
              have e1 := and1_u32 _ hnl
              have e2 : bits .xor .u32 ((nibN m xd : Int) / 2) 3988292384 = ((nibN m xd / 2 ^^^ 3988292384 : Nat) : Int) := xor_u32 (nibN m xd / 2) 3988292384 (by omega) (by omega)
              by_cases ho : nibN m xd % 2 = 1
              · go_wp2
                go_round
                case rel => exact ⟨m + 1, by omega, by go_num, by rw [← nib_odd m xd ho]⟩
                case measure => simp [intOf]; omega
              · go_wp2
                go_round
                case rel => exact ⟨m + 1, by omega, by go_num, by rw [← nib_even m xd ho]; go_num⟩
                case measure => simp [intOf]; omega
            · obtain rfl : m = 8 := by omega
              go_wp2
              go_round
              case rel => exact ⟨j + 1, by omega, by go_num, by rw [hsn.out, H1.out]⟩
              case measure => simp [intOf]; omega
        · obtain rfl : j = ls[k].length := by omega
          go_wp2
          go_round
          case rel => exact ⟨k + 1, by omega, by go_num, by rw [hfl.out, List.take_length]⟩
          case measure => simp [intOf]; omega
    · obtain rfl : k = ls.length := by omega
      have hcl := crcL_lt 4294967295 (ls.take ls.length).flatten (by omega)
      rw [List.take_length] at *
      have H2 := Lib.hid (show crcOf ls = 4294967295 - crcL 4294967295 ls.flatten from rfl)
      have e1 := not_u32 _ hcl
      go_wp2
      go_ret
      exact ⟨ret_int (by rw [H2.out]), rfl⟩

end Go.Proofs.Ytbpmgdcfcmjoiaa
