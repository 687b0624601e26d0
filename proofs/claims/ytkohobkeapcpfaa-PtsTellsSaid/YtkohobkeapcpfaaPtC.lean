/-
  The walks of slices.BinarySearch at strings, pts.Leq; the reference's Has, Pleq; lists held against one another.
-/
import Derived.Test.YtkohobkeapcpfaaPtB
import Derived.Test.YtkohobkeapcpfaaRel
import Derived.Sort.Walk0
namespace Go.Proofs.Ytkohobkeapcpfaa
open Go.RowKit

theorem nan1_any (w : World) (x : ByteArray) : Calls Try.prog 39 #[.string x] w fun e w' => e = .returned (.bool false) ∧ w' = w := by
  go_enter Try.func39, Try.ntmps39
  go_wp2_with fail
  go_ret
  exact ⟨rfl, rfl⟩
theorem nan2_any (w : World) (x : ByteArray) : Calls Try.prog 33 #[.string x] w fun e w' => e = .returned (.bool false) ∧ w' = w := by
  go_enter Try.func33, Try.ntmps33
  go_wp2_with fail
  go_ret
  exact ⟨rfl, rfl⟩
theorem bless (x y : S) : Op.bytesLess x y = decide (x < y) := Go.Proofs.bytesLess_eq x y
set_option maxRecDepth 100000 in
theorem less_any (w : World) (x y : S) : Calls Try.prog 32 #[encStr x, encStr y] w fun e w' => e = .returned (.bool (decide (x < y))) ∧ w' = w := by
  go_enter Try.func32, Try.ntmps32
  go_wp2_with fail
  refine (nan1_any _ _).mono ?_
  rintro e w2 ⟨rfl, rfl⟩
  go_wp2_with fail
  go_ret
  exact ⟨ret_bool (bless x y), rfl⟩
set_option maxRecDepth 100000 in
set_option maxHeartbeats 2000000 in
theorem bsearch_any (w : World) (A : Option Addr) (n c : Nat) (l : List S) (x : S) (hn : l.length = n) (hu : Up l) (hm : n ≤ 1000000) (hr : Row w w.heap.size A (l.map encStr)) :
    Calls Try.prog 27 #[.slice A n c, encStr x] w fun e w' => (∃ i : Int, e = .returned (.tuple #[.int .i64 i, .bool (decide (x ∈ l))])) ∧ w' = w := by
  go_enter Try.func27, Try.ntmps27
  go_wp2_with fail
  go_loop [7, 8] (fun iv jv => ∃ i j : Nat, i ≤ j ∧ j ≤ n ∧ iv = .int .i64 i ∧ jv = .int .i64 j ∧ (∀ k (hk : k < l.length), k < i → l[k] < x) ∧ (∀ k (hk : k < l.length), j ≤ k → x ≤ l[k])) (fun iv jv => (intOf jv).toNat - (intOf iv).toNat)
  case atStart => exact ⟨0, n, by omega, Nat.le_refl _, rfl, rfl, fun k hk h => by omega, fun k hk h => by omega⟩
  obtain ⟨i, j, hij, hjn, rfl, rfl, h1, h2⟩ := hrel
  have h1 := Lib.hid h1
  have h2 := Lib.hid h2
  rename_i u1 u2
  clear u1 u2
  by_cases hlt : i < j
  · obtain ⟨h, hh, hi, hj⟩ : ∃ h : Nat, ((i : Int) + j) / 2 = h ∧ i ≤ h ∧ h < j := ⟨(i + j) / 2, by omega, by omega, by omega⟩
    have hl : h < l.length := by omega
    obtain ⟨b, off, rfl, _, hcell⟩ := hr.at_ (k := h) (by simpa using hl)
    rw [List.getElem_map] at hcell
    obtain ⟨y, hy⟩ : ∃ y, y = l[h] := ⟨_, rfl⟩
    rw [← hy] at hcell
    have hy := Lib.hid hy
    rename_i u1
    clear u1
    by_cases hc : y < x
    · have hd := Lib.hid (show decide (y < x) = true by simpa using hc)
      have hc := Lib.hid hc
      rename_i u1
      clear u1
      go_wp2_with fail
      refine (less_any _ y x).mono ?_
      rintro e w2 ⟨rfl, rfl⟩
      rw [hd.out]
      go_wp2_with fail
      go_round
      case rel =>
        refine ⟨h + 1, j, by omega, by omega, by go_num, rfl, fun k hk hlt => ?_, h2.out⟩
        rcases Nat.lt_or_ge k h with h3 | h3
        · have := List.pairwise_iff_getElem.1 hu k h hk hl h3
          exact List.lt_trans this (by rw [← hy.out]; exact hc.out)
        · have : k = h := by omega
          subst this
          rw [← hy.out]
          exact hc.out
      case measure => simp [intOf]; omega
    · have hd := Lib.hid (show decide (y < x) = false by simpa using hc)
      have hc := Lib.hid hc
      rename_i u1
      clear u1
      go_wp2_with fail
      refine (less_any _ y x).mono ?_
      rintro e w2 ⟨rfl, rfl⟩
      rw [hd.out]
      go_wp2_with fail
      go_round
      case rel =>
        refine ⟨i, h, by omega, by omega, rfl, rfl, h1.out, fun k hk hlt => ?_⟩
        have hxh : x ≤ l[h] := by rw [← hy.out]; exact hc.out
        rcases Nat.lt_or_ge h k with h3 | h3
        · exact List.le_trans hxh (le_of_lt' (List.pairwise_iff_getElem.1 hu h k hl hk h3))
        · have : k = h := by omega
          subst this
          exact hxh
      case measure => simp [intOf]; omega
  · obtain rfl : i = j := by omega
    by_cases hin : i < n
    · have hl : i < l.length := by omega
      obtain ⟨b, off, rfl, _, hcell⟩ := hr.at_ (k := i) (by simpa using hl)
      rw [List.getElem_map] at hcell
      have hmem : Hid ((l[i] = x ↔ x ∈ l)) := Lib.hid ⟨fun e => by rw [← e]; exact List.getElem_mem hl, fun hx => by
        obtain ⟨k, hk, e⟩ := List.getElem_of_mem hx
        rcases Nat.lt_or_ge k i with h3 | h3
        · have := h1.out k hk h3
          rw [e] at this
          exact absurd this (List.lt_irrefl x)
        · have h4 := h2.out i hl (Nat.le_refl _)
          rcases Nat.lt_or_ge i k with h5 | h5
          · have h6 := List.pairwise_iff_getElem.1 hu i k hl hk h5
            rw [e] at h6
            exact absurd h6 h4
          · have : k = i := by omega
            subst this
            exact e⟩
      generalize l[i] = y at hcell hmem
      by_cases hyx : y = x
      · subst hyx
        have hd := Lib.hid (show decide (y ∈ l) = true by simpa using hmem.out.1 rfl)
        go_wp2_with fail
        go_ret2
        rw [hd.out]
        exact ⟨⟨_, rfl⟩, rfl⟩
      · have hd := Lib.hid (show decide (x ∈ l) = false by simpa using fun h => hyx (hmem.out.2 h))
        have hbq := Lib.hid (show (y == x) = false by simpa using hyx)
        go_wp2_with fail
        refine (nan2_any _ ⟨y.toArray⟩).mono ?_
        rintro e w2 ⟨rfl, rfl⟩
        go_wp2_with fail
        go_ret2
        rw [hd.out]
        exact ⟨⟨i, congrArg (fun b => Ending.returned (.tuple #[.int .i64 i, .bool b])) hbq.out⟩, rfl⟩
    · have hd := Lib.hid (show decide (x ∈ l) = false by
        simp only [decide_eq_false_iff_not]
        intro hx
        obtain ⟨k, hk, e⟩ := List.getElem_of_mem hx
        have := h1.out k hk (by omega)
        rw [e] at this
        exact List.lt_irrefl x this)
      go_wp2_with fail
      go_ret2
      rw [hd.out]
      exact ⟨⟨_, rfl⟩, rfl⟩

/-- a's cells are all among b's, and null if it is in a. -/
def leqS (a b : Pz) : Bool := (!a.nul || b.nul) && a.cells.all fun x => decide (x ∈ b.cells)

set_option maxRecDepth 100000 in
set_option maxHeartbeats 4000000 in
theorem leq_any (w0 : World) (a b : Pz) (va vb : Value) (ha : PtsV w0 a va) (hb : PtsV w0 b vb) (hna : a.cells.length ≤ 100000) (hnb : b.cells.length ≤ 100000) :
    Calls Try.prog 13 #[va, vb] w0 fun e w' => e = .returned (.bool (leqS a b)) ∧ Below w0.heap.size w0 w' := by
  obtain ⟨A, c, rfl, hr1, hc1⟩ := ha
  obtain ⟨B, d, rfl, hr2, hc2⟩ := hb
  obtain ⟨an, ac⟩ := a
  obtain ⟨bn, bc⟩ := b
  simp only at hna hnb hr1 hc1 hr2 hc2 ⊢
  cases an <;> cases bn
  case true.false =>
    have k1 := below_new w0 (.cells #[.bool true, .slice A ac.length c] 25)
    have hk2 := Lib.hid (k1.trans ((below_new (w0.alloc (.cells #[.bool true, .slice A ac.length c] 25)) (.cells #[.bool false, .slice B bc.length d] 25)).mono k1.size))
    clear k1 hr1 hr2
    go_enter Try.func13, Try.ntmps13
    go_wp2_with fail
    go_ret
    exact ⟨rfl, hk2.out⟩
  case false.false =>
    have k1 := below_new w0 (.cells #[.bool false, .slice A ac.length c] 25)
    have k2 := k1.trans ((below_new (w0.alloc (.cells #[.bool false, .slice A ac.length c] 25)) (.cells #[.bool false, .slice B bc.length d] 25)).mono k1.size)
    have hp := ((Holds.new w0 25 #[.bool false, .slice A ac.length c]).alloc (.cells #[.bool false, .slice B bc.length d] 25))
    have k3 := below_new ((w0.alloc (.cells #[.bool false, .slice A ac.length c] 25)).alloc (.cells #[.bool false, .slice B bc.length d] 25)) (.cells #[.slice B bc.length d] 23)
    have hL0 := Lists.one (w := (w0.alloc (.cells #[.bool false, .slice A ac.length c] 25)).alloc (.cells #[.bool false, .slice B bc.length d] 25)) 23 (c := d) (l := bc) rfl ((hr2.below k2).more k2.size)
    rw [show ((w0.alloc (.cells #[.bool false, .slice A ac.length c] 25)).alloc (.cells #[.bool false, .slice B bc.length d] 25)).heap.size = w0.heap.size + 1 + 1 by simp] at hL0
    have hL := Lib.hid hL0
    have hp3 := Lib.hid (hp.alloc (.cells #[.slice B bc.length d] 23))
    have hr3 := Lib.hid ((hr1.below (k2.trans (k3.mono k2.size))).more (Nat.le_trans k2.size k3.size))
    have hk3 := Lib.hid (k2.trans (k3.mono k2.size))
    have hs : Hid ([bc].flatten.length ≤ 1000000) := Lib.hid (by simp; omega)
    have e1 : Hid ([bc].flatten = bc) := Lib.hid (by simp)
    clear k1 k2 k3 hr1 hr2 hp hL0
    go_enter Try.func13, Try.ntmps13
    go_wp2_with fail
    generalize ((w0.alloc (.cells #[.bool false, .slice A ac.length c] 25)).alloc (.cells #[.bool false, .slice B bc.length d] 25)).alloc (.cells #[.slice B bc.length d] 23) = w1 at hL hp3 hr3 hk3 ⊢
    refine (ordered_any w1 (some ⟨w0.heap.size + 1 + 1, 0, none⟩) 1 1 [bc] rfl (by omega) hL.out hs.out).mono ?_
    rintro e w2 ⟨v, rfl, ho, hb2⟩
    rw [e1.out] at ho
    obtain ⟨A2, c2, rfl, hr2, hc2⟩ := own_rowA ho
    have hr4 := Lib.hid hr2
    have hp4 := hp3.out.below hb2 hp3.out.lt
    have hrA := Lib.hid ((hr3.out.below hb2).more hb2.size)
    have hk4 := Lib.hid (hk3.out.trans (hb2.mono hk3.out.size))
    have z1 := (hp4.fact 1 rfl).2
    have hcl := canon_len bc
    clear hb2 ho hr2 hc2 hp4 hk3 hr3 hp3 hL hs e1
    obtain ⟨m, hmc⟩ : ∃ m, m = (canon bc).length := ⟨_, rfl⟩
    rw [← hmc] at hcl ⊢
    have hmc := Lib.hid hmc.symm
    rename_i u1
    clear u1
    go_wp2_with fail
    go_loop [24] (fun i => ∃ k : Nat, k ≤ ac.length ∧ i = .int .i64 k ∧ (ac.take k).all (fun x => decide (x ∈ bc)) = true) (fun i => ac.length - (intOf i).toNat)
    case atStart => exact ⟨0, by omega, rfl, rfl⟩
    obtain ⟨k, hk, rfl, hall⟩ := hrel
    have hall := Lib.hid hall
    rename_i u1
    clear u1
    by_cases hlt : k < ac.length
    · obtain ⟨b, off, rfl, _, hcell⟩ := hrA.out.at_ (k := k) (by simpa using hlt)
      rw [List.getElem_map] at hcell
      obtain ⟨y, hy⟩ : ∃ y, y = ac[k] := ⟨_, rfl⟩
      rw [← hy] at hcell
      have hy := Lib.hid hy
      rename_i u1
      clear u1
      have htk : Hid (ac.take (k + 1) = ac.take k ++ [y]) := Lib.hid (by rw [hy.out]; exact List.take_succ_eq_append_getElem hlt)
      have hyb : Hid (decide (y ∈ canon bc) = decide (y ∈ bc)) := Lib.hid (by rw [decide_eq_decide]; exact mem_canon)
      go_wp2_with fail
      refine (bsearch_any w2 A2 m c2 (canon bc) y hmc.out (canon_up bc) (by omega) hr4.out).mono ?_
      rintro e w3 ⟨⟨z, rfl⟩, rfl⟩
      rw [hyb.out]
      by_cases hin : y ∈ bc
      · have hd := Lib.hid (show decide (y ∈ bc) = true by simpa using hin)
        clear hin
        rw [hd.out]
        go_wp2_with fail
        go_round
        case rel => exact ⟨k + 1, by omega, by go_num, by rw [htk.out, List.all_append, hall.out]; simpa using hd.out⟩
        case measure => simp [intOf]; omega
      · have hd := Lib.hid (show decide (y ∈ bc) = false by simpa using hin)
        have hno : Hid ((ac.all fun x => decide (x ∈ bc)) = false) := Lib.hid (List.all_eq_false.2 ⟨y, by rw [hy.out]; exact List.getElem_mem hlt, by simpa using hin⟩)
        clear hin
        rw [hd.out]
        go_wp2_with fail
        go_ret
        exact ⟨by unfold leqS; simp only [hno.out]; rfl, hk4.out⟩
    · obtain rfl : k = ac.length := by omega
      rw [List.take_length] at hall
      go_wp2_with fail
      go_ret
      exact ⟨by unfold leqS; simp only [hall.out]; rfl, hk4.out⟩
  case false.true =>
    have k1 := below_new w0 (.cells #[.bool false, .slice A ac.length c] 25)
    have k2 := k1.trans ((below_new (w0.alloc (.cells #[.bool false, .slice A ac.length c] 25)) (.cells #[.bool true, .slice B bc.length d] 25)).mono k1.size)
    have hp := ((Holds.new w0 25 #[.bool false, .slice A ac.length c]).alloc (.cells #[.bool true, .slice B bc.length d] 25))
    have k3 := below_new ((w0.alloc (.cells #[.bool false, .slice A ac.length c] 25)).alloc (.cells #[.bool true, .slice B bc.length d] 25)) (.cells #[.slice B bc.length d] 23)
    have hL0 := Lists.one (w := (w0.alloc (.cells #[.bool false, .slice A ac.length c] 25)).alloc (.cells #[.bool true, .slice B bc.length d] 25)) 23 (c := d) (l := bc) rfl ((hr2.below k2).more k2.size)
    rw [show ((w0.alloc (.cells #[.bool false, .slice A ac.length c] 25)).alloc (.cells #[.bool true, .slice B bc.length d] 25)).heap.size = w0.heap.size + 1 + 1 by simp] at hL0
    have hL := Lib.hid hL0
    have hp3 := Lib.hid (hp.alloc (.cells #[.slice B bc.length d] 23))
    have hr3 := Lib.hid ((hr1.below (k2.trans (k3.mono k2.size))).more (Nat.le_trans k2.size k3.size))
    have hk3 := Lib.hid (k2.trans (k3.mono k2.size))
    have hs : Hid ([bc].flatten.length ≤ 1000000) := Lib.hid (by simp; omega)
    have e1 : Hid ([bc].flatten = bc) := Lib.hid (by simp)
    clear k1 k2 k3 hr1 hr2 hp hL0
    go_enter Try.func13, Try.ntmps13
    go_wp2_with fail
    generalize ((w0.alloc (.cells #[.bool false, .slice A ac.length c] 25)).alloc (.cells #[.bool true, .slice B bc.length d] 25)).alloc (.cells #[.slice B bc.length d] 23) = w1 at hL hp3 hr3 hk3 ⊢
    refine (ordered_any w1 (some ⟨w0.heap.size + 1 + 1, 0, none⟩) 1 1 [bc] rfl (by omega) hL.out hs.out).mono ?_
    rintro e w2 ⟨v, rfl, ho, hb2⟩
    rw [e1.out] at ho
    obtain ⟨A2, c2, rfl, hr2, hc2⟩ := own_rowA ho
    have hr4 := Lib.hid hr2
    have hp4 := hp3.out.below hb2 hp3.out.lt
    have hrA := Lib.hid ((hr3.out.below hb2).more hb2.size)
    have hk4 := Lib.hid (hk3.out.trans (hb2.mono hk3.out.size))
    have z1 := (hp4.fact 1 rfl).2
    have hcl := canon_len bc
    clear hb2 ho hr2 hc2 hp4 hk3 hr3 hp3 hL hs e1
    obtain ⟨m, hmc⟩ : ∃ m, m = (canon bc).length := ⟨_, rfl⟩
    rw [← hmc] at hcl ⊢
    have hmc := Lib.hid hmc.symm
    rename_i u1
    clear u1
    go_wp2_with fail
    go_loop [24] (fun i => ∃ k : Nat, k ≤ ac.length ∧ i = .int .i64 k ∧ (ac.take k).all (fun x => decide (x ∈ bc)) = true) (fun i => ac.length - (intOf i).toNat)
    case atStart => exact ⟨0, by omega, rfl, rfl⟩
    obtain ⟨k, hk, rfl, hall⟩ := hrel
    have hall := Lib.hid hall
    rename_i u1
    clear u1
    by_cases hlt : k < ac.length
    · obtain ⟨b, off, rfl, _, hcell⟩ := hrA.out.at_ (k := k) (by simpa using hlt)
      rw [List.getElem_map] at hcell
      obtain ⟨y, hy⟩ : ∃ y, y = ac[k] := ⟨_, rfl⟩
      rw [← hy] at hcell
      have hy := Lib.hid hy
      rename_i u1
      clear u1
      have htk : Hid (ac.take (k + 1) = ac.take k ++ [y]) := Lib.hid (by rw [hy.out]; exact List.take_succ_eq_append_getElem hlt)
      have hyb : Hid (decide (y ∈ canon bc) = decide (y ∈ bc)) := Lib.hid (by rw [decide_eq_decide]; exact mem_canon)
      go_wp2_with fail
      refine (bsearch_any w2 A2 m c2 (canon bc) y hmc.out (canon_up bc) (by omega) hr4.out).mono ?_
      rintro e w3 ⟨⟨z, rfl⟩, rfl⟩
      rw [hyb.out]
      by_cases hin : y ∈ bc
      · have hd := Lib.hid (show decide (y ∈ bc) = true by simpa using hin)
        clear hin
        rw [hd.out]
        go_wp2_with fail
        go_round
        case rel => exact ⟨k + 1, by omega, by go_num, by rw [htk.out, List.all_append, hall.out]; simpa using hd.out⟩
        case measure => simp [intOf]; omega
      · have hd := Lib.hid (show decide (y ∈ bc) = false by simpa using hin)
        have hno : Hid ((ac.all fun x => decide (x ∈ bc)) = false) := Lib.hid (List.all_eq_false.2 ⟨y, by rw [hy.out]; exact List.getElem_mem hlt, by simpa using hin⟩)
        clear hin
        rw [hd.out]
        go_wp2_with fail
        go_ret
        exact ⟨by unfold leqS; simp only [hno.out]; rfl, hk4.out⟩
    · obtain rfl : k = ac.length := by omega
      rw [List.take_length] at hall
      go_wp2_with fail
      go_ret
      exact ⟨by unfold leqS; simp only [hall.out]; rfl, hk4.out⟩
  case true.true =>
    have k1 := below_new w0 (.cells #[.bool true, .slice A ac.length c] 25)
    have k2 := k1.trans ((below_new (w0.alloc (.cells #[.bool true, .slice A ac.length c] 25)) (.cells #[.bool true, .slice B bc.length d] 25)).mono k1.size)
    have hp := ((Holds.new w0 25 #[.bool true, .slice A ac.length c]).alloc (.cells #[.bool true, .slice B bc.length d] 25))
    have k3 := below_new ((w0.alloc (.cells #[.bool true, .slice A ac.length c] 25)).alloc (.cells #[.bool true, .slice B bc.length d] 25)) (.cells #[.slice B bc.length d] 23)
    have hL0 := Lists.one (w := (w0.alloc (.cells #[.bool true, .slice A ac.length c] 25)).alloc (.cells #[.bool true, .slice B bc.length d] 25)) 23 (c := d) (l := bc) rfl ((hr2.below k2).more k2.size)
    rw [show ((w0.alloc (.cells #[.bool true, .slice A ac.length c] 25)).alloc (.cells #[.bool true, .slice B bc.length d] 25)).heap.size = w0.heap.size + 1 + 1 by simp] at hL0
    have hL := Lib.hid hL0
    have hp3 := Lib.hid (hp.alloc (.cells #[.slice B bc.length d] 23))
    have hr3 := Lib.hid ((hr1.below (k2.trans (k3.mono k2.size))).more (Nat.le_trans k2.size k3.size))
    have hk3 := Lib.hid (k2.trans (k3.mono k2.size))
    have hs : Hid ([bc].flatten.length ≤ 1000000) := Lib.hid (by simp; omega)
    have e1 : Hid ([bc].flatten = bc) := Lib.hid (by simp)
    clear k1 k2 k3 hr1 hr2 hp hL0
    go_enter Try.func13, Try.ntmps13
    go_wp2_with fail
    generalize ((w0.alloc (.cells #[.bool true, .slice A ac.length c] 25)).alloc (.cells #[.bool true, .slice B bc.length d] 25)).alloc (.cells #[.slice B bc.length d] 23) = w1 at hL hp3 hr3 hk3 ⊢
    refine (ordered_any w1 (some ⟨w0.heap.size + 1 + 1, 0, none⟩) 1 1 [bc] rfl (by omega) hL.out hs.out).mono ?_
    rintro e w2 ⟨v, rfl, ho, hb2⟩
    rw [e1.out] at ho
    obtain ⟨A2, c2, rfl, hr2, hc2⟩ := own_rowA ho
    have hr4 := Lib.hid hr2
    have hp4 := hp3.out.below hb2 hp3.out.lt
    have hrA := Lib.hid ((hr3.out.below hb2).more hb2.size)
    have hk4 := Lib.hid (hk3.out.trans (hb2.mono hk3.out.size))
    have z1 := (hp4.fact 1 rfl).2
    have hcl := canon_len bc
    clear hb2 ho hr2 hc2 hp4 hk3 hr3 hp3 hL hs e1
    obtain ⟨m, hmc⟩ : ∃ m, m = (canon bc).length := ⟨_, rfl⟩
    rw [← hmc] at hcl ⊢
    have hmc := Lib.hid hmc.symm
    rename_i u1
    clear u1
    go_wp2_with fail
    go_loop [24] (fun i => ∃ k : Nat, k ≤ ac.length ∧ i = .int .i64 k ∧ (ac.take k).all (fun x => decide (x ∈ bc)) = true) (fun i => ac.length - (intOf i).toNat)
    case atStart => exact ⟨0, by omega, rfl, rfl⟩
    obtain ⟨k, hk, rfl, hall⟩ := hrel
    have hall := Lib.hid hall
    rename_i u1
    clear u1
    by_cases hlt : k < ac.length
    · obtain ⟨b, off, rfl, _, hcell⟩ := hrA.out.at_ (k := k) (by simpa using hlt)
      rw [List.getElem_map] at hcell
      obtain ⟨y, hy⟩ : ∃ y, y = ac[k] := ⟨_, rfl⟩
      rw [← hy] at hcell
      have hy := Lib.hid hy
      rename_i u1
      clear u1
      have htk : Hid (ac.take (k + 1) = ac.take k ++ [y]) := Lib.hid (by rw [hy.out]; exact List.take_succ_eq_append_getElem hlt)
      have hyb : Hid (decide (y ∈ canon bc) = decide (y ∈ bc)) := Lib.hid (by rw [decide_eq_decide]; exact mem_canon)
      go_wp2_with fail
      refine (bsearch_any w2 A2 m c2 (canon bc) y hmc.out (canon_up bc) (by omega) hr4.out).mono ?_
      rintro e w3 ⟨⟨z, rfl⟩, rfl⟩
      rw [hyb.out]
      by_cases hin : y ∈ bc
      · have hd := Lib.hid (show decide (y ∈ bc) = true by simpa using hin)
        clear hin
        rw [hd.out]
        go_wp2_with fail
        go_round
        case rel => exact ⟨k + 1, by omega, by go_num, by rw [htk.out, List.all_append, hall.out]; simpa using hd.out⟩
        case measure => simp [intOf]; omega
      · have hd := Lib.hid (show decide (y ∈ bc) = false by simpa using hin)
        have hno : Hid ((ac.all fun x => decide (x ∈ bc)) = false) := Lib.hid (List.all_eq_false.2 ⟨y, by rw [hy.out]; exact List.getElem_mem hlt, by simpa using hin⟩)
        clear hin
        rw [hd.out]
        go_wp2_with fail
        go_ret
        exact ⟨by unfold leqS; simp only [hno.out]; rfl, hk4.out⟩
    · obtain rfl : k = ac.length := by omega
      rw [List.take_length] at hall
      go_wp2_with fail
      go_ret
      exact ⟨by unfold leqS; simp only [hall.out]; rfl, hk4.out⟩
end Go.Proofs.Ytkohobkeapcpfaa
