/-
  Lists of strings held against one another; pts.Text; what is light.
-/
import Derived.Test.YtkohobkeapcpfaaPtD
import Derived.Deep.QuietTactic
import Derived.BigQuiet
namespace Go.Proofs.Ytkohobkeapcpfaa
open Go.RowKit

set_option maxRecDepth 100000 in
set_option maxHeartbeats 2000000 in
theorem strs_any (w : World) (A1 A2 : Option Addr) (n1 n2 c1 c2 : Nat) (l l' : List S) (h1 : l.length = n1) (h2 : l'.length = n2) (hm : n1 ≤ 100000) (hm2 : n2 ≤ 100000) (r1 : Row w w.heap.size A1 (l.map encStr)) (r2 : Row w w.heap.size A2 (l'.map encStr)) :
    Calls Try.prog 25 #[.slice A1 n1 c1, .slice A2 n2 c2] w fun e w' => e = .returned (.bool (decide (l = l'))) ∧ Below w.heap.size w w' := by
  have h1' := Lib.hid h1
  have h2' := Lib.hid h2
  have r1' := Lib.hid r1
  have r2' := Lib.hid r2
  clear r1 r2 h1 h2
  by_cases hne : n1 = n2
  case neg =>
    have hd := Lib.hid (show decide (l = l') = false by
      simp only [decide_eq_false_iff_not]
      rintro rfl
      exact hne (by rw [← h1'.out, ← h2'.out]))
    have hnn : ((n1 : Int) == n2) = false := by simp; omega
    go_enter Try.func25, Try.ntmps25
    go_wp2_with fail
    go_ret
    exact ⟨by rw [hd.out]; rfl, Below.refl _ _⟩
  subst hne
  go_enter Try.func25, Try.ntmps25
  go_wp2_with fail
  go_loopw [5] (fun i wr => ∃ k : Nat, k ≤ n1 ∧ i = .int .i64 k ∧ Below w.heap.size w wr ∧ l.take k = l'.take k) (fun i _ => n1 - (intOf i).toNat)
  case atStart => exact ⟨0, Nat.zero_le _, rfl, Below.refl _ _, rfl⟩
  obtain ⟨k, hk, rfl, hb, htk⟩ := hrel
  have htk := Lib.hid htk
  rename_i u1
  clear u1
  by_cases hlt : k < n1
  · have hl1 : k < l.length := by rw [h1'.out]; exact hlt
    have hl2 : k < l'.length := by rw [h2'.out]; exact hlt
    obtain ⟨b1, o1, rfl, _, q1⟩ := (r1'.out.below hb).at_ (k := k) (by simpa using hl1)
    obtain ⟨b2, o2, rfl, _, q2⟩ := (r2'.out.below hb).at_ (k := k) (by simpa using hl2)
    rw [List.getElem_map] at q1 q2
    have hx := Lib.hid (List.take_succ_eq_append_getElem hl1)
    have hy := Lib.hid (List.take_succ_eq_append_getElem hl2)
    have hinj : Hid (l = l' → l[k] = l'[k]) := Lib.hid (by rintro rfl; rfl)
    have hb' := Lib.hid hb
    clear hb
    generalize l[k] = x at q1 hx hinj
    generalize l'[k] = y at q2 hy hinj
    by_cases hxy : x = y
    · subst hxy
      go_wp2_with fail
      go_region
      all_goals
        go_wp2_with fail
        go_roundw
        case rel => exact ⟨k + 1, by omega, by go_num, hb'.out.drew, by rw [hx.out, hy.out, htk.out]⟩
        case measure => simp [intOf]; omega
    · have hd := Lib.hid (show decide (l = l') = false by
        simp only [decide_eq_false_iff_not]
        exact fun h => hxy (hinj.out h))
      have hbq : (x == y) = false := by simpa using hxy
      go_wp2_with fail
      go_region
      all_goals
        go_wp2_with fail
        go_ret
        exact ⟨by rw [hd.out]; rfl, hb'.out.drew⟩
  · obtain rfl : k = n1 := by omega
    have hd := Lib.hid (show decide (l = l') = true by
      have := htk.out
      rw [show l.take k = l by rw [← h1'.out, List.take_length], show l'.take k = l' by rw [← h2'.out, List.take_length]] at this
      simpa using this)
    go_wp2_with fail
    go_ret
    exact ⟨by rw [hd.out]; rfl, hb⟩

/-- Held against one another. -/
def sameP (a b : Pz) : Bool := (a.nul == b.nul) && decide (a.cells = b.cells)
set_option maxRecDepth 100000 in
set_option maxHeartbeats 2000000 in
theorem ptsEq_any (w0 : World) (a b : Pz) (va vb : Value) (ha : PtsV w0 a va) (hb : PtsV w0 b vb) (hna : a.cells.length ≤ 100000) (hnb : b.cells.length ≤ 100000) :
    Calls Try.prog 10 #[va, vb] w0 fun e w' => e = .returned (.bool (sameP a b)) ∧ Below w0.heap.size w0 w' := by
  obtain ⟨A, c, rfl, hr1, hc1⟩ := ha
  obtain ⟨B, d, rfl, hr2, hc2⟩ := hb
  obtain ⟨an, ac⟩ := a
  obtain ⟨bn, bc⟩ := b
  simp only at hna hnb hr1 hc1 hr2 hc2 ⊢
  have k1 := below_new w0 (.cells #[.bool an, .slice A ac.length c] 25)
  have k2 := k1.trans ((below_new (w0.alloc (.cells #[.bool an, .slice A ac.length c] 25)) (.cells #[.bool bn, .slice B bc.length d] 25)).mono k1.size)
  have hrA := Lib.hid ((hr1.below k2).more k2.size)
  have hrB := Lib.hid ((hr2.below k2).more k2.size)
  have hk := Lib.hid k2
  clear k1 k2 hr1 hr2
  by_cases hnn : an = bn
  · subst hnn
    have hsp : Hid (sameP ⟨an, ac⟩ ⟨an, bc⟩ = decide (ac = bc)) := Lib.hid (by simp [sameP])
    go_enter Try.func10, Try.ntmps10
    go_wp2_with fail
    generalize (w0.alloc (.cells #[.bool an, .slice A ac.length c] 25)).alloc (.cells #[.bool an, .slice B bc.length d] 25) = w1 at hrA hrB hk ⊢
    refine (strs_any w1 A B ac.length bc.length c d ac bc rfl rfl hna hnb hrA.out hrB.out).mono ?_
    rintro e w2 ⟨rfl, hb2⟩
    have hk2 := Lib.hid (hk.out.trans (hb2.mono hk.out.size))
    clear hb2
    generalize decide (ac = bc) = z at hsp ⊢
    go_wp2_with fail
    go_ret
    exact ⟨by rw [hsp.out]; rfl, hk2.out⟩
  · have hsp : Hid (sameP ⟨an, ac⟩ ⟨bn, bc⟩ = false) := Lib.hid (by simp [sameP, hnn])
    have hbq : (an == bn) = false := by simpa using hnn
    go_enter Try.func10, Try.ntmps10
    go_wp2_with fail
    go_ret
    exact ⟨by rw [hsp.out]; rfl, hk.out⟩
end Go.Proofs.Ytkohobkeapcpfaa
