/-
  The walk of StoreBatch.
-/
import Derived.Test.YtelglbblgkhcmaaGreatSd
namespace Go.Proofs.YtelglbblgkhcmaaGreat
open Go.RowKit Go.Deep Go.Maps

set_option maxRecDepth 100000 in
set_option maxHeartbeats 8000000 in
theorem batch5_walk (W : World) (v0 : Value) (o0 : ArgOk 22 W v0) : Calls Tryz.prog 3 #[v0] W fun e W' => e = .returned (.bool true) ∧ Below W.heap.size W W' := by
  obtain ⟨A, n, c, l, rfl, hl, hnc, hcm, hr⟩ := o0.lps
  unfold maxLen at hcm
  replace hl := Lib.hid hl
  replace hr := Lib.hid hr
  have hmm := @run_makeMap Tryz.prog
  go_enter Tryz.func3, Tryz.ntmps3
  go_wp2_with fail
  refine (known5_any W).mono ?_
  rintro e w1 ⟨rfl, hb1⟩
  have hB1 := Lib.hid hb1
  clear hb1
  by_cases h20 : 20 < n
  · have h20i : (20 : Int) < (n : Int) := by omega
    go_wp2_with fail
    go_ret
    exact ⟨rfl, hB1.out⟩
  have h20i : ¬ (20 : Int) < (n : Int) := by omega
  have hhalf : half 400 * 512 = 101888 := rfl
  go_wp2_with fail
  refine (newd_any w1 400 512 (by omega) (by omega) (by omega) (by omega)).mono ?_
  rintro e w2 ⟨q, rfl, hq, -, hb2, hlow⟩
  replace hq := Lib.hid hq
  have hqh : Hid (Hi W.heap.size q) := Lib.hid (fun x hx => Nat.le_trans hB1.out.size (hlow x hx))
  have hB2 := Lib.hid (hB1.out.trans (hb2.mono hB1.out.size))
  clear hlow hb2 hB1
  replace hhalf := Lib.hid hhalf
  go_wp2_with fail
  refine (opennew5 (n := 400) (s := 512) (by omega) (by omega) hq.out).mono ?_
  rintro e w3 ⟨S, rfl, hO⟩
  obtain ⟨hb3, hl3⟩ := hO.low hB2.out.size hqh.out
  have hB3 := Lib.hid (hB2.out.trans hb3)
  have hL3 : Lw W.heap.size 400 512 S w3 := ⟨hO.live, hl3, hO.cut⟩
  have hM4 := Mp.new w3 hL3 hB3.out.size
  have hb4 := below_new w3 (.map #[] 0)
  obtain ⟨w4, hw4⟩ : ∃ x, x = w3.alloc (.map #[] 0) := ⟨_, rfl⟩
  obtain ⟨mm, hmm4⟩ : ∃ x, x = w3.heap.size := ⟨_, rfl⟩
  rw [← hw4, ← hmm4] at hM4
  rw [← hw4] at hb4
  have hL4 := Lib.hid (hL3.below hb4)
  have hB4 := Lib.hid (hB3.out.trans (hb4.mono hB3.out.size))
  have hS : Hid (S.F = (fun _ => none) ∧ S.l.serial = 0 ∧ S.N = 0 ∧ S.q.g = q.g) := Lib.hid ⟨hO.hF, hO.ser, hO.hN, hO.hg⟩
  replace hM4 := Lib.hid hM4
  clear hO hb3 hl3 hL3 hb4 hB2 hB3 hq hqh
  go_wp2_with fail
  rw [← hw4, ← hmm4]
  clear hw4 hmm4 hmm
  have hr4 : Hid (Row w4 w4.heap.size A (l.flatMap LP.cells)) := Lib.hid ((hr.out.below hB4.out).more hB4.out.size)
  refine (pairs_step hL4.out hM4.out hB4.out.size 1 (by omega) A n c l hl.out (by omega) hr4.out (by omega)).mono ?_
  rintro e w5 ⟨A5, c5, rfl, hr5, hL5, hM5, hb5⟩
  replace hr5 := Lib.hid hr5
  replace hL5 := Lib.hid hL5
  replace hM5 := Lib.hid hM5
  have hB5 := Lib.hid (hB4.out.trans hb5)
  clear hb5 hL4 hM4 hr4 hB4
  go_wp2_with fail
  refine (apply_step (by omega) (by omega) (by rw [hhalf.out]; omega) hL5.out hM5.out hB5.out.size (by rw [hS.out.2.1]; omega) A5 n c5 (pairsF 1 l) (by rw [pairsF_length, hl.out]) hr5.out (pairsF_sm 1 l) (pairsF_key 1 l) (by rw [hS.out.2.2.1]; omega) (by rw [hS.out.1]; exact FSm.none) (by rw [hS.out.1]; exact domF_none)).mono ?_
  rintro e w6 ⟨rfl, S6, hD⟩
  rw [hS.out.1, hS.out.2.2.1] at hD
  have hsm : Hid (FSm ((pairsF 1 l).foldl chg (fun _ => none)) ∧ DomF ((pairsF 1 l).foldl chg (fun _ => none))) := Lib.hid ⟨FSm.none.fold (pairsF_sm 1 l), domF_none.fold (pairsF_key 1 l)⟩
  obtain ⟨F2, hF2⟩ : ∃ x, x = (pairsF 1 l).foldl chg (fun _ => none) := ⟨_, rfl⟩
  rw [← hF2] at hD hsm hM5
  clear hF2
  have hfr6 := Lib.hid hD.front
  have hN6 : Hid (S6.N ≤ 100000) := Lib.hid (by rw [hD.hN]; omega)
  have hB6 := Lib.hid (hB5.out.trans hD.bel)
  have hg6 : Hid (S6.q.g = q.g) := Lib.hid (hD.hg.trans hS.out.2.2.2)
  have hF6 : Hid (S6.F = F2) := Lib.hid hD.hF
  replace hD := Lib.hid hD
  clear hL5 hM5 hr5 hB5 hS
  go_wp2_with fail
  refine (alike_step hfr6.out hN6.out hsm.out.1 hsm.out.2 hD.out.mp.map rfl).mono ?_
  rintro e w7 ⟨rfl, hb7⟩
  have hL7 := Lib.hid (hD.out.lw.below hb7)
  have hM7 := Lib.hid (hD.out.mp.below hb7)
  have hB7 := Lib.hid (hB6.out.trans (hb7.mono hB6.out.size))
  clear hb7 hD hfr6 hB6
  go_wp2_with fail
  refine (open_step (by omega) (by omega) (by rw [hhalf.out]; omega) hL7.out hM7.out hB7.out.size hg6.out).mono ?_
  rintro e w8 ⟨S8, rfl, hA⟩
  have hfr8 := Lib.hid (hA.front hF6.out)
  have hN8 : Hid (S8.N ≤ 100000) := Lib.hid (by have := hA.hN; rw [hhalf.out] at this; omega)
  have hB8 := Lib.hid (hB7.out.trans hA.bel)
  replace hA := Lib.hid hA
  clear hL7 hM7 hB7 hg6 hF6 hN6
  go_wp2_with fail
  refine (alike_step hfr8.out hN8.out hsm.out.1 hsm.out.2 hA.out.mp.map rfl).mono ?_
  rintro e w9 ⟨rfl, hb9⟩
  have hB9 := Lib.hid (hB8.out.trans (hb9.mono hB8.out.size))
  clear hb9 hA hfr8 hB8
  go_wp2_with fail
  go_ret
  exact ⟨rfl, hB9.out⟩
end Go.Proofs.YtelglbblgkhcmaaGreat
