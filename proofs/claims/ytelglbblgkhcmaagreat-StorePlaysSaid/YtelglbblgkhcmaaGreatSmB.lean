/-
  The walk of StorePlays.
-/
import Derived.Test.YtelglbblgkhcmaaGreatSd
namespace Go.Proofs.YtelglbblgkhcmaaGreat
open Go.RowKit Go.Deep Go.Maps

/-- The state of the script: a store and the map that it comes to. -/
structure PlayL (B gd mm : Nat) (W : World) (i : Nat) (S : SR) (NM : Nat) (M : ByteArray → Option ByteArray) (w : World) : Prop where
  lw : Lw B 400 512 S w
  mp : Mp B S mm NM M w
  hF : S.F = M
  sm : FSm M
  dom : DomF M
  hg : S.q.g = gd
  hN : S.N ≤ 13000 + 5 * i
  hNM : NM ≤ 5 * i
  ser : S.l.serial ≤ 2 * i
  bel : Below B W w
theorem PlayL.front {B gd mm : Nat} {W : World} {i : Nat} {S : SR} {NM : Nat} {M : ByteArray → Option ByteArray} {w : World} (h : PlayL B gd mm W i S NM M w) : Front S.gs S.l.g S.mb S.N M false w := by
  have := h.lw.live.fr
  unfold SR.front at this
  rw [h.hF] at this
  exact this
theorem PlayL.below {B gd mm : Nat} {W : World} {i : Nat} {S : SR} {NM : Nat} {M : ByteArray → Option ByteArray} {w w' : World} (h : PlayL B gd mm W i S NM M w) (hb : Below w.heap.size w w') (hB : B ≤ w.heap.size) : PlayL B gd mm W i S NM M w' :=
  ⟨h.lw.below hb, h.mp.below hb, h.hF, h.sm, h.dom, h.hg, h.hN, h.hNM, h.ser, h.bel.trans (hb.mono hB)⟩
set_option maxRecDepth 100000 in
set_option maxHeartbeats 8000000 in
theorem plays_walk (W : World) (v0 : Value) (o0 : ArgOk 48 W v0) : Calls Tryz.prog 6 #[v0] W fun e W' => e = .returned (.bool true) ∧ Below W.heap.size W W' := by
  obtain ⟨A, n, c, l, rfl, hl, hnc, hcm, hacts⟩ := o0.acts5
  have hcm' := hcm
  unfold maxLen at hcm
  replace hl := Lib.hid hl
  replace hacts := Lib.hid hacts
  have hmm := @run_makeMap Tryz.prog
  go_enter Tryz.func6, Tryz.ntmps6
  go_wp2_with fail
  refine (known5_any W).mono ?_
  rintro e w1 ⟨rfl, hb1⟩
  have hB1 := Lib.hid hb1
  clear hb1
  go_wp2_with fail
  refine (light5_any W w1 hB1.out A n c l hl.out (Nat.le_trans hnc hcm') hacts.out).mono ?_
  rintro e w2 ⟨rfl, hb2⟩
  have hB2 := Lib.hid (hB1.out.trans (hb2.mono hB1.out.size))
  clear hb2 hB1 hcm'
  cases hlt : lightS l with
  | false =>
    clear hlt
    go_wp2_with fail
    go_ret
    exact ⟨rfl, hB2.out⟩
  | true =>
    have hln := lightS_lens hlt
    have hn30 : n ≤ 30 := by rw [← hl.out]; exact hln.1
    have hl5 := Lib.hid hln.2
    clear hlt hln
    have hhalf : Hid (half 400 * 512 = 101888) := Lib.hid rfl
    go_wp2_with fail
    refine (newd_any w2 400 512 (by omega) (by omega) (by omega) (by omega)).mono ?_
    rintro e w3 ⟨q, rfl, hq, -, hb3, hlow⟩
    replace hq := Lib.hid hq
    have hqh : Hid (Hi W.heap.size q) := Lib.hid (fun x hx => Nat.le_trans hB2.out.size (hlow x hx))
    have hB3 := Lib.hid (hB2.out.trans (hb3.mono hB2.out.size))
    clear hlow hb3 hB2
    go_wp2_with fail
    refine (opennew5 (n := 400) (s := 512) (by omega) (by omega) hq.out).mono ?_
    rintro e w4 ⟨S, rfl, hO⟩
    obtain ⟨hb4, hl4⟩ := hO.low hB3.out.size hqh.out
    have hB4 := hB3.out.trans hb4
    have hL4 : Lw W.heap.size 400 512 S w4 := ⟨hO.live, hl4, hO.cut⟩
    have hM5 := Mp.new w4 hL4 hB4.size
    have hb5 := below_new w4 (.map #[] 0)
    obtain ⟨w5, hw5⟩ : ∃ x, x = w4.alloc (.map #[] 0) := ⟨_, rfl⟩
    obtain ⟨mm, hmm5⟩ : ∃ x, x = w4.heap.size := ⟨_, rfl⟩
    rw [← hw5, ← hmm5] at hM5
    rw [← hw5] at hb5
    have hP5 : Hid (PlayL W.heap.size q.g mm W 0 S 0 (fun _ => none) w5) := Lib.hid ⟨hL4.below hb5, hM5, hO.hF, FSm.none, domF_none, hO.hg, by rw [hO.hN]; simp, by omega, by rw [hO.ser]; simp [zeroH], hB4.trans (hb5.mono hB4.size)⟩
    clear hO hb4 hl4 hL4 hb5 hB3 hB4 hq hqh hM5
    go_wp2_with fail
    rw [← hw5, ← hmm5]
    clear hw5 hmm5 hmm
    go_loopw [4, 7] (fun sv iv wr => ∃ (i : Nat) (S : SR) (NM : Nat) (M : ByteArray → Option ByteArray), i ≤ n ∧ iv = .int .i64 i ∧ sv = .pointer (some ⟨S.gs, 0, none⟩) ∧ Hid (PlayL W.heap.size q.g mm W i S NM M wr)) (fun _ iv _ => n - (intOf iv).toNat)
    case atStart => exact ⟨0, S, 0, _, by omega, rfl, rfl, hP5⟩
    clear hP5
    obtain ⟨i, S, NM, M, hi, rfl, rfl, hP⟩ := hrel
    rename World => wo
    have hBs : Hid (W.heap.size ≤ wo.heap.size) := Lib.hid hP.out.bel.size
    by_cases hin : i < n
    · have hil : i < l.length := by rw [hl.out]; exact hin
      have hii : (i : Int) < (n : Int) := by omega
      obtain ⟨b, off, rfl, hc0, hc1, hrow⟩ := hacts.out.at_ hP.out.bel hil
      obtain ⟨a, haa⟩ : ∃ a, a = l[i] := ⟨_, rfl⟩
      have hal := hl5.out l[i] (List.getElem_mem hil)
      rw [← haa] at hc0 hc1 hrow hal
      have hrow := Lib.hid hrow
      clear haa
      obtain ⟨k, hk⟩ : ∃ k, k = a.l.length := ⟨_, rfl⟩
      rw [← hk] at hc1 hal
      replace hk := Lib.hid hk
      obtain ⟨what, hwh⟩ : ∃ x, x = a.what := ⟨_, rfl⟩
      rw [← hwh] at hc0
      clear hwh
      have hiw : IntKind.i64.wrap ((i : Int) + 1) = ((i + 1 : Nat) : Int) := by rw [IntWalk.i64_in _ (by omega)]; omega
      by_cases h5 : what = 5
      · subst h5
        clear hc1 hrow
        go_wp2_with fail
        refine (compact_step (by omega) (by omega) (by rw [hhalf.out]; omega) hP.out.lw hP.out.mp hBs.out (by have := hP.out.ser; omega) (by have := hP.out.hN; omega) (by rw [hP.out.hF]; exact hP.out.sm) (by rw [hP.out.hF]; exact hP.out.dom)).mono ?_
        rintro e w6 ⟨rfl, S6, hD⟩
        rw [← hD.gs]
        have hP6 : Hid (PlayL W.heap.size q.g mm W (i + 1) S6 NM M w6) := Lib.hid ⟨hD.lw, hD.mp, hD.hF.trans hP.out.hF, hP.out.sm, hP.out.dom, hD.hg.trans hP.out.hg, by have := hP.out.hN; rw [hD.hN]; omega, by have := hP.out.hNM; omega, by have := hP.out.ser; have := hD.ser; omega, hP.out.bel.trans hD.bel⟩
        clear hD hP hc0
        go_wp2_with fail
        refine (alike_step hP6.out.front (by have := hP6.out.hN; omega) hP6.out.sm hP6.out.dom hP6.out.mp.map rfl).mono ?_
        rintro e w7 ⟨rfl, hb7⟩
        have hP7 := Lib.hid (hP6.out.below hb7 hP6.out.bel.size)
        clear hb7 hP6
        go_wp2_with fail
        exact ⟨⟨i + 1, S6, NM, M, by omega, by simp, rfl, hP7⟩, by simp [intOf]; omega⟩
      by_cases h6 : what = 6
      · subst h6
        clear hc1 hrow h5
        go_wp2_with fail
        refine (open_step (by omega) (by omega) (by rw [hhalf.out]; omega) hP.out.lw hP.out.mp hBs.out hP.out.hg).mono ?_
        rintro e w6 ⟨S6, rfl, hA⟩
        have hP6 : Hid (PlayL W.heap.size q.g mm W (i + 1) S6 NM M w6) := Lib.hid ⟨hA.lw, hA.mp, hA.hF.trans hP.out.hF, hP.out.sm, hP.out.dom, hA.hg.trans hP.out.hg, by have := hA.hN; rw [hhalf.out] at this; omega, by have := hP.out.hNM; omega, by have := hP.out.ser; have := hA.ser; omega, hP.out.bel.trans hA.bel⟩
        clear hA hP hc0
        go_wp2_with fail
        refine (alike_step hP6.out.front (by have := hP6.out.hN; omega) hP6.out.sm hP6.out.dom hP6.out.mp.map rfl).mono ?_
        rintro e w7 ⟨rfl, hb7⟩
        have hP7 := Lib.hid (hP6.out.below hb7 hP6.out.bel.size)
        clear hb7 hP6
        go_wp2_with fail
        exact ⟨⟨i + 1, S6, NM, M, by omega, by simp, rfl, hP7⟩, by simp [intOf]; omega⟩
      · have e5 : (what == 5) = false := by simpa using h5
        have e6 : (what == 6) = false := by simpa using h6
        go_wp2_with fail
        refine (pairs_step hP.out.lw hP.out.mp hBs.out i (by omega) a.A k a.c a.l hk.out.symm (by omega) hrow.out (by have := hP.out.hNM; omega)).mono ?_
        rintro e w6 ⟨A6, c6, rfl, hr6, hL6, hM6, hb6⟩
        replace hr6 := Lib.hid hr6
        replace hL6 := Lib.hid hL6
        replace hM6 := Lib.hid hM6
        have hB6 := Lib.hid (hP.out.bel.trans hb6)
        clear hb6 hrow hc0 hc1
        go_wp2_with fail
        refine (apply_step (by omega) (by omega) (by rw [hhalf.out]; omega) hL6.out hM6.out hB6.out.size (by have := hP.out.ser; omega) A6 k c6 (pairsF i a.l) (by rw [pairsF_length, hk.out]) hr6.out (pairsF_sm i a.l) (pairsF_key i a.l) (by have := hP.out.hN; omega) (by rw [hP.out.hF]; exact hP.out.sm) (by rw [hP.out.hF]; exact hP.out.dom)).mono ?_
        rintro e w7 ⟨rfl, S7, hD⟩
        rw [← hD.gs]
        have hP7 : Hid (PlayL W.heap.size q.g mm W (i + 1) S7 (NM + k) ((pairsF i a.l).foldl chg M) w7) := Lib.hid ⟨hD.lw, hD.mp, hD.hF.trans (by rw [hP.out.hF]), hP.out.sm.fold (pairsF_sm i a.l), hP.out.dom.fold (pairsF_key i a.l), hD.hg.trans hP.out.hg, by have := hP.out.hN; rw [hD.hN]; omega, by have := hP.out.hNM; omega, by have := hP.out.ser; have := hD.ser; omega, hB6.out.trans hD.bel⟩
        clear hD hP hL6 hM6 hr6 hB6
        generalize (pairsF i a.l).foldl chg M = M' at hP7
        go_wp2_with fail
        refine (alike_step hP7.out.front (by have := hP7.out.hN; omega) hP7.out.sm hP7.out.dom hP7.out.mp.map rfl).mono ?_
        rintro e w8 ⟨rfl, hb8⟩
        have hP8 := Lib.hid (hP7.out.below hb8 hP7.out.bel.size)
        clear hb8 hP7
        go_wp2_with fail
        exact ⟨⟨i + 1, S7, NM + k, M', by omega, by simp, rfl, hP8⟩, by simp [intOf]; omega⟩
    · obtain rfl : i = n := by omega
      have hii : ¬ (i : Int) < (i : Int) := by omega
      go_wp2_with fail
      refine (down_any wo hP.out.front).mono ?_
      rintro e w6 ⟨rfl, rfl⟩
      go_wp2_with fail
      go_ret
      exact ⟨rfl, hP.out.bel⟩
end Go.Proofs.YtelglbblgkhcmaaGreat
