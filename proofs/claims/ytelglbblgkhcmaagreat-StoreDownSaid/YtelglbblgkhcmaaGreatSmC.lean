/-
  The walk of StoreDown.
-/
import Derived.Test.YtelglbblgkhcmaaGreatSe
namespace Go.Proofs.YtelglbblgkhcmaaGreat
open Go.RowKit Go.Deep Go.Maps

set_option maxRecDepth 100000 in
set_option maxHeartbeats 8000000 in
theorem down5_walk (W : World) (v0 v1 v2 v3 : Value) (o0 : ArgOk 22 W v0) (o1 : ArgOk 22 W v1) (o2 : ArgOk 5 W v2) (o3 : ArgOk 59 W v3) : Calls Tryz.prog 7 #[v0, v1, v2, v3] W fun e W' => e = .returned (.bool true) ∧ Below W.heap.size W W' := by
  obtain ⟨A, n, c, la, rfl, hla, hnc, hcm, hra⟩ := o0.lps
  obtain ⟨A2, n2, c2, lb, rfl, hlb, hnc2, hcm2, hrb⟩ := o1.lps
  obtain ⟨ct, rfl, hct⟩ := o2.u8
  obtain ⟨kp, rfl, hkp⟩ := o3.u64
  unfold maxLen at hcm hcm2
  replace hla := Lib.hid hla
  replace hra := Lib.hid hra
  replace hlb := Lib.hid hlb
  replace hrb := Lib.hid hrb
  replace hkp := Lib.hid hkp
  have hmm := @run_makeMap Tryz.prog
  go_enter Tryz.func7, Tryz.ntmps7
  go_wp2_with fail
  refine (known5_any W).mono ?_
  rintro e w1 ⟨rfl, hb1⟩
  have hB1 := Lib.hid hb1
  clear hb1
  by_cases h10 : 10 < n
  · have h10i : (10 : Int) < (n : Int) := by omega
    go_wp2_with fail
    go_ret
    exact ⟨rfl, hB1.out⟩
  have h10i : ¬ (10 : Int) < (n : Int) := by omega
  by_cases h11 : 10 < n2
  · have h11i : (10 : Int) < (n2 : Int) := by omega
    go_wp2_with fail
    go_ret
    exact ⟨rfl, hB1.out⟩
  have h11i : ¬ (10 : Int) < (n2 : Int) := by omega
  by_cases h00 : n2 = 0
  · subst h00
    go_wp2_with fail
    go_ret
    exact ⟨rfl, hB1.out⟩
  have h00i : ((n2 : Int) == 0) = false := by simp; omega
  have hhalf : Hid (half 400 * 512 = 101888) := Lib.hid rfl
  go_wp2_with fail
  refine (newd_any w1 400 512 (by omega) (by omega) (by omega) (by omega)).mono ?_
  rintro e w2 ⟨q, rfl, hq, -, hb2, hlow⟩
  replace hq := Lib.hid hq
  have hqh : Hid (Hi W.heap.size q) := Lib.hid (fun x hx => Nat.le_trans hB1.out.size (hlow x hx))
  have hB2 := Lib.hid (hB1.out.trans (hb2.mono hB1.out.size))
  clear hlow hb2 hB1
  go_wp2_with fail
  refine (opennew5 (n := 400) (s := 512) (by omega) (by omega) hq.out).mono ?_
  rintro e w3 ⟨S, rfl, hO⟩
  obtain ⟨hb3, hl3⟩ := hO.low hB2.out.size hqh.out
  have hB3 := Lib.hid (hB2.out.trans hb3)
  have hL3 : Lw W.heap.size 400 512 S w3 := ⟨hO.live, hl3, hO.cut⟩
  have hM4 := Mp.new w3 hL3 hB3.out.size
  have hb4 := below_new w3 (.map #[] 0)
  obtain ⟨w4, hw4⟩ : ∃ x, x = w3.alloc (.map #[] 0) := ⟨_, rfl⟩
  obtain ⟨mm, hmm4⟩ : ∃ x, x = w3.heap.size := ⟨_, rfl⟩
  rw [← hw4, ← hmm4] at hM4
  rw [← hw4] at hb4
  have hL4 := Lib.hid (hL3.below hb4)
  have hB4 := Lib.hid (hB3.out.trans (hb4.mono hB3.out.size))
  have hS : Hid (S.F = (fun _ => none) ∧ S.l.serial = 0 ∧ S.N = 0 ∧ S.q.g = q.g) := Lib.hid ⟨hO.hF, hO.ser, hO.hN, hO.hg⟩
  replace hM4 := Lib.hid hM4
  clear hO hb3 hl3 hL3 hb4 hB2 hB3 hq hqh
  go_wp2_with fail
  rw [← hw4, ← hmm4]
  clear hw4 hmm4 hmm
  have hr4 : Hid (Row w4 w4.heap.size A (la.flatMap LP.cells)) := Lib.hid ((hra.out.below hB4.out).more hB4.out.size)
  refine (pairs_step hL4.out hM4.out hB4.out.size 1 (by omega) A n c la hla.out (by omega) hr4.out (by omega)).mono ?_
  rintro e w5 ⟨A5, c5, rfl, hr5, hL5, hM5, hb5⟩
  replace hr5 := Lib.hid hr5
  replace hL5 := Lib.hid hL5
  replace hM5 := Lib.hid hM5
  have hB5 := Lib.hid (hB4.out.trans hb5)
  clear hb5 hL4 hM4 hr4 hB4
  go_wp2_with fail
  refine (apply_step (by omega) (by omega) (by rw [hhalf.out]; omega) hL5.out hM5.out hB5.out.size (by rw [hS.out.2.1]; omega) A5 n c5 (pairsF 1 la) (by rw [pairsF_length, hla.out]) hr5.out (pairsF_sm 1 la) (pairsF_key 1 la) (by rw [hS.out.2.2.1]; omega) (by rw [hS.out.1]; exact FSm.none) (by rw [hS.out.1]; exact domF_none)).mono ?_
  rintro e w6 ⟨rfl, S6, hD⟩
  rw [hS.out.1, hS.out.2.2.1] at hD
  have hsm : Hid (FSm ((pairsF 1 la).foldl chg (fun _ => none)) ∧ DomF ((pairsF 1 la).foldl chg (fun _ => none))) := Lib.hid ⟨FSm.none.fold (pairsF_sm 1 la), domF_none.fold (pairsF_key 1 la)⟩
  obtain ⟨M, hMe⟩ : ∃ x, x = (pairsF 1 la).foldl chg (fun _ => none) := ⟨_, rfl⟩
  rw [← hMe] at hD hsm hM5
  clear hMe
  have hN6 : Hid (S6.N ≤ 10 ∧ S6.l.serial ≤ 2) := Lib.hid ⟨by rw [hD.hN]; omega, by have := hD.ser; rw [hS.out.2.1] at this; omega⟩
  have hB6 := Lib.hid (hB5.out.trans hD.bel)
  have hg6 : Hid (S6.q.g = q.g ∧ S6.gs = S.gs) := Lib.hid ⟨hD.hg.trans hS.out.2.2.2, hD.gs⟩
  have hF6 : Hid (S6.F = M) := Lib.hid hD.hF
  have hL6 := Lib.hid hD.lw
  have hM6 := Lib.hid hD.mp
  rw [← hg6.out.2]
  clear hL5 hM5 hr5 hB5 hS hD
  obtain ⟨S, hSe⟩ : ∃ x, x = S6 := ⟨_, rfl⟩
  rw [← hSe] at hN6 hg6 hF6 hL6 hM6 ⊢
  clear hSe
  go_wp2_with fail
  -- the map's copy
  refine (clone5_any w6 mm (0 + n) M hM6.out.map (by omega) hsm.out.1).mono ?_
  rintro e w7 ⟨mn, rfl, hmn, hMn, hb7⟩
  have hL7 := Lib.hid (hL6.out.below hb7)
  have hM7 := Lib.hid (hM6.out.below hb7)
  have hn7 : Hid (Mp W.heap.size S mn (0 + n) M w7) := Lib.hid ⟨hMn, fun hx => by have := hL6.out.live.lt _ hx; omega, Nat.le_trans hB6.out.size hmn⟩
  have hne : Hid (mn ≠ mm) := Lib.hid (by have := SMap.lt hM6.out.map; omega)
  have hB7 := Lib.hid (hB6.out.trans (hb7.mono hB6.out.size))
  clear hMn hmn hb7 hL6 hM6 hB6
  have h3t : (ct : Int).tmod 3 = ((ct % 3 : Nat) : Int) := by rw [Int.tmod_eq_emod_of_nonneg (by omega)]; omega
  have h3w : IntKind.i64.wrap ((ct % 3 : Nat) : Int) = ((ct % 3 : Nat) : Int) := IntWalk.i64_in _ (by omega)
  obtain ⟨ck, hck⟩ : ∃ x, x = ct % 3 := ⟨_, rfl⟩
  have hck2 : Hid (ck ≤ 2) := Lib.hid (by omega)
  rw [← hck] at h3t h3w
  clear hck
  go_wp2_with fail
  refine (cut_step hL7.out.live hg6.out.1 (ck : Int) (by have := hck2.out; omega)).mono ?_
  rintro e w8 ⟨rfl, q8, hU, hqg8⟩
  obtain ⟨S8, hS8⟩ : ∃ x : SR, x = ⟨S.gs, S.mb, S.N, S.F, S.l, q8, S.all⟩ := ⟨_, rfl⟩
  rw [← hS8] at hU
  have hL8 : Hid (LiveP 400 512 S8 w8) := Lib.hid hU.post
  have hM8 := Lib.hid (hM7.out.tch hU.tch (fun x hx => (hU.foot x hx).1))
  have hn8 := Lib.hid (hn7.out.tch hU.tch (fun x hx => (hU.foot x hx).1))
  obtain ⟨hb8, hl8⟩ := hU.low hB7.out.size hL7.out.low
  have hB8 := Lib.hid (hB7.out.trans hb8)
  have hk8 : Hid (S8.gs = S.gs ∧ S8.F = M ∧ S8.N ≤ 10 ∧ S8.l.serial ≤ 2 ∧ S8.q.g = q.g ∧ Low W.heap.size S8) := Lib.hid ⟨by rw [hS8], by rw [hS8]; exact hF6.out, by rw [hS8]; exact hN6.out.1, by rw [hS8]; exact hN6.out.2, by rw [hS8]; exact hqg8, hl8⟩
  rw [← hk8.out.1]
  clear hU hb8 hl8 hqg8 hS8 hL7 hM7 hn7 hB7 hF6 hN6 hg6 h3t h3w hck2
  go_wp2_with fail
  have hrb8 : Hid (Row w8 w8.heap.size A2 (lb.flatMap LP.cells)) := Lib.hid ((hrb.out.below hB8.out).more hB8.out.size)
  refine (pairs_live hL8.out hn8.out hB8.out.size 2 (by omega) A2 n2 c2 lb hlb.out (by omega) hrb8.out (by omega)).mono ?_
  rintro e w9 ⟨A9, c9, rfl, hr9, hL9, hn9, hW9, hb9⟩
  have hM9 : Hid (Mp W.heap.size S8 mm (0 + n) M w9) := Lib.hid ⟨SMap.loc hM8.out.map (hW9.block mm (SMap.lt hM8.out.map) (by have := hne.out; simp; omega)), hM8.out.off, hM8.out.low⟩
  replace hr9 := Lib.hid hr9
  replace hL9 := Lib.hid hL9
  replace hn9 := Lib.hid hn9
  have hB9 := Lib.hid (hB8.out.trans hb9)
  have hs2 : Hid (FSm ((pairsF 2 lb).foldl chg M) ∧ DomF ((pairsF 2 lb).foldl chg M)) := Lib.hid ⟨hsm.out.1.fold (pairsF_sm 2 lb), hsm.out.2.fold (pairsF_key 2 lb)⟩
  obtain ⟨M2, hM2⟩ : ∃ x, x = (pairsF 2 lb).foldl chg M := ⟨_, rfl⟩
  rw [← hM2] at hn9 hs2
  replace hM2 := Lib.hid hM2
  clear hW9 hb9 hL8 hM8 hn8 hB8 hrb8
  go_wp2_with fail
  refine (apply_any (n := 400) (s := 512) (by omega) (by omega) w9 S8 hL9.out (by have := hk8.out.2.2.2.1; omega) A9 n2 c9 (pairsF 2 lb) (by rw [pairsF_length, hlb.out]) hr9.out (pairsF_sm 2 lb) (by have := hk8.out.2.2.1; omega) (by rw [hk8.out.2.1]; exact hsm.out.1) (by rw [hk8.out.2.1, ← hM2.out]; exact fit_dom hs2.out.2 hs2.out.1 (by rw [hhalf.out]; omega))).mono ?_
  rintro e w10 hA
  rw [hk8.out.2.1, ← hM2.out] at hA
  unfold ApplyE at hA
  rcases hA with ⟨S', rfl, hU, hgs, hmb, hqg, hF2, hN2, hser, hcut⟩ | ⟨S', hcut, rfl, hU, hgs, hmb, hqg, hF2, hN2, hlx⟩
  · have hL10 : Hid (LiveP 400 512 S' w10) := Lib.hid hU.post
    have hn10 := Lib.hid (hn9.out.tch hU.tch (fun x hx => (hU.foot x hx).1))
    obtain ⟨hb10, hl10⟩ := hU.low hB9.out.size hk8.out.2.2.2.2.2
    have hB10 := Lib.hid (hB9.out.trans hb10)
    have hk10 : Hid (S'.gs = S8.gs ∧ S'.F = M2 ∧ S'.N ≤ 100000 ∧ S'.q.g = q.g ∧ Low W.heap.size S') := Lib.hid ⟨hgs, hF2, by have := hk8.out.2.2.1; omega, hqg.trans hk8.out.2.2.2.2.1, hl10⟩
    rw [← hgs]
    clear hU hgs hmb hqg hF2 hN2 hser hcut hb10 hl10 hL9 hM9 hn9 hB9 hr9 hk8 hM2
    go_wp2_with fail
    have hfr : Front S'.gs S'.l.g S'.mb S'.N M2 false w10 := by have := hL10.out.fr; unfold SR.front at this; rw [hk10.out.2.1] at this; exact this
    refine (alike_step hfr hk10.out.2.2.1 hs2.out.1 hs2.out.2 hn10.out.map rfl).mono ?_
    clear hfr
    rintro e w11 ⟨rfl, hb11⟩
    have hL11 := Lib.hid (hL10.out.below hb11)
    have hn11 := Lib.hid (hn10.out.below hb11)
    have hB11 := Lib.hid (hB10.out.trans (hb11.mono hB10.out.size))
    clear hb11 hL10 hn10 hB10
    go_wp2_with fail
    refine (crash_live hL11.out hk10.out.2.2.2.1 M2 kp hkp.out (-1) 0 (by omega)).mono ?_
    rintro e w12 ⟨rfl, q2, hR⟩
    rw [hk10.out.2.1] at hR
    replace hR := Lib.hid hR
    go_wp2_with fail
    refine (open_ready (by omega) (by omega) (by rw [hhalf.out]; omega) hR.out hk10.out.2.2.2.1).mono ?_
    rintro e w13 ⟨T, rfl, hT, hF, hN, ht⟩
    have hn13 : Hid (SMapT w13 mn (0 + n + n2) M2) := Lib.hid (SMap.loc hn11.out.map (hR.out.keep ht (SMap.lt hn11.out.map) (fun e => hn11.out.off (.inr (.inr (.inr e))))))
    have hB13 := Lib.hid (hB11.out.trans (hR.out.below ht hB11.out.size (fun x hx => hk10.out.2.2.2.2 x (.inr (.inr (.inr hx))))))
    have hfr : Hid (Front T.gs T.l.g T.mb T.N M2 false w13) := Lib.hid (by have := hT.fr; unfold SR.front at this; rcases hF with hF | hF <;> rw [hF] at this <;> exact this)
    have hTN : Hid (T.N ≤ 100000) := Lib.hid (by rw [hhalf.out] at hN; omega)
    clear hT hF hN ht hR hL11 hn11 hB11 hk10
    go_wp2_with fail
    refine (alike_step hfr.out hTN.out hs2.out.1 hs2.out.2 hn13.out rfl).mono ?_
    rintro e w14 ⟨rfl, hb14⟩
    have hB14 := Lib.hid (hB13.out.trans (hb14.mono hB13.out.size))
    clear hb14 hB13 hn13 hfr
    go_wp2_with fail
    go_ret
    exact ⟨rfl, hB14.out⟩
  · have hlt10 : Hid (∀ x, S'.Fp x → x < w10.heap.size) := Lib.hid (fun x hx => (hU.foot x hx).2)
    have hD10 : Hid (DeadP 400 512 S' M2 w10) := Lib.hid hU.post
    have hn10 := Lib.hid (hn9.out.tch hU.tch (fun x hx => (hU.foot x hx).1))
    have hM10 := Lib.hid (hM9.out.tch hU.tch (fun x hx => (hU.foot x hx).1))
    obtain ⟨hb10, hl10⟩ := hU.lowD hB9.out.size hk8.out.2.2.2.2.2
    have hB10 := Lib.hid (hB9.out.trans hb10)
    have hk10 : Hid (S'.F = M ∧ S'.N ≤ 100000 ∧ S'.q.g = q.g ∧ Low W.heap.size S') := Lib.hid ⟨hF2.trans hk8.out.2.1, by have := hk8.out.2.2.1; omega, hqg.trans hk8.out.2.2.2.2.1, hl10⟩
    rw [← hgs]
    clear hU hgs hmb hqg hF2 hN2 hlx hcut hb10 hl10 hL9 hM9 hn9 hB9 hr9 hk8 hM2
    have hfr10 : Hid (Front S'.gs S'.l.g S'.mb S'.N M true w10) := Lib.hid (by have := hD10.out.fr; unfold SR.front at this; rw [hk10.out.1] at this; exact this)
    go_wp2_with fail
    refine (down_any w10 hfr10.out).mono ?_
    rintro e w11 ⟨rfl, hw11⟩
    subst hw11
    go_wp2_with fail
    refine (alike_step hfr10.out hk10.out.2.1 hsm.out.1 hsm.out.2 hM10.out.map rfl).mono ?_
    rintro e w12 ⟨rfl, hb12⟩
    have hb13 := below_new w12 (.cells #[.string ⟨#[97]⟩, .string ⟨#[]⟩, .bool false] 41)
    obtain ⟨w13, hw13⟩ : ∃ x, x = w12.alloc (.cells #[.string ⟨#[97]⟩, .string ⟨#[]⟩, .bool false] 41) := ⟨_, rfl⟩
    rw [← hw13] at hb13
    have hbx := hb12.trans (hb13.mono hb12.size)
    have hfr13 := Lib.hid (hfr10.out.below hbx)
    have hn13 := Lib.hid (hn10.out.below hbx)
    have hM13 := Lib.hid (hM10.out.below hbx)
    have hB13 := Lib.hid (hB10.out.trans (hbx.mono hB10.out.size))
    have hD13 : Hid (DeadP 400 512 S' M2 w13) := Lib.hid (hD10.out.loc fun x hx => hbx.block x (hlt10.out x hx))
    have hlt13 : Hid (∀ x, S'.Fp x → x < w13.heap.size) := Lib.hid (fun x hx => Nat.lt_of_lt_of_le (hlt10.out x hx) hbx.size)
    clear hb12 hb13 hbx hfr10 hn10 hM10 hB10 hD10 hlt10
    go_wp2_with fail
    rw [← hw13]
    clear hw13
    refine (apply_dead w13 hfr13.out _).mono ?_
    rintro e w14 ⟨rfl, hw14⟩
    subst hw14
    go_wp2_with fail
    refine (alike_step hfr13.out hk10.out.2.1 hsm.out.1 hsm.out.2 hM13.out.map rfl).mono ?_
    rintro e w15 ⟨rfl, hb15⟩
    have hn15 := Lib.hid (hn13.out.below hb15)
    have hM15 := Lib.hid (hM13.out.below hb15)
    have hB15 := Lib.hid (hB13.out.trans (hb15.mono hB13.out.size))
    have hD15 : Hid (DeadP 400 512 S' M2 w15) := Lib.hid (hD13.out.loc fun x hx => hb15.block x (hlt13.out x hx))
    clear hb15 hfr13 hn13 hM13 hB13 hD13 hlt13
    go_wp2_with fail
    refine (crash_dead hD15.out hk10.out.2.2.1 kp hkp.out (-1) 0 (by omega)).mono ?_
    rintro e w16 ⟨rfl, q2, hR⟩
    rw [hk10.out.1] at hR
    replace hR := Lib.hid hR
    go_wp2_with fail
    refine (open_ready (by omega) (by omega) (by rw [hhalf.out]; omega) hR.out hk10.out.2.2.1).mono ?_
    rintro e w17 ⟨T, rfl, hT, hF, hN, ht⟩
    have hn17 : Hid (SMapT w17 mn (0 + n + n2) M2) := Lib.hid (SMap.loc hn15.out.map (hR.out.keep ht (SMap.lt hn15.out.map) (fun e => hn15.out.off (.inr (.inr (.inr e))))))
    have hM17 : Hid (SMapT w17 mm (0 + n) M) := Lib.hid (SMap.loc hM15.out.map (hR.out.keep ht (SMap.lt hM15.out.map) (fun e => hM15.out.off (.inr (.inr (.inr e))))))
    have hB17 := Lib.hid (hB15.out.trans (hR.out.below ht hB15.out.size (fun x hx => hk10.out.2.2.2 x (.inr (.inr (.inr hx))))))
    have hTN : Hid (T.N ≤ 100000) := Lib.hid (by rw [hhalf.out] at hN; omega)
    have hfr0 : Hid (Front T.gs T.l.g T.mb T.N T.F false w17) := Lib.hid hT.fr
    clear hT hN ht hR hn15 hM15 hB15 hD15 hk10
    rcases hF with hF | hF
    · rw [hF] at hfr0
      clear hF
      go_wp2_with fail
      refine (alike_any w17 hfr0.out hTN.out hsm.out.1 hsm.out.2 hn17.out hs2.out.1).mono ?_
      rintro e w18 ⟨rfl, hb18⟩
      have hfr18 := Lib.hid (hfr0.out.below hb18)
      have hM18 : Hid (SMapT w18 mm (0 + n) M) := Lib.hid (SMap.loc hM17.out (hb18.block mm (SMap.lt hM17.out)))
      have hB18 := Lib.hid (hB17.out.trans (hb18.mono hB17.out.size))
      clear hb18 hfr0 hn17 hM17 hB17
      cases decide (sameK M M2 7) with
      | true =>
        go_wp2_with fail
        go_ret
        exact ⟨rfl, hB18.out⟩
      | false =>
        go_wp2_with fail
        refine (alike_step hfr18.out hTN.out hsm.out.1 hsm.out.2 hM18.out rfl).mono ?_
        rintro e w19 ⟨rfl, hb19⟩
        have hB19 := Lib.hid (hB18.out.trans (hb19.mono hB18.out.size))
        clear hb19 hfr18 hM18 hB18
        go_wp2_with fail
        go_ret
        exact ⟨rfl, hB19.out⟩
    · rw [hF] at hfr0
      clear hF
      go_wp2_with fail
      refine (alike_step hfr0.out hTN.out hs2.out.1 hs2.out.2 hn17.out rfl).mono ?_
      rintro e w18 ⟨rfl, hb18⟩
      have hB18 := Lib.hid (hB17.out.trans (hb18.mono hB17.out.size))
      clear hb18 hfr0 hn17 hM17 hB17
      go_wp2_with fail
      go_ret
      exact ⟨rfl, hB18.out⟩
end Go.Proofs.YtelglbblgkhcmaaGreat
