/-
  The walk of StoreFalls.
-/
import Derived.Test.YtelglbblgkhcmaaGreatSe
namespace Go.Proofs.YtelglbblgkhcmaaGreat
open Go.RowKit Go.Deep Go.Maps

/-- The state of the script: a store that stands, or one that is down. -/
structure FallL (B gs gd mm mo : Nat) (W : World) (i : Nat) (S : SR) (NM NO : Nat) (M Was : ByteArray → Option ByteArray) (dn : Bool) (w : World) : Prop where
  fr : Front gs S.l.g S.mb S.N S.F dn w
  lt : ∀ x, S.Fp x → x < w.heap.size
  live : dn = false → LiveP 400 512 S w ∧ S.F = M
  dead : dn = true → DeadP 400 512 S M w ∧ S.F = Was ∧ Mp B S mo NO Was w
  mp : Mp B S mm NM M w
  sm : FSm M ∧ DomF M
  sf : FSm S.F ∧ DomF S.F
  hgs : S.gs = gs
  hg : S.q.g = gd
  low : Low B S
  hN : S.N ≤ 5 * i
  hNM : NM ≤ 5 * i
  hNO : NO ≤ 100000
  ser : S.l.serial ≤ 2 * i
  bel : Below B W w
section
variable {B gs gd mm mo i NM NO : Nat} {W w w' : World} {S : SR} {M Was : ByteArray → Option ByteArray} {dn : Bool}
theorem FallL.below (h : FallL B gs gd mm mo W i S NM NO M Was dn w) (hb : Below w.heap.size w w') (hB : B ≤ W.heap.size) : FallL B gs gd mm mo W i S NM NO M Was dn w' :=
  ⟨h.fr.below hb, fun x hx => Nat.lt_of_lt_of_le (h.lt x hx) hb.size, fun e => ⟨(h.live e).1.below hb, (h.live e).2⟩, fun e => ⟨(h.dead e).1.loc fun x hx => hb.block x (h.lt x hx), (h.dead e).2.1, (h.dead e).2.2.below hb⟩, h.mp.below hb, h.sm, h.sf, h.hgs, h.hg, h.low, h.hN, h.hNM, h.hNO, h.ser, h.bel.trans (hb.mono (Nat.le_trans hB h.bel.size))⟩
theorem LiveP.fr5 {F : ByteArray → Option ByteArray} (h : LiveP 400 512 S w) (hg : S.gs = gs) (hF : S.F = F) : Front gs S.l.g S.mb S.N F false w := by
  have := h.fr
  unfold SR.front at this
  rw [hg, hF] at this
  exact this
end
set_option maxRecDepth 100000 in
set_option maxHeartbeats 16000000 in
theorem falls5_walk (W : World) (v0 v1 v2 v3 v4 : Value) (o0 : ArgOk 48 W v0) (o1 : ArgOk 5 W v1) (o2 : ArgOk 59 W v2) (o3 : ArgOk 3 W v3) (o4 : ArgOk 3 W v4) : Calls Tryz.prog 8 #[v0, v1, v2, v3, v4] W fun e W' => e = .returned (.bool true) ∧ Below W.heap.size W W' := by
  obtain ⟨A, n, c, l, rfl, hl, hnc, hcm, hacts⟩ := o0.acts5
  obtain ⟨ct, rfl, hct⟩ := o1.u8
  obtain ⟨kp, rfl, hkp⟩ := o2.u64
  obtain ⟨torn, rfl, ht1, ht2⟩ := o3.int
  obtain ⟨at_, rfl, ha1, ha2⟩ := o4.int
  have hcm' := hcm
  unfold maxLen at hcm
  replace hl := Lib.hid hl
  replace hacts := Lib.hid hacts
  replace hkp := Lib.hid hkp
  have htn : Hid (-9223372036854775808 ≤ torn ∧ torn ≤ 9223372036854775807) := Lib.hid ⟨ht1, ht2⟩
  clear ht1 ht2 ha1 ha2
  have hmm := @run_makeMap Tryz.prog
  go_enter Tryz.func8, Tryz.ntmps8
  go_wp2_with fail
  refine (known5_any W).mono ?_
  rintro e w1 ⟨rfl, hb1⟩
  have hB1 := Lib.hid hb1
  clear hb1
  go_wp2_with fail
  refine (light5_any W w1 hB1.out A n c l hl.out (Nat.le_trans hnc hcm') hacts.out).mono ?_
  rintro e w2 ⟨rfl, hb2⟩
  have hB2 := Lib.hid (hB1.out.trans (hb2.mono hB1.out.size))
  clear hb2 hB1 hcm'
  cases hlt : lightS l with
  | false =>
    clear hlt
    go_wp2_with fail
    go_ret
    exact ⟨rfl, hB2.out⟩
  | true =>
    have hln := lightS_lens hlt
    have hn30 : n ≤ 30 := by rw [← hl.out]; exact hln.1
    have hl5 := Lib.hid hln.2
    clear hlt hln
    have hhalf : Hid (half 400 * 512 = 101888) := Lib.hid rfl
    go_wp2_with fail
    refine (newd_any w2 400 512 (by omega) (by omega) (by omega) (by omega)).mono ?_
    rintro e w3 ⟨q, rfl, hq, -, hb3, hlow⟩
    replace hq := Lib.hid hq
    have hqh : Hid (Hi W.heap.size q) := Lib.hid (fun x hx => Nat.le_trans hB2.out.size (hlow x hx))
    have hB3 := Lib.hid (hB2.out.trans (hb3.mono hB2.out.size))
    clear hlow hb3 hB2
    go_wp2_with fail
    refine (opennew5 (n := 400) (s := 512) (by omega) (by omega) hq.out).mono ?_
    rintro e w4 ⟨S, rfl, hO⟩
    obtain ⟨hb4, hl4⟩ := hO.low hB3.out.size hqh.out
    have hB4 := Lib.hid (hB3.out.trans hb4)
    have hL4 : Hid (LiveP 400 512 S w4) := Lib.hid hO.live
    have hS : Hid (S.F = (fun _ => none) ∧ S.l.serial = 0 ∧ S.N = 0 ∧ S.q.g = q.g ∧ Low W.heap.size S) := Lib.hid ⟨hO.hF, hO.ser, hO.hN, hO.hg, hl4⟩
    clear hO hb4 hl4 hB3 hq hqh
    have h3t : (ct : Int).tmod 60 = ((ct % 60 : Nat) : Int) := by rw [Int.tmod_eq_emod_of_nonneg (by omega)]; omega
    have h3w : IntKind.i64.wrap ((ct % 60 : Nat) : Int) = ((ct % 60 : Nat) : Int) := IntWalk.i64_in _ (by omega)
    obtain ⟨ck, hck⟩ : ∃ x, x = ct % 60 := ⟨_, rfl⟩
    have hck2 : Hid (ck ≤ 60) := Lib.hid (by omega)
    rw [← hck] at h3t h3w
    clear hck
    go_wp2_with fail
    refine (cut_step hL4.out hS.out.2.2.2.1 (ck : Int) (by have := hck2.out; omega)).mono ?_
    rintro e w5 ⟨rfl, q5, hU, hqg5⟩
    obtain ⟨S5, hS5⟩ : ∃ x : SR, x = ⟨S.gs, S.mb, S.N, S.F, S.l, q5, S.all⟩ := ⟨_, rfl⟩
    rw [← hS5] at hU
    obtain ⟨hb5, hl5'⟩ := hU.low hB4.out.size hS.out.2.2.2.2
    have hB5 := hB4.out.trans hb5
    have hL5 : LiveP 400 512 S5 w5 := hU.post
    have hk5 : S5.gs = S.gs ∧ S5.F = (fun _ => none) ∧ S5.N = 0 ∧ S5.l.serial = 0 ∧ S5.q.g = q.g := ⟨by rw [hS5], by rw [hS5]; exact hS.out.1, by rw [hS5]; exact hS.out.2.2.1, by rw [hS5]; exact hS.out.2.1, by rw [hS5]; exact hqg5⟩
    have hm1 : SMapT (w5.alloc (.map #[] 0)) w5.heap.size 0 (fun _ => none) := SMap.made w5
    have hz1 : (w5.alloc (.map #[] 0)).heap.size = w5.heap.size + 1 := by simp
    have hb6 := below_new w5 (.map #[] 0)
    have hb7 := below_new (w5.alloc (.map #[] 0)) (.map #[] 0)
    have hbz := hb6.trans (hb7.mono hb6.size)
    obtain ⟨w6, hw6⟩ : ∃ x, x = (w5.alloc (.map #[] 0)).alloc (.map #[] 0) := ⟨_, rfl⟩
    have hm6 : SMapT w6 w5.heap.size 0 (fun _ => none) := by rw [hw6]; exact SMap.loc hm1 (hb7.block _ (SMap.lt hm1))
    rw [← hw6] at hbz
    obtain ⟨mm, hmm4⟩ : ∃ x, x = w5.heap.size := ⟨_, rfl⟩
    obtain ⟨mo, hmo4⟩ : ∃ x, x = mm + 1 := ⟨_, rfl⟩
    rw [← hmm4] at hm6
    have hP6 : Hid (FallL W.heap.size S.gs q.g mm mo W 0 S5 0 0 (fun _ => none) (fun _ => none) false w6) := Lib.hid ⟨(hL5.below hbz).fr5 hk5.1 rfl, fun x hx => Nat.lt_of_lt_of_le (hL5.lt x hx) hbz.size, fun _ => ⟨hL5.below hbz, hk5.2.1⟩, (fun e => by cases e), ⟨hm6, fun hx => by have := hL5.lt _ hx; omega, by have := hB5.size; omega⟩, ⟨FSm.none, domF_none⟩, by rw [hk5.2.1]; exact ⟨FSm.none, domF_none⟩, hk5.1, hk5.2.2.2.2, hl5', by rw [hk5.2.2.1]; omega, by omega, by omega, by rw [hk5.2.2.2.1]; omega, hB5.trans (hbz.mono hB5.size)⟩
    obtain ⟨gs, hgse⟩ : ∃ x, x = S.gs := ⟨_, rfl⟩
    rw [← hgse] at hP6 ⊢
    clear hgse hU hqg5 hS5 hb5 hl5' hB5 hL5 hk5 hm1 hb6 hb7 hbz hm6 hS hL4 hB4 h3t h3w hck2
    go_wp2_with fail
    rw [← hmm4, ← hmo4, ← hw6]
    clear hw6 hmm4 hmo4 hz1 hmm
    go_loopw [15, 16] (fun ov iv wr => ∃ (i mo : Nat) (S : SR) (NM NO : Nat) (M Was : ByteArray → Option ByteArray) (dn : Bool), i ≤ n ∧ iv = .int .i64 i ∧ ov = .map (some mo) ∧ Hid (FallL W.heap.size gs q.g mm mo W i S NM NO M Was dn wr)) (fun _ iv _ => n - (intOf iv).toNat)
    case atStart => exact ⟨0, mo, S5, 0, 0, _, _, false, by omega, rfl, rfl, hP6⟩
    clear hP6
    obtain ⟨i, mo, S, NM, NO, M, Was, dn, hi, rfl, rfl, hP⟩ := hrel
    rename World => wo
    by_cases hin : i < n
    · have hil : i < l.length := by rw [hl.out]; exact hin
      have hii : (i : Int) < (n : Int) := by omega
      cases dn
      case true =>
        go_wp2_with fail
        refine (down_any wo hP.out.fr).mono ?_
        rintro e wz ⟨rfl, hwz⟩
        subst hwz
        go_wp2_with fail
        refine (down_any _ hP.out.fr).mono ?_
        rintro e wy ⟨rfl, hwy⟩
        subst hwy
        go_wp2_with fail
        refine (crash_dead (hP.out.dead rfl).1 hP.out.hg kp hkp.out torn at_ htn.out).mono ?_
        rintro e w16 ⟨rfl, q2, hR⟩
        replace hR := Lib.hid hR

        go_wp2_with fail
        refine (open_ready (by omega) (by omega) (by rw [hhalf.out]; omega) hR.out hP.out.hg).mono ?_
        rintro e wt ⟨T, rfl, hT, hF, hN, ht⟩
        have hB17 := Lib.hid (hP.out.bel.trans (hR.out.below ht hP.out.bel.size (fun x hx => hP.out.low x (.inr (.inr (.inr hx))))))
        have hM17 : Hid (SMapT wt mm NM M) := Lib.hid (SMap.loc hP.out.mp.map (hR.out.keep ht (SMap.lt hP.out.mp.map) (fun e => hP.out.mp.off (.inr (.inr (.inr e))))))
        have hTN : Hid (T.N ≤ 100000) := Lib.hid (by rw [hhalf.out] at hN; omega)
        have hfr0 : Hid (Front T.gs T.l.g T.mb T.N T.F false wt) := Lib.hid hT.fr

        have hW17 : Hid (SMapT wt mo NO Was) := Lib.hid (SMap.loc (hP.out.dead rfl).2.2.map (hR.out.keep ht (SMap.lt (hP.out.dead rfl).2.2.map) (fun e => (hP.out.dead rfl).2.2.off (.inr (.inr (.inr e))))))
        have hWs : Hid (FSm Was ∧ DomF Was) := Lib.hid (by have := hP.out.sf; rw [(hP.out.dead rfl).2.1] at this; exact this)
        rw [(hP.out.dead rfl).2.1] at hF
        clear hT hN ht hR

        go_wp2_with fail
        refine (down_any wt hfr0.out).mono ?_
        rintro e wz2 ⟨rfl, hwz2⟩
        subst hwz2

        rcases hF with hF | hF
        · rw [hF] at hfr0
          clear hF
          go_wp2_with fail
          refine (alike_any wz2 hfr0.out hTN.out hWs.out.1 hWs.out.2 hM17.out hP.out.sm.1).mono ?_
          rintro e w18 ⟨rfl, hb18⟩
          have hfr18 := Lib.hid (hfr0.out.below hb18)
          have hW18 : Hid (SMapT w18 mo NO Was) := Lib.hid (SMap.loc hW17.out (hb18.block mo (SMap.lt hW17.out)))
          have hB18 := Lib.hid (hB17.out.trans (hb18.mono hB17.out.size))
          clear hb18 hfr0 hM17 hW17 hB17
          cases decide (sameK Was M 7) with
          | true =>
            go_wp2_with fail
            go_ret
            exact ⟨rfl, hB18.out⟩
          | false =>
            go_wp2_with fail
            refine (alike_step hfr18.out hTN.out hWs.out.1 hWs.out.2 hW18.out rfl).mono ?_
            rintro e w19 ⟨rfl, hb19⟩
            have hB19 := Lib.hid (hB18.out.trans (hb19.mono hB18.out.size))
            clear hb19 hfr18 hW18 hB18
            go_wp2_with fail
            go_ret
            exact ⟨rfl, hB19.out⟩
        · rw [hF] at hfr0
          clear hF hW17
          go_wp2_with fail
          refine (alike_step hfr0.out hTN.out hP.out.sm.1 hP.out.sm.2 hM17.out rfl).mono ?_
          rintro e wu ⟨rfl, hb18⟩
          have hB18 := Lib.hid (hB17.out.trans (hb18.mono hB17.out.size))
          clear hb18 hB17 hM17 hfr0
          go_wp2_with fail
          go_ret
          exact ⟨rfl, hB18.out⟩
      case false =>
        have hiw : IntKind.i64.wrap ((i : Int) + 1) = ((i + 1 : Nat) : Int) := by rw [IntWalk.i64_in _ (by omega)]; omega
        go_wp2_with fail
        refine (down_any wo hP.out.fr).mono ?_
        rintro e wz ⟨rfl, hwz⟩
        subst hwz
        go_wp2_with fail
        refine (clone5_any wz mm NM M hP.out.mp.map (by have := hP.out.hNM; omega) hP.out.sm.1).mono ?_
        rintro e w7 ⟨mo', rfl, hmo, hMo, hb7⟩
        have hO7 : Hid (Mp W.heap.size S mo' NM M w7) := Lib.hid ⟨hMo, fun hx => by have := hP.out.lt _ hx; omega, Nat.le_trans hP.out.bel.size hmo⟩
        have hne : Hid (mo' ≠ mm) := Lib.hid (by have := SMap.lt hP.out.mp.map; omega)
        have hP7 := Lib.hid (hP.out.below hb7 (Nat.le_refl _))
        clear hMo hmo hb7 hP
        obtain ⟨b, off, rfl, hc0, hc1, hrow⟩ := hacts.out.at_ hP7.out.bel hil
        obtain ⟨a, haa⟩ : ∃ a, a = l[i] := ⟨_, rfl⟩
        have hal := hl5.out l[i] (List.getElem_mem hil)
        rw [← haa] at hc0 hc1 hrow hal
        have hrow := Lib.hid hrow
        clear haa
        obtain ⟨k, hk⟩ : ∃ k, k = a.l.length := ⟨_, rfl⟩
        rw [← hk] at hc1 hal
        replace hk := Lib.hid hk
        obtain ⟨what, hwh⟩ : ∃ x, x = a.what := ⟨_, rfl⟩
        rw [← hwh] at hc0
        clear hwh
        have hLF := Lib.hid (hP7.out.live rfl)
        have hgs' := hP7.out.hgs
        by_cases h5 : what = 5
        · subst h5
          clear hc1 hrow
          go_wp2_with fail
          have hcp := compact_any (n := 400) (s := 512) (by omega) (by omega) w7 S hLF.out.1 (by have := hP7.out.ser; omega) (by have := hP7.out.hN; omega) hP7.out.sf.1 (fit_dom hP7.out.sf.2 hP7.out.sf.1 (by rw [hhalf.out]; omega))
          rw [hgs'] at hcp
          refine hcp.mono ?_
          clear hcp
          rintro e w9 hA
          have hM8 := Lib.hid hP7.out.mp
          have hO8 := hO7
          have hB8 := Lib.hid hP7.out.bel
          have hF8 : Hid (S.F = M ∧ FSm M ∧ DomF M) := Lib.hid ⟨hLF.out.2, hP7.out.sm⟩
          rw [hF8.out.1] at hA
          have hcn : Hid (S.N ≤ 5 * i ∧ NM ≤ 5 * i ∧ S.l.serial ≤ 2 * i ∧ S.q.g = q.g ∧ Low W.heap.size S ∧ S.gs = gs) := Lib.hid ⟨hP7.out.hN, hP7.out.hNM, hP7.out.ser, hP7.out.hg, hP7.out.low, hgs'⟩
          clear hP7 hc0 hLF hgs' hO7
          unfold ApplyE at hA
          rcases hA with ⟨S', rfl, hU, hgs, hmb, hqg, hF2, hN2, hser, hcut⟩ | ⟨S', hcut, rfl, hU, hgs, hmb, hqg, hF2, hN2, hlx⟩
          · obtain ⟨hb9, hl9⟩ := hU.low hB8.out.size hcn.out.2.2.2.2.1
            have hP9 : Hid (FallL W.heap.size gs q.g mm mo' W (i + 1) S' (NM) NM M M false w9) := Lib.hid ⟨hU.post.fr5 (hgs.trans hcn.out.2.2.2.2.2) rfl, fun x hx => (hU.foot x hx).2, fun _ => ⟨hU.post, hF2⟩, (fun e => by cases e), hM8.out.tch hU.tch (fun x hx => (hU.foot x hx).1), hF8.out.2, by rw [hF2]; exact hF8.out.2, hgs.trans hcn.out.2.2.2.2.2, hqg.trans hcn.out.2.2.2.1, hl9, by have := hcn.out.1; omega, by have := hcn.out.2.1; omega, by have := hcn.out.2.1; omega, by have := hcn.out.2.2.1; omega, hB8.out.trans hb9⟩
            clear hU hgs hmb hqg hF2 hN2 hser hcut hb9 hl9 hM8 hO8 hB8 hF8 hcn
            go_wp2_with fail
            refine (down_any w9 hP9.out.fr).mono ?_
            rintro e wy ⟨rfl, hwy⟩
            subst hwy
            go_wp2_with fail
            exact ⟨⟨i + 1, mo', S', _, NM, _, M, false, by omega, by simp, rfl, hP9⟩, by simp [intOf]; omega⟩
          · obtain ⟨hb9, hl9⟩ := hU.lowD hB8.out.size hcn.out.2.2.2.2.1
            have hP9 : Hid (FallL W.heap.size gs q.g mm mo' W (i + 1) S' (NM) NM M M true w9) := Lib.hid ⟨by have := hU.post.fr; unfold SR.front at this; rw [hgs.trans hcn.out.2.2.2.2.2] at this; exact this, fun x hx => (hU.foot x hx).2, (fun e => by cases e), fun _ => ⟨hU.post, hF2.trans hF8.out.1, hO8.out.tch hU.tch (fun x hx => (hU.foot x hx).1)⟩, hM8.out.tch hU.tch (fun x hx => (hU.foot x hx).1), hF8.out.2, by rw [hF2, hF8.out.1]; exact hF8.out.2, hgs.trans hcn.out.2.2.2.2.2, hqg.trans hcn.out.2.2.2.1, hl9, by have := hcn.out.1; omega, by have := hcn.out.2.1; omega, by have := hcn.out.2.1; omega, by have := hcn.out.2.2.1; rw [hlx]; omega, hB8.out.trans hb9⟩
            have hFS : Hid (S'.F = M ∧ FSm M ∧ DomF M) := Lib.hid ⟨hF2.trans hF8.out.1, hF8.out.2⟩
            clear hU hgs hmb hqg hF2 hN2 hlx hcut hb9 hl9 hM8 hO8 hB8 hF8 hcn
            go_wp2_with fail
            refine (down_any w9 hP9.out.fr).mono ?_
            rintro e wy ⟨rfl, hwy⟩
            subst hwy
            have hfr9 : Hid (Front gs S'.l.g S'.mb S'.N M true wy) := Lib.hid (by have := hP9.out.fr; rw [hFS.out.1] at this; exact this)
            go_wp2_with fail
            refine (alike_step hfr9.out (by have := hP9.out.hN; omega) hFS.out.2.1 hFS.out.2.2 (hP9.out.dead rfl).2.2.map rfl).mono ?_
            rintro e w10 ⟨rfl, hb10⟩
            have hP10 := Lib.hid (hP9.out.below hb10 (Nat.le_refl _))
            clear hb10 hP9 hfr9
            go_wp2_with fail
            refine (apply_dead w10 hP10.out.fr _).mono ?_
            rintro e wx ⟨rfl, hwx⟩
            subst hwx
            go_wp2_with fail
            refine (compact_dead wx hP10.out.fr).mono ?_
            rintro e wv ⟨rfl, hwv⟩
            subst hwv
            go_wp2_with fail
            exact ⟨⟨i + 1, mo', S', _, NM, _, M, true, by omega, by simp, rfl, hP10⟩, by simp [intOf]; omega⟩
        · have e5 : (what == 5) = false := by simpa using h5
          go_wp2_with fail
          refine (pairs_live hLF.out.1 hP7.out.mp hP7.out.bel.size i (by omega) a.A k a.c a.l hk.out.symm (by omega) hrow.out (by have := hP7.out.hNM; omega)).mono ?_
          rintro e w8 ⟨A8, c8, rfl, hr8, hL8, hM8, hW8, hb8⟩
          replace hr8 := Lib.hid hr8
          replace hL8 := Lib.hid hL8
          replace hM8 := Lib.hid hM8
          have hO8 : Hid (Mp W.heap.size S mo' NM M w8) := Lib.hid ⟨SMap.loc hO7.out.map (hW8.block mo' (SMap.lt hO7.out.map) (by have := hne.out; simp; omega)), hO7.out.off, hO7.out.low⟩
          have hB8 := Lib.hid (hP7.out.bel.trans hb8)
          have hF8 : Hid (S.F = M ∧ FSm M ∧ DomF M) := Lib.hid ⟨hLF.out.2, hP7.out.sm⟩
          have hcn : Hid (S.N ≤ 5 * i ∧ NM ≤ 5 * i ∧ S.l.serial ≤ 2 * i ∧ S.q.g = q.g ∧ Low W.heap.size S ∧ S.gs = gs) := Lib.hid ⟨hP7.out.hN, hP7.out.hNM, hP7.out.ser, hP7.out.hg, hP7.out.low, hgs'⟩
          clear hW8 hb8 hP7 hLF hgs' hO7 hrow hc0 hc1
          have hs2 : Hid (FSm ((pairsF i a.l).foldl chg M) ∧ DomF ((pairsF i a.l).foldl chg M)) := Lib.hid ⟨hF8.out.2.1.fold (pairsF_sm i a.l), hF8.out.2.2.fold (pairsF_key i a.l)⟩
          go_wp2_with fail
          have hap := apply_any (n := 400) (s := 512) (by omega) (by omega) w8 S hL8.out (by have := hcn.out.2.2.1; omega) A8 k c8 (pairsF i a.l) (by rw [pairsF_length, hk.out]) hr8.out (pairsF_sm i a.l) (by have := hcn.out.1; omega) (by rw [hF8.out.1]; exact hF8.out.2.1) (by rw [hF8.out.1]; exact fit_dom hs2.out.2 hs2.out.1 (by rw [hhalf.out]; omega))
          rw [hcn.out.2.2.2.2.2] at hap
          refine hap.mono ?_
          clear hap
          rintro e w9 hA
          rw [hF8.out.1] at hA
          obtain ⟨M', hM'⟩ : ∃ x, x = (pairsF i a.l).foldl chg M := ⟨_, rfl⟩
          rw [← hM'] at hA hs2 hM8
          clear hM' hL8 hr8
          unfold ApplyE at hA
          rcases hA with ⟨S', rfl, hU, hgs, hmb, hqg, hF2, hN2, hser, hcut⟩ | ⟨S', hcut, rfl, hU, hgs, hmb, hqg, hF2, hN2, hlx⟩
          · obtain ⟨hb9, hl9⟩ := hU.low hB8.out.size hcn.out.2.2.2.2.1
            have hP9 : Hid (FallL W.heap.size gs q.g mm mo' W (i + 1) S' (NM + k) NM M' M false w9) := Lib.hid ⟨hU.post.fr5 (hgs.trans hcn.out.2.2.2.2.2) rfl, fun x hx => (hU.foot x hx).2, fun _ => ⟨hU.post, hF2⟩, (fun e => by cases e), hM8.out.tch hU.tch (fun x hx => (hU.foot x hx).1), hs2.out, by rw [hF2]; exact hs2.out, hgs.trans hcn.out.2.2.2.2.2, hqg.trans hcn.out.2.2.2.1, hl9, by have := hcn.out.1; omega, by have := hcn.out.2.1; omega, by have := hcn.out.2.1; omega, by have := hcn.out.2.2.1; omega, hB8.out.trans hb9⟩
            clear hU hgs hmb hqg hF2 hN2 hser hcut hb9 hl9 hM8 hO8 hB8 hF8 hcn
            go_wp2_with fail
            refine (down_any w9 hP9.out.fr).mono ?_
            rintro e wy ⟨rfl, hwy⟩
            subst hwy
            go_wp2_with fail
            exact ⟨⟨i + 1, mo', S', _, NM, _, M, false, by omega, by simp, rfl, hP9⟩, by simp [intOf]; omega⟩
          · obtain ⟨hb9, hl9⟩ := hU.lowD hB8.out.size hcn.out.2.2.2.2.1
            have hP9 : Hid (FallL W.heap.size gs q.g mm mo' W (i + 1) S' (NM + k) NM M' M true w9) := Lib.hid ⟨by have := hU.post.fr; unfold SR.front at this; rw [hgs.trans hcn.out.2.2.2.2.2] at this; exact this, fun x hx => (hU.foot x hx).2, (fun e => by cases e), fun _ => ⟨hU.post, hF2.trans hF8.out.1, hO8.out.tch hU.tch (fun x hx => (hU.foot x hx).1)⟩, hM8.out.tch hU.tch (fun x hx => (hU.foot x hx).1), hs2.out, by rw [hF2, hF8.out.1]; exact hF8.out.2, hgs.trans hcn.out.2.2.2.2.2, hqg.trans hcn.out.2.2.2.1, hl9, by have := hcn.out.1; omega, by have := hcn.out.2.1; omega, by have := hcn.out.2.1; omega, by have := hcn.out.2.2.1; rw [hlx]; omega, hB8.out.trans hb9⟩
            have hFS : Hid (S'.F = M ∧ FSm M ∧ DomF M) := Lib.hid ⟨hF2.trans hF8.out.1, hF8.out.2⟩
            clear hU hgs hmb hqg hF2 hN2 hlx hcut hb9 hl9 hM8 hO8 hB8 hF8 hcn
            go_wp2_with fail
            refine (down_any w9 hP9.out.fr).mono ?_
            rintro e wy ⟨rfl, hwy⟩
            subst hwy
            have hfr9 : Hid (Front gs S'.l.g S'.mb S'.N M true wy) := Lib.hid (by have := hP9.out.fr; rw [hFS.out.1] at this; exact this)
            go_wp2_with fail
            refine (alike_step hfr9.out (by have := hP9.out.hN; omega) hFS.out.2.1 hFS.out.2.2 (hP9.out.dead rfl).2.2.map rfl).mono ?_
            rintro e w10 ⟨rfl, hb10⟩
            have hP10 := Lib.hid (hP9.out.below hb10 (Nat.le_refl _))
            clear hb10 hP9 hfr9
            go_wp2_with fail
            refine (apply_dead w10 hP10.out.fr _).mono ?_
            rintro e wx ⟨rfl, hwx⟩
            subst hwx
            go_wp2_with fail
            refine (compact_dead wx hP10.out.fr).mono ?_
            rintro e wv ⟨rfl, hwv⟩
            subst hwv
            go_wp2_with fail
            exact ⟨⟨i + 1, mo', S', _, NM, _, M, true, by omega, by simp, rfl, hP10⟩, by simp [intOf]; omega⟩
    · obtain rfl : i = n := by omega
      have hii : ¬ (i : Int) < (i : Int) := by omega
      cases dn
      case true =>
        go_wp2_with fail
        go_wp2_with fail
        refine (down_any _ hP.out.fr).mono ?_
        rintro e wy ⟨rfl, hwy⟩
        subst hwy
        go_wp2_with fail
        refine (crash_dead (hP.out.dead rfl).1 hP.out.hg kp hkp.out torn at_ htn.out).mono ?_
        rintro e w16 ⟨rfl, q2, hR⟩
        replace hR := Lib.hid hR

        go_wp2_with fail
        refine (open_ready (by omega) (by omega) (by rw [hhalf.out]; omega) hR.out hP.out.hg).mono ?_
        rintro e wt ⟨T, rfl, hT, hF, hN, ht⟩
        have hB17 := Lib.hid (hP.out.bel.trans (hR.out.below ht hP.out.bel.size (fun x hx => hP.out.low x (.inr (.inr (.inr hx))))))
        have hM17 : Hid (SMapT wt mm NM M) := Lib.hid (SMap.loc hP.out.mp.map (hR.out.keep ht (SMap.lt hP.out.mp.map) (fun e => hP.out.mp.off (.inr (.inr (.inr e))))))
        have hTN : Hid (T.N ≤ 100000) := Lib.hid (by rw [hhalf.out] at hN; omega)
        have hfr0 : Hid (Front T.gs T.l.g T.mb T.N T.F false wt) := Lib.hid hT.fr

        have hW17 : Hid (SMapT wt mo NO Was) := Lib.hid (SMap.loc (hP.out.dead rfl).2.2.map (hR.out.keep ht (SMap.lt (hP.out.dead rfl).2.2.map) (fun e => (hP.out.dead rfl).2.2.off (.inr (.inr (.inr e))))))
        have hWs : Hid (FSm Was ∧ DomF Was) := Lib.hid (by have := hP.out.sf; rw [(hP.out.dead rfl).2.1] at this; exact this)
        rw [(hP.out.dead rfl).2.1] at hF
        clear hT hN ht hR

        go_wp2_with fail
        refine (down_any wt hfr0.out).mono ?_
        rintro e wz2 ⟨rfl, hwz2⟩
        subst hwz2

        rcases hF with hF | hF
        · rw [hF] at hfr0
          clear hF
          go_wp2_with fail
          refine (alike_any wz2 hfr0.out hTN.out hWs.out.1 hWs.out.2 hM17.out hP.out.sm.1).mono ?_
          rintro e w18 ⟨rfl, hb18⟩
          have hfr18 := Lib.hid (hfr0.out.below hb18)
          have hW18 : Hid (SMapT w18 mo NO Was) := Lib.hid (SMap.loc hW17.out (hb18.block mo (SMap.lt hW17.out)))
          have hB18 := Lib.hid (hB17.out.trans (hb18.mono hB17.out.size))
          clear hb18 hfr0 hM17 hW17 hB17
          cases decide (sameK Was M 7) with
          | true =>
            go_wp2_with fail
            go_ret
            exact ⟨rfl, hB18.out⟩
          | false =>
            go_wp2_with fail
            refine (alike_step hfr18.out hTN.out hWs.out.1 hWs.out.2 hW18.out rfl).mono ?_
            rintro e w19 ⟨rfl, hb19⟩
            have hB19 := Lib.hid (hB18.out.trans (hb19.mono hB18.out.size))
            clear hb19 hfr18 hW18 hB18
            go_wp2_with fail
            go_ret
            exact ⟨rfl, hB19.out⟩
        · rw [hF] at hfr0
          clear hF hW17
          go_wp2_with fail
          refine (alike_step hfr0.out hTN.out hP.out.sm.1 hP.out.sm.2 hM17.out rfl).mono ?_
          rintro e wu ⟨rfl, hb18⟩
          have hB18 := Lib.hid (hB17.out.trans (hb18.mono hB17.out.size))
          clear hb18 hB17 hM17 hfr0
          go_wp2_with fail
          go_ret
          exact ⟨rfl, hB18.out⟩
      case false =>
        go_wp2_with fail
        refine (down_any wo hP.out.fr).mono ?_
        rintro e wz ⟨rfl, hwz⟩
        subst hwz
        go_wp2_with fail
        refine (crash_live (hP.out.live rfl).1 hP.out.hg M kp hkp.out torn at_ htn.out).mono ?_
        rintro e w16 ⟨rfl, q2, hR⟩
        rw [(hP.out.live rfl).2] at hR
        replace hR := Lib.hid hR

        go_wp2_with fail
        refine (open_ready (by omega) (by omega) (by rw [hhalf.out]; omega) hR.out hP.out.hg).mono ?_
        rintro e wt ⟨T, rfl, hT, hF, hN, ht⟩
        have hB17 := Lib.hid (hP.out.bel.trans (hR.out.below ht hP.out.bel.size (fun x hx => hP.out.low x (.inr (.inr (.inr hx))))))
        have hM17 : Hid (SMapT wt mm NM M) := Lib.hid (SMap.loc hP.out.mp.map (hR.out.keep ht (SMap.lt hP.out.mp.map) (fun e => hP.out.mp.off (.inr (.inr (.inr e))))))
        have hTN : Hid (T.N ≤ 100000) := Lib.hid (by rw [hhalf.out] at hN; omega)
        have hfr0 : Hid (Front T.gs T.l.g T.mb T.N T.F false wt) := Lib.hid hT.fr

        have hF' : T.F = M := by rcases hF with h | h <;> exact h
        rw [hF'] at hfr0
        clear hF hF' hT hN ht hR

        go_wp2_with fail
        refine (down_any wt hfr0.out).mono ?_
        rintro e wz2 ⟨rfl, hwz2⟩
        subst hwz2

        go_wp2_with fail
        refine (alike_step hfr0.out hTN.out hP.out.sm.1 hP.out.sm.2 hM17.out rfl).mono ?_
        rintro e wu ⟨rfl, hb18⟩
        have hB18 := Lib.hid (hB17.out.trans (hb18.mono hB17.out.size))
        clear hb18 hB17 hM17 hfr0
        go_wp2_with fail
        go_ret
        exact ⟨rfl, hB18.out⟩
end Go.Proofs.YtelglbblgkhcmaaGreat
