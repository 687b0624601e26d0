/-
  The walk of StoreRounds.
-/
import Derived.Test.YtelglbblgkhcmaaGreatSd
namespace Go.Proofs.YtelglbblgkhcmaaGreat
open Go.RowKit Go.Deep Go.Maps

/-- The state of the rounds: a store and the map beside it. -/
structure RoundL (B gs gd mm : Nat) (W : World) (i : Nat) (S : SR) (NM : Nat) (M : ByteArray → Option ByteArray) (w : World) : Prop where
  lw : Lw B 200 256 S w
  mp : Mp B S mm NM M w
  hF : S.F = M
  sm : FSm M
  dom : DomF M
  hgs : S.gs = gs
  hg : S.q.g = gd
  hN : S.N ≤ i
  hNM : NM ≤ i
  ser : S.l.serial ≤ 2 * i
  bel : Below B W w
theorem RoundL.front {B gs gd mm : Nat} {W : World} {i : Nat} {S : SR} {NM : Nat} {M : ByteArray → Option ByteArray} {w : World} (h : RoundL B gs gd mm W i S NM M w) : Front gs S.l.g S.mb S.N M false w := by
  have := h.lw.live.fr
  unfold SR.front at this
  rw [h.hF, h.hgs] at this
  exact this
theorem RoundL.below {gs gd mm : Nat} {W : World} {i : Nat} {S : SR} {NM : Nat} {M : ByteArray → Option ByteArray} {w w' : World} (h : RoundL W.heap.size gs gd mm W i S NM M w) (hb : Below w.heap.size w w') : RoundL W.heap.size gs gd mm W i S NM M w' :=
  ⟨h.lw.below hb, h.mp.below hb, h.hF, h.sm, h.dom, h.hgs, h.hg, h.hN, h.hNM, h.ser, h.bel.trans (hb.mono h.bel.size)⟩
set_option maxRecDepth 100000 in
set_option maxHeartbeats 8000000 in
theorem rounds_walk (W : World) (v0 v1 : Value) (o0 : ArgOk 36 W v0) (o1 : ArgOk 37 W v1) : Calls Tryz.prog 4 #[v0, v1] W fun e W' => e = .returned (.bool true) ∧ Below W.heap.size W W' := by
  obtain ⟨nn, rfl, hnn⟩ := o0.u16
  obtain ⟨A, m, c, ls, rfl, hl, hmc, hcm, hbs⟩ := o1.bytes
  unfold maxLen at hcm
  replace hl := Lib.hid hl
  replace hbs := Lib.hid hbs
  have hmm := @run_makeMap Tryz.prog
  go_enter Tryz.func4, Tryz.ntmps4
  go_wp2_with fail
  refine (known5_any W).mono ?_
  rintro e w1 ⟨rfl, hb1⟩
  have hB1 := Lib.hid hb1
  clear hb1
  by_cases h00 : m = 0
  · subst h00
    go_wp2_with fail
    go_ret
    exact ⟨rfl, hB1.out⟩
  have h00i : ((m : Int) == 0) = false := by simp; omega
  by_cases h10 : 10 < m
  · have h10i : (10 : Int) < (m : Int) := by omega
    go_wp2_with fail
    go_ret
    exact ⟨rfl, hB1.out⟩
  have h10i : ¬ (10 : Int) < (m : Int) := by omega
  have hm0 : 0 < m := by omega
  have hhalf : Hid (half 200 * 256 = 25344) := Lib.hid rfl
  go_wp2_with fail
  refine (newd_any w1 200 256 (by omega) (by omega) (by omega) (by omega)).mono ?_
  rintro e w2 ⟨q, rfl, hq, -, hb2, hlow⟩
  replace hq := Lib.hid hq
  have hqh : Hid (Hi W.heap.size q) := Lib.hid (fun x hx => Nat.le_trans hB1.out.size (hlow x hx))
  have hB2 := Lib.hid (hB1.out.trans (hb2.mono hB1.out.size))
  clear hlow hb2 hB1
  go_wp2_with fail
  refine (opennew5 (n := 200) (s := 256) (by omega) (by omega) hq.out).mono ?_
  rintro e w4 ⟨S, rfl, hO⟩
  obtain ⟨hb4, hl4⟩ := hO.low hB2.out.size hqh.out
  have hB4 := hB2.out.trans hb4
  have hL4 : Lw W.heap.size 200 256 S w4 := ⟨hO.live, hl4, hO.cut⟩
  have hM5 := Mp.new w4 hL4 hB4.size
  have hb5 := below_new w4 (.map #[] 0)
  obtain ⟨w5, hw5⟩ : ∃ x, x = w4.alloc (.map #[] 0) := ⟨_, rfl⟩
  obtain ⟨mm, hmm5⟩ : ∃ x, x = w4.heap.size := ⟨_, rfl⟩
  rw [← hw5, ← hmm5] at hM5
  rw [← hw5] at hb5
  obtain ⟨gs, hgse⟩ : ∃ x, x = S.gs := ⟨_, rfl⟩
  have hP5 : Hid (RoundL W.heap.size gs q.g mm W 0 S 0 (fun _ => none) w5) := Lib.hid ⟨hL4.below hb5, hM5, hO.hF, FSm.none, domF_none, hgse.symm, hO.hg, by rw [hO.hN]; simp, by omega, by rw [hO.ser]; simp [zeroH], hB4.trans (hb5.mono hB4.size)⟩
  rw [← hgse]
  clear hO hb4 hl4 hL4 hb5 hB2 hB4 hq hqh hM5 hgse
  have h3t : (nn : Int).tmod 300 = ((nn % 300 : Nat) : Int) := by rw [Int.tmod_eq_emod_of_nonneg (by omega)]; omega
  have h3w : IntKind.i64.wrap ((nn % 300 : Nat) : Int) = ((nn % 300 : Nat) : Int) := IntWalk.i64_in _ (by omega)
  obtain ⟨n, hne⟩ : ∃ x, x = nn % 300 := ⟨_, rfl⟩
  have hn3 : n ≤ 300 := by omega
  rw [← hne] at h3t h3w
  clear hne
  go_wp2_with fail
  rw [← hw5, ← hmm5]
  clear hw5 hmm5 hmm
  go_loopw [9] (fun iv wr => ∃ (i : Nat) (S : SR) (NM : Nat) (M : ByteArray → Option ByteArray), i ≤ n ∧ iv = .int .i64 i ∧ Hid (RoundL W.heap.size gs q.g mm W i S NM M wr)) (fun iv _ => n - (intOf iv).toNat)
  case atStart => exact ⟨0, S, 0, _, by omega, rfl, hP5⟩
  clear hP5
  obtain ⟨i, S, NM, M, hi, rfl, hP⟩ := hrel
  rename World => wo
  have hBs : Hid (W.heap.size ≤ wo.heap.size) := Lib.hid hP.out.bel.size
  by_cases hin : i < n
  · have hii : (i : Int) < (n : Int) := by omega
    have hiw : IntKind.i64.wrap ((i : Int) + 1) = ((i + 1 : Nat) : Int) := by rw [IntWalk.i64_in _ (by omega)]; omega
    obtain ⟨j, hje⟩ : ∃ x, x = i % m := ⟨_, rfl⟩
    have hjm : j < m := by rw [hje]; exact Nat.mod_lt _ hm0
    have hjl : j < ls.length := by rw [hl.out]; exact hjm
    obtain ⟨b, off, rfl, hbl, hcell⟩ := (hbs.out.below hP.out.bel).at_ hjl
    obtain ⟨x0, hx0e⟩ : ∃ x, x = ls[j] := ⟨_, rfl⟩
    rw [← hx0e] at hcell
    have hx0 : Hid (b < wo.heap.size ∧ wo.cell? ⟨b, off + j, none⟩ = some (.int .u8 x0.toNat)) := Lib.hid ⟨Nat.lt_of_lt_of_le hbl hP.out.bel.size, hcell⟩
    have hj : Hid ((i : Int).tmod (m : Int) = (j : Int) ∧ (m : Int) ≠ 0 ∧ j < m) := Lib.hid ⟨by rw [hje, Int.tmod_eq_emod_of_nonneg (by omega)]; rfl, by omega, hjm⟩
    obtain ⟨k3, hk3e⟩ : ∃ x, x = i % 3 := ⟨_, rfl⟩
    have hk3 : Hid ((i : Int).tmod 3 = (k3 : Int) ∧ IntKind.u8.wrap (k3 : Int) = (k3 : Int)) := Lib.hid ⟨by rw [hk3e, Int.tmod_eq_emod_of_nonneg (by omega)]; rfl, IntWalk.u8_in _ (by omega)⟩
    have hk4 : Hid (k3 < 256) := Lib.hid (by omega)
    have hxw : Hid (IntKind.i64.wrap (x0.toNat : Int) = (x0.toNat : Int)) := Lib.hid (IntWalk.i64_in _ (by have := x0.toNat_lt; omega))
    have hi5 : Hid (i ≤ 100000) := Lib.hid (by omega)
    have hx5 : Hid (x0.toNat ≤ 255) := Lib.hid (by have := x0.toNat_lt; omega)
    clear hje hbl hcell hx0e hk3e hjl hjm
    obtain ⟨wb, hwb⟩ : ∃ x, x = wo := ⟨_, rfl⟩
    rw [← hwb] at hP hBs hx0 ⊢
    clear hwb
    go_wp2_with fail
    -- THE REGION THAT DRAWS ITS ORDER, BY ONE LEXICAL WALK OVER GENERIC VALUES (written by relgen.py)
    refine wp_region_tab ((fun _ v => v = .int .i64 i) ::
      (fun _ v => v = .int .i64 k3) ::
      (fun _ v => v = .int .u8 k3) ::
      (fun _ v => v = .string (keyF k3)) ::
      (fun _ v => v = .int .i64 i) ::
      (fun _ v => v = .slice (some ⟨b, off, none⟩) m c) ::
      (fun _ v => v = .int .i64 i) ::
      (fun _ v => v = .slice (some ⟨b, off, none⟩) m c) ::
      (fun _ v => v = .int .i64 m) ::
      (fun _ v => v = .int .i64 j) ::
      (fun _ v => v = .pointer (some ⟨b, off + j, none⟩)) ::
      (fun _ v => v = .int .u8 x0.toNat) ::
      (fun _ v => v = .int .i64 x0.toNat) ::
      (fun _ v => v = .string (valS i x0.toNat)) ::
      (fun _ v => v = .string (keyF k3)) ::
      (fun _ v => v = .string (valS i x0.toNat)) :: [])
      (⟨[(9, none)], 0, []⟩ :: ⟨[(40, some 0)], 0, []⟩ :: ⟨[(41, some 1)], 0, []⟩ :: ⟨[(42, some 2)], 0, []⟩ :: ⟨[(9, none)], 0, []⟩ :: ⟨[(1, none)], 0, []⟩ :: ⟨[(9, none)], 0, []⟩ :: ⟨[(1, none)], 0, []⟩ :: ⟨[(47, some 7)], 0, []⟩ :: ⟨[(46, some 6), (48, some 8)], 0, []⟩ :: ⟨[(45, some 5), (49, some 9)], 0, []⟩ :: ⟨[(50, some 10)], 0, []⟩ :: ⟨[(51, some 11)], 0, []⟩ :: ⟨[(44, some 4), (52, some 12)], 0, []⟩ :: ⟨[(43, some 3)], 0, []⟩ :: ⟨[(53, some 13)], 0, []⟩ :: [])
      (none :: none :: none :: none :: none :: none :: none :: none :: none :: none :: some 14 :: some 15 :: none :: none :: none :: none :: none :: none :: none :: none :: none :: none :: none :: none :: none :: none :: none :: none :: none :: none :: none :: none :: none :: none :: none :: none :: none :: none :: none :: none :: some 0 :: some 1 :: some 2 :: some 3 :: some 4 :: some 5 :: some 6 :: some 7 :: some 8 :: some 9 :: some 10 :: some 11 :: some 12 :: some 13 :: [])
      (fun _ w' => Below wb.heap.size wb w') (fun _ w w' => Below w.heap.size w w') ?mixK13rounds13 ?okK13rounds13 ?tabK13rounds13 ?frK13rounds13 ?inK13rounds13 ?keptK13rounds13 ?startK13rounds13 ?eachK13rounds13 ?finK13rounds13
    case mixK13rounds13 => kernel_rfl
    case okK13rounds13 => kernel_rfl
    case tabK13rounds13 => kernel_rfl
    case frK13rounds13 => kernel_rfl
    case inK13rounds13 => rfl
    case keptK13rounds13 => exact ⟨fun _ _ _ _ _ _ _ h => h, fun _ _ _ _ _ _ _ h => h, fun _ _ _ _ _ _ _ h => h, fun _ _ _ _ _ _ _ h => h, fun _ _ _ _ _ _ _ h => h, fun _ _ _ _ _ _ _ h => h, fun _ _ _ _ _ _ _ h => h, fun _ _ _ _ _ _ _ h => h, fun _ _ _ _ _ _ _ h => h, fun _ _ _ _ _ _ _ h => h, fun _ _ _ _ _ _ _ h => h, fun _ _ _ _ _ _ _ h => h, fun _ _ _ _ _ _ _ h => h, fun _ _ _ _ _ _ _ h => h, fun _ _ _ _ _ _ _ h => h, fun _ _ _ _ _ _ _ h => h, trivial⟩
    case startK13rounds13 => exact (Below.refl _ _).drew
    case eachK13rounds13 =>
      refine ⟨?_, ?_, ?_, ?_, ?_, ?_, ?_, ?_, ?_, ?_, ?_, ?_, ?_, ?_, ?_, ?_, trivial⟩
      -- 0: slot 40 := move t9
      · intro w L f hC hLi hLd hLn hF
        obtain ⟨d9, _⟩ := hF
        have d9 : f 9 = .int .i64 i := d9
        refine Step2.live rfl ?_
        exact relUpon_value (v := f 9) rfl (hC) (Below.refl _ _) d9
      -- 1: slot 41 := binOp BinOp.rem 3 t40 (const (3:i64)) 3
      · intro w L f hC hLi hLd hLn hF
        obtain ⟨d40, _⟩ := hF
        have d40 : f 40 = .int .i64 i := d40
        refine Step2.live rfl ?_
        have h1 := hk3.out.1
        have ev : ∀ t, evalOf f (.tmp t) = f t := fun _ => rfl
        have ec : ∀ c, evalOf f (.const c) = c := fun _ => rfl
        have ef : ∀ g, evalOf f (.func g) = .func (.func g) #[] #[] := fun _ => rfl
        refine relUpon_value ?_ hC (Below.refl _ _) rfl
        go_simp
      -- 2: slot 42 := convert 3 5 t41
      · intro w L f hC hLi hLd hLn hF
        obtain ⟨d41, _⟩ := hF
        have d41 : f 41 = .int .i64 k3 := d41
        refine Step2.live rfl ?_
        have h1 := hk3.out.2
        have ev : ∀ t, evalOf f (.tmp t) = f t := fun _ => rfl
        have ec : ∀ c, evalOf f (.const c) = c := fun _ => rfl
        have ef : ∀ g, evalOf f (.func g) = .func (.func g) #[] #[] := fun _ => rfl
        refine relUpon_value ?_ hC (Below.refl _ _) rfl
        go_simp
      -- 3: slot 43 := call { value (Operand.func 15), args := #[t42], argTypes := #[5] }
      · intro w L f hC hLi hLd hLn hF
        obtain ⟨d42, _⟩ := hF
        have d42 : f 42 = .int .u8 k3 := d42
        refine Step2.live rfl ?_
        have ev : ∀ t, evalOf f (.tmp t) = f t := fun _ => rfl
        have ec : ∀ c, evalOf f (.const c) = c := fun _ => rfl
        have ef : ∀ g, evalOf f (.func g) = .func (.func g) #[] #[] := fun _ => rfl
        refine relUpon_call (f := 15) (args := #[.int .u8 k3]) (w := w) (by go_simp) (key_any w k3 hk4.out) ?_
        rintro e w1 ⟨he, hB⟩
        exact ⟨_, he, hC.trans (hB.mono hC.size), hB, rfl⟩
      -- 4: slot 44 := move t9
      · intro w L f hC hLi hLd hLn hF
        obtain ⟨d9, _⟩ := hF
        have d9 : f 9 = .int .i64 i := d9
        refine Step2.live rfl ?_
        exact relUpon_value (v := f 9) rfl (hC) (Below.refl _ _) d9
      -- 5: slot 45 := move t1
      · intro w L f hC hLi hLd hLn hF
        obtain ⟨d1, _⟩ := hF
        have d1 : f 1 = .slice (some ⟨b, off, none⟩) m c := d1
        refine Step2.live rfl ?_
        exact relUpon_value (v := f 1) rfl (hC) (Below.refl _ _) d1
      -- 6: slot 46 := move t9
      · intro w L f hC hLi hLd hLn hF
        obtain ⟨d9, _⟩ := hF
        have d9 : f 9 = .int .i64 i := d9
        refine Step2.live rfl ?_
        exact relUpon_value (v := f 9) rfl (hC) (Below.refl _ _) d9
      -- 7: slot 47 := move t1
      · intro w L f hC hLi hLd hLn hF
        obtain ⟨d1, _⟩ := hF
        have d1 : f 1 = .slice (some ⟨b, off, none⟩) m c := d1
        refine Step2.live rfl ?_
        exact relUpon_value (v := f 1) rfl (hC) (Below.refl _ _) d1
      -- 8: slot 48 := call { builtin len, args := #[t47], argTypes := #[37] }
      · intro w L f hC hLi hLd hLn hF
        obtain ⟨d47, _⟩ := hF
        have d47 : f 47 = .slice (some ⟨b, off, none⟩) m c := d47
        refine Step2.live rfl ?_
        have ev : ∀ t, evalOf f (.tmp t) = f t := fun _ => rfl
        have ec : ∀ c, evalOf f (.const c) = c := fun _ => rfl
        have ef : ∀ g, evalOf f (.func g) = .func (.func g) #[] #[] := fun _ => rfl
        refine relUpon_value ?_ hC (Below.refl _ _) rfl
        go_simp
      -- 9: slot 49 := binOp BinOp.rem 3 t46 t48 3
      · intro w L f hC hLi hLd hLn hF
        obtain ⟨d46, d48, _⟩ := hF
        have d46 : f 46 = .int .i64 i := d46
        have d48 : f 48 = .int .i64 m := d48
        refine Step2.live rfl ?_
        have h1 := hj.out.1
        have h2 := hj.out.2.1
        have ev : ∀ t, evalOf f (.tmp t) = f t := fun _ => rfl
        have ec : ∀ c, evalOf f (.const c) = c := fun _ => rfl
        have ef : ∀ g, evalOf f (.func g) = .func (.func g) #[] #[] := fun _ => rfl
        refine relUpon_value ?_ hC (Below.refl _ _) rfl
        go_simp
      -- 10: slot 50 := indexAddr 37 t45 t49
      · intro w L f hC hLi hLd hLn hF
        obtain ⟨d45, d49, _⟩ := hF
        have d45 : f 45 = .slice (some ⟨b, off, none⟩) m c := d45
        have d49 : f 49 = .int .i64 j := d49
        refine Step2.live rfl ?_
        have h1 := hj.out.2.2
        have ev : ∀ t, evalOf f (.tmp t) = f t := fun _ => rfl
        have ec : ∀ c, evalOf f (.const c) = c := fun _ => rfl
        have ef : ∀ g, evalOf f (.func g) = .func (.func g) #[] #[] := fun _ => rfl
        refine relUpon_value ?_ hC (Below.refl _ _) rfl
        go_simp
      -- 11: slot 51 := load 5 t50
      · intro w L f hC hLi hLd hLn hF
        obtain ⟨d50, _⟩ := hF
        have d50 : f 50 = .pointer (some ⟨b, off + j, none⟩) := d50
        refine Step2.live rfl ?_
        have f0 := (hC.cell (p := ⟨b, off + j, none⟩) hx0.out.1).trans hx0.out.2
        have ev : ∀ t, evalOf f (.tmp t) = f t := fun _ => rfl
        have ec : ∀ c, evalOf f (.const c) = c := fun _ => rfl
        have ef : ∀ g, evalOf f (.func g) = .func (.func g) #[] #[] := fun _ => rfl
        refine relUpon_value ?_ hC (Below.refl _ _) rfl
        go_simp
      -- 12: slot 52 := convert 5 3 t51
      · intro w L f hC hLi hLd hLn hF
        obtain ⟨d51, _⟩ := hF
        have d51 : f 51 = .int .u8 x0.toNat := d51
        refine Step2.live rfl ?_
        have h1 := hxw.out
        have ev : ∀ t, evalOf f (.tmp t) = f t := fun _ => rfl
        have ec : ∀ c, evalOf f (.const c) = c := fun _ => rfl
        have ef : ∀ g, evalOf f (.func g) = .func (.func g) #[] #[] := fun _ => rfl
        refine relUpon_value ?_ hC (Below.refl _ _) rfl
        go_simp
      -- 13: slot 53 := call { value (Operand.func 16), args := #[t44, t52], argTypes := #[3, 3] }
      · intro w L f hC hLi hLd hLn hF
        obtain ⟨d44, d52, _⟩ := hF
        have d44 : f 44 = .int .i64 i := d44
        have d52 : f 52 = .int .i64 x0.toNat := d52
        refine Step2.live rfl ?_
        have ev : ∀ t, evalOf f (.tmp t) = f t := fun _ => rfl
        have ec : ∀ c, evalOf f (.const c) = c := fun _ => rfl
        have ef : ∀ g, evalOf f (.func g) = .func (.func g) #[] #[] := fun _ => rfl
        refine relUpon_call (f := 16) (args := #[.int .i64 i, .int .i64 x0.toNat]) (w := w) (by go_simp) (value_any w i x0.toNat hi5.out hx5.out) ?_
        rintro e w1 ⟨he, hB⟩
        exact ⟨_, he, hC.trans (hB.mono hC.size), hB, rfl⟩
      -- 14: slot 10 := assign t43
      · intro w L f hC hLi hLd hLn hF
        obtain ⟨d43, _⟩ := hF
        have d43 : f 43 = .string (keyF k3) := d43
        refine Step2.live rfl ?_
        exact relUpon_value (v := f 43) rfl (hC) (Below.refl _ _) d43
      -- 15: slot 11 := assign t53
      · intro w L f hC hLi hLd hLn hF
        obtain ⟨d53, _⟩ := hF
        have d53 : f 53 = .string (valS i x0.toNat) := d53
        refine Step2.live rfl ?_
        exact relUpon_value (v := f 53) rfl (hC) (Below.refl _ _) d53
    intro x w' hC hV

    have e10 := hV 14 _ rfl rfl
    have e11 := hV 15 _ rfl rfl
    clear hV
    simp only [framed]
    rw [e10, e11]
    clear e10 e11 hj hk3 hk4 hxw hx0
    have hpsm : Hid (PairR.sm ⟨keyF k3, valS i x0.toNat, false⟩) := Lib.hid ⟨by have := keyF_size k3; show (keyF k3).size ≤ _; omega, by have := valS_size i x0.toNat; have := hx5.out; show (valS i x0.toNat).size ≤ _; omega⟩
    have hPa := Lib.hid (hP.out.below hC)
    clear hC hP hBs
    have hpk : Hid (∃ j, keyF k3 = keyF j) := Lib.hid ⟨_, rfl⟩
    obtain ⟨kk, hkk⟩ : ∃ x, x = keyF k3 := ⟨_, rfl⟩
    obtain ⟨vv, hvv⟩ : ∃ x, x = valS i x0.toNat := ⟨_, rfl⟩
    rw [← hkk, ← hvv] at hpsm ⊢
    rw [← hkk] at hpk
    clear hkk hvv hx5 hi5
    rename World => wa
    have hb3 := below_new wa (.cells #[.string kk, .string vv, .bool false] 41)
    have hh3 := Holds.new wa 41 #[.string kk, .string vv, .bool false]
    obtain ⟨w3, hw3⟩ : ∃ x, x = wa.alloc (.cells #[.string kk, .string vv, .bool false] 41) := ⟨_, rfl⟩
    obtain ⟨g3, hg3⟩ : ∃ x, x = wa.heap.size := ⟨_, rfl⟩
    rw [← hw3] at hb3 hh3
    rw [← hg3] at hh3
    have hP3 := Lib.hid (hPa.out.below hb3)
    have hr3 : Hid (Row w3 w3.heap.size (some ⟨g3, 0, none⟩) ([(⟨kk, vv, false⟩ : PairR)].flatMap PairR.cells)) := Lib.hid (Row.ofHolds hh3 hh3.lt)
    clear hb3 hh3 hPa
    go_wp2_with fail
    rw [← hw3, ← hg3]
    clear hw3 hg3
    have hap := apply_step (n := 200) (s := 256) (by omega) (by omega) (by rw [hhalf.out]; omega) hP3.out.lw hP3.out.mp hP3.out.bel.size (by have := hP3.out.ser; omega) (some ⟨g3, 0, none⟩) 1 1 [(⟨kk, vv, false⟩ : PairR)] rfl hr3.out (fun p hp => by rw [List.mem_singleton.1 hp]; exact hpsm.out) (fun p hp => by rw [List.mem_singleton.1 hp]; exact hpk.out) (by have := hP3.out.hN; omega) (by rw [hP3.out.hF]; exact hP3.out.sm) (by rw [hP3.out.hF]; exact hP3.out.dom)
    rw [hP3.out.hgs] at hap
    refine hap.mono ?_
    clear hap
    rintro e w6 ⟨rfl, S6, hD⟩
    obtain ⟨w7, hrun, hm7, hW7⟩ := SMapT.put hD.mp.map ⟨kk, vv, false⟩ hpsm.out (by have := hP3.out.hNM; omega) rfl
    simp only at hrun
    have hP7 : Hid (RoundL W.heap.size gs q.g mm W (i + 1) S6 (NM + 1) (chg M ⟨kk, vv, false⟩) w7) := Lib.hid ⟨hD.lw.mapped hD.mp hW7, ⟨hm7, hD.mp.off, hD.mp.low⟩, by rw [hD.hF, hP3.out.hF]; rfl, hP3.out.sm.chg hpsm.out, hP3.out.dom.chg hpk.out, hD.gs.trans hP3.out.hgs, hD.hg.trans hP3.out.hg, by have := hP3.out.hN; rw [hD.hN]; omega, by have := hP3.out.hNM; omega, by have := hP3.out.ser; have := hD.ser; omega, (hP3.out.bel.trans hD.bel).trans (hW7.below (hP3.out.bel.trans hD.bel).size (fun j hj => by simp at hj; rw [hj]; exact hD.mp.low))⟩
    clear hD hm7 hW7 hP3 hr3 hpk hpsm
    generalize chg M ⟨kk, vv, false⟩ = M' at hP7
    go_wp2_with fail
    exact ⟨⟨i + 1, S6, NM + 1, M', by omega, by simp, hP7⟩, by simp [intOf]; omega⟩
  · obtain rfl : i = n := by omega
    have hii : ¬ (i : Int) < (i : Int) := by omega
    go_wp2_with fail
    refine (alike_step hP.out.front (by have := hP.out.hN; omega) hP.out.sm hP.out.dom hP.out.mp.map rfl).mono ?_
    rintro e w6 ⟨rfl, hb6⟩
    have hP6 := Lib.hid (hP.out.below hb6)
    clear hb6 hP hBs
    go_wp2_with fail
    refine (open_step (by omega) (by omega) (by rw [hhalf.out]; omega) hP6.out.lw hP6.out.mp hP6.out.bel.size hP6.out.hg).mono ?_
    rintro e w7 ⟨S7, rfl, hA⟩
    have hfr7 := Lib.hid (hA.front hP6.out.hF)
    have hN7 : Hid (S7.N ≤ 100000) := Lib.hid (by have := hA.hN; rw [hhalf.out] at this; omega)
    have hB7 := Lib.hid (hP6.out.bel.trans hA.bel)
    have hM7 := Lib.hid hA.mp.map
    clear hA
    go_wp2_with fail
    refine (alike_step hfr7.out hN7.out hP6.out.sm hP6.out.dom hM7.out rfl).mono ?_
    rintro e w8 ⟨rfl, hb8⟩
    have hB8 := Lib.hid (hB7.out.trans (hb8.mono hB7.out.size))
    clear hb8 hB7 hM7 hfr7 hP6
    go_wp2_with fail
    go_ret
    exact ⟨rfl, hB8.out⟩
end Go.Proofs.YtelglbblgkhcmaaGreat
