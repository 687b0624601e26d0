/-
  The walk of ReqCuts.
-/
import Derived.Test.YtimhghmnnibajaaRqP
import Derived.Test.YtimhghmnnibajaaRqT
namespace Go.Proofs.Ytimhghmnnibajaa
open Go.RowKit Go.ChangeShapes Go.WideShapes Go.Deep

set_option maxRecDepth 100000 in
set_option maxHeartbeats 16000000 in
theorem cutsq_B (W : World) (B0 : Nat) (hB0 : Hid (B0 ≤ W.heap.size)) (qk : Int) (qn qt : ByteArray) (qz : Int) (pk pe pp : Int) (A : Option Addr) (n c : Nat) (al : List Al) (pt : ByteArray) (pz : Int) (pos : Int) (mo : UInt8)
    (phqk : i64ok qk) (phqz : i64ok qz) (phpk : i64ok pk) (phpe : i64ok pe) (phpp : i64ok pp) (phpz : i64ok pz) (phal : al.length = n) (phalo : ∀ a ∈ al, a.ok) (hrw : Row W W.heap.size A (al.flatMap Al.cells)) (phpos : i64ok pos) :
    Calls Try.prog 12 #[.agg #[.int .i64 qk, .string qn, .string qt, .int .i64 qz], .agg #[.int .i64 pk, .int .i64 pe, .int .i64 pp, .slice A n c, .string pt, .int .i64 pz], .int .i64 pos, .int .u8 mo.toNat] W fun e w' => e = .returned (.bool true) ∧ Below B0 W w' := by
  have hq0 := Holds.new W 78 #[.int .i64 qk, .string qn, .string qt, .int .i64 qz]
  have hb0 := below_new W (.cells #[.int .i64 qk, .string qn, .string qt, .int .i64 qz] 78)
  have hq1 := hq0.alloc (.cells #[.int .i64 pk, .int .i64 pe, .int .i64 pp, .slice A n c, .string pt, .int .i64 pz] 86)
  have hp1 := Holds.new (W.alloc (.cells #[.int .i64 qk, .string qn, .string qt, .int .i64 qz] 78)) 86 #[.int .i64 pk, .int .i64 pe, .int .i64 pp, .slice A n c, .string pt, .int .i64 pz]
  have hb1 := (hb0.mono hB0.out).trans ((below_new (W.alloc (.cells #[.int .i64 qk, .string qn, .string qt, .int .i64 qz] 78)) (.cells #[.int .i64 pk, .int .i64 pe, .int .i64 pp, .slice A n c, .string pt, .int .i64 pz] 86)).mono (Nat.le_trans hB0.out hb0.size))
  rw [show (W.alloc (.cells #[.int .i64 qk, .string qn, .string qt, .int .i64 qz] 78)).heap.size = W.heap.size + 1 by simp] at hp1
  have hbw := hb0.trans ((below_new (W.alloc (.cells #[.int .i64 qk, .string qn, .string qt, .int .i64 qz] 78)) (.cells #[.int .i64 pk, .int .i64 pe, .int .i64 pp, .slice A n c, .string pt, .int .i64 pz] 86)).mono hb0.size)
  have hrw1 := Lib.hid ((hrw.below hbw).more hbw.size)
  have hB1 := Lib.hid (Nat.le_trans hB0.out hbw.size)
  have hq1 := Lib.hid hq1
  have hp1 := Lib.hid hp1
  have hb1 := Lib.hid hb1
  rename_i h1 h2 h3
  clear h1 h2 h3 hq0 hb0 hrw hbw
  go_enter Try.func12, Try.ntmps12
  go_wp2_with fail
  generalize (W.alloc (.cells #[.int .i64 qk, .string qn, .string qt, .int .i64 qz] 78)).alloc (.cells #[.int .i64 pk, .int .i64 pe, .int .i64 pp, .slice A n c, .string pt, .int .i64 pz] 86) = w1 at hq1 hp1 hb1 hrw1 hB1 ⊢
  refine (known24_any _).mono ?_
  rintro e w2 ⟨rfl, hb2⟩
  have hq2 := Lib.hid (hq1.out.below hb2 hq1.out.lt)
  have hp2 := Lib.hid (hp1.out.below hb2 hp1.out.lt)
  have hrw2 := Lib.hid ((hrw1.out.below hb2).more hb2.size)
  have hB2 := Lib.hid (Nat.le_trans hB1.out hb2.size)
  have hb2' := Lib.hid (hb1.out.trans (hb2.mono hB1.out))
  clear hb2 hq1 hp1 hb1 hrw1 hB1
  generalize W.heap.size + 1 = rp at hp2 ⊢
  have q1 := (hq2.out.fact 1 rfl).2
  have q2 := (hq2.out.fact 2 rfl).2
  have p4 := (hp2.out.fact 4 rfl).2
  have p3 := (hp2.out.fact 3 rfl).2
  rcases (show 100 < qn.size ∨ (qn.size ≤ 100 ∧ 500 < qt.size) ∨ (qn.size ≤ 100 ∧ qt.size ≤ 500 ∧ 500 < pt.size) ∨ (qn.size ≤ 100 ∧ qt.size ≤ 500 ∧ pt.size ≤ 500 ∧ 10 < n) ∨ (qn.size ≤ 100 ∧ qt.size ≤ 500 ∧ pt.size ≤ 500 ∧ n ≤ 10) by omega) with hc | hc | hc | hc | hc
  rotate_right
  all_goals try (obtain ⟨k1, k2⟩ := hc; try (obtain ⟨k2, k3⟩ := k2; try (obtain ⟨k3, k4⟩ := k3)))
  all_goals go_wp2_with fail
  rotate_left
  all_goals try (go_ret; exact ⟨rfl, hb2'.out⟩)
  have z1 := k1
  have z2 := k2
  have z3 := k3
  have z4 := k4
  clear k1 k2 k3 k4
  clear q1 q2 p4 p3
  have hqn : Hid (qn.size ≤ 20000) := Lib.hid (by omega)
  have hqt : Hid (qt.size ≤ 20000) := Lib.hid (by omega)
  have hpt : Hid (pt.size ≤ 20000) := Lib.hid (by omega)
  have hn10 : Hid (n ≤ 1000) := Lib.hid (by omega)
  have hqk := Lib.hid phqk
  clear phqk
  have hqz := Lib.hid phqz
  clear phqz
  have hpk := Lib.hid phpk
  clear phpk
  have hpe := Lib.hid phpe
  clear phpe
  have hpp := Lib.hid phpp
  clear phpp
  have hpz := Lib.hid phpz
  clear phpz
  have hal := Lib.hid phal
  clear phal
  have halo := Lib.hid phalo
  clear phalo
  have hpos := Lib.hid phpos
  clear phpos
  have hrq := hq2
  have hrp := hp2
  have hrw := hrw2
  clear hq2 hp2 hrw2
  generalize W.heap.size = rq at hrq ⊢
  obtain ⟨lq, hlq0⟩ : ∃ l, l = rqE ⟨qk, qn, qt, qz⟩ := ⟨_, rfl⟩
  obtain ⟨lp, hlp0⟩ : ∃ l, l = rpE ⟨pk, pe, pp, al, pt, pz⟩ := ⟨_, rfl⟩
  have hlq := Lib.hid hlq0
  have hlp := Lib.hid hlp0
  clear hlq0 hlp0
  -- THE REGION THAT DRAWS ITS ORDER, BY ONE LEXICAL WALK OVER GENERIC VALUES (written by relgen.py)
  refine wp_region_tab ((fun _ v => v = .agg #[.int .i64 qk, .string qn, .string qt, .int .i64 qz]) ::
    (fun w v => ∃ A' c', v = .slice A' lq.length c' ∧ Bytes w w.heap.size A' lq ∧ lq.length ≤ c') ::
    (fun _ v => v = .agg #[.int .i64 pk, .int .i64 pe, .int .i64 pp, .slice A n c, .string pt, .int .i64 pz]) ::
    (fun w v => ∃ A' c', v = .slice A' lp.length c' ∧ Bytes w w.heap.size A' lp ∧ lp.length ≤ c') ::
    (fun w v => ∃ A' c', v = .slice A' lq.length c' ∧ Bytes w w.heap.size A' lq ∧ lq.length ≤ c') ::
    (fun w v => ∃ A' c', v = .slice A' lp.length c' ∧ Bytes w w.heap.size A' lp ∧ lp.length ≤ c') :: [])
    (⟨[(4, none)], 0, []⟩ :: ⟨[(45, some 0)], 0, []⟩ :: ⟨[(5, none)], 0, []⟩ :: ⟨[(47, some 2)], 0, []⟩ :: ⟨[(46, some 1)], 0, []⟩ :: ⟨[(48, some 3)], 0, []⟩ :: [])
    (none :: none :: none :: none :: none :: none :: none :: none :: none :: some 4 :: some 5 :: none :: none :: none :: none :: none :: none :: none :: none :: none :: none :: none :: none :: none :: none :: none :: none :: none :: none :: none :: none :: none :: none :: none :: none :: none :: none :: none :: none :: none :: none :: none :: none :: none :: none :: some 0 :: some 1 :: some 2 :: some 3 :: [])
    (fun _ w' => Below w2.heap.size w2 w') (fun _ w w' => Below w.heap.size w w') ?mixK5 ?okK5 ?tabK5 ?frK5 ?inK5 ?keptK5 ?startK5 ?eachK5 ?finK5
  case mixK5 => kernel_rfl
  case okK5 => kernel_rfl
  case tabK5 => kernel_rfl
  case frK5 => kernel_rfl
  case inK5 => rfl
  case keptK5 => exact ⟨fun _ _ _ _ _ _ _ h => h, fun _ _ _ => fun w w' v hG ⟨A', c', e, h, hl⟩ => ⟨A', c', e, h.up hG, hl⟩, fun _ _ _ _ _ _ _ h => h, fun _ _ _ => fun w w' v hG ⟨A', c', e, h, hl⟩ => ⟨A', c', e, h.up hG, hl⟩, fun _ _ _ => fun w w' v hG ⟨A', c', e, h, hl⟩ => ⟨A', c', e, h.up hG, hl⟩, fun _ _ _ => fun w w' v hG ⟨A', c', e, h, hl⟩ => ⟨A', c', e, h.up hG, hl⟩, trivial⟩
  case startK5 => exact (Below.refl _ _).drew
  case eachK5 =>
    refine ⟨?_, ?_, ?_, ?_, ?_, ?_, trivial⟩
    -- 0: slot 45 := load 78 t4
    · intro w L f hC hLi hLd hLn hF
      obtain ⟨d4, _⟩ := hF
      have d4 : f 4 = .pointer (some ⟨rq, 0, none⟩) := d4
      refine Step2.live rfl ?_
      have hh := hrq.out.below hC hrq.out.lt
      have c0 := (hh.fact 0 rfl).2
      have c1 := (hh.fact 1 rfl).2
      have c2 := (hh.fact 2 rfl).2
      have c3 := (hh.fact 3 rfl).2
      have ev : ∀ t, evalOf f (.tmp t) = f t := fun _ => rfl
      have ec : ∀ c, evalOf f (.const c) = c := fun _ => rfl
      have ef : ∀ g, evalOf f (.func g) = .func (.func g) #[] #[] := fun _ => rfl
      refine relUpon_value ?_ hC (Below.refl _ _) rfl
      go_simp
    -- 1: slot 46 := call { value (Operand.func 43), args := #[t45], argTypes := #[78] }
    · intro w L f hC hLi hLd hLn hF
      obtain ⟨d45, _⟩ := hF
      have d45 : f 45 = .agg #[.int .i64 qk, .string qn, .string qt, .int .i64 qz] := d45
      refine Step2.live rfl ?_
      have ev : ∀ t, evalOf f (.tmp t) = f t := fun _ => rfl
      have ec : ∀ c, evalOf f (.const c) = c := fun _ => rfl
      have ef : ∀ g, evalOf f (.func g) = .func (.func g) #[] #[] := fun _ => rfl
      refine relUpon_call (f := 43) (args := #[.agg #[.int .i64 qk, .string qn, .string qt, .int .i64 qz]]) (w := w) (by go_simp) (refBytesQ_row w qk qn qt qz hqk.out hqn.out hqt.out hqz.out) ?_
      rintro e w1 ⟨A', c', he, hb, hl, hB⟩
      exact ⟨_, he, hC.trans (hB.mono hC.size), hB, ⟨A', c', by rw [hlq.out], by rw [hlq.out]; exact hb, by rw [hlq.out]; exact hl⟩⟩
    -- 2: slot 47 := load 86 t5
    · intro w L f hC hLi hLd hLn hF
      obtain ⟨d5, _⟩ := hF
      have d5 : f 5 = .pointer (some ⟨rp, 0, none⟩) := d5
      refine Step2.live rfl ?_
      have hh := hrp.out.below hC hrp.out.lt
      have c0 := (hh.fact 0 rfl).2
      have c1 := (hh.fact 1 rfl).2
      have c2 := (hh.fact 2 rfl).2
      have c3 := (hh.fact 3 rfl).2
      have c4 := (hh.fact 4 rfl).2
      have c5 := (hh.fact 5 rfl).2
      have ev : ∀ t, evalOf f (.tmp t) = f t := fun _ => rfl
      have ec : ∀ c, evalOf f (.const c) = c := fun _ => rfl
      have ef : ∀ g, evalOf f (.func g) = .func (.func g) #[] #[] := fun _ => rfl
      refine relUpon_value ?_ hC (Below.refl _ _) rfl
      go_simp
    -- 3: slot 48 := call { value (Operand.func 52), args := #[t47], argTypes := #[86] }
    · intro w L f hC hLi hLd hLn hF
      obtain ⟨d47, _⟩ := hF
      have d47 : f 47 = .agg #[.int .i64 pk, .int .i64 pe, .int .i64 pp, .slice A n c, .string pt, .int .i64 pz] := d47
      refine Step2.live rfl ?_
      have ev : ∀ t, evalOf f (.tmp t) = f t := fun _ => rfl
      have ec : ∀ c, evalOf f (.const c) = c := fun _ => rfl
      have ef : ∀ g, evalOf f (.func g) = .func (.func g) #[] #[] := fun _ => rfl
      refine relUpon_call (f := 52) (args := #[.agg #[.int .i64 pk, .int .i64 pe, .int .i64 pp, .slice A n c, .string pt, .int .i64 pz]]) (w := w) (by go_simp) (refBytesP_row w pk pe pp A n c al pt pz hpk.out hpe.out hpp.out hal.out hn10.out halo.out ((hrw.out.below hC).more hC.size) hpt.out hpz.out) ?_
      rintro e w1 ⟨A', c', he, hb, hl, hB⟩
      exact ⟨_, he, hC.trans (hB.mono hC.size), hB, ⟨A', c', by rw [hlp.out], by rw [hlp.out]; exact hb, by rw [hlp.out]; exact hl⟩⟩
    -- 4: slot 9 := assign t46
    · intro w L f hC hLi hLd hLn hF
      obtain ⟨d46, _⟩ := hF
      refine Step2.live rfl ?_
      exact relUpon_value (v := f 46) rfl (hC) (Below.refl _ _) d46
    -- 5: slot 10 := assign t48
    · intro w L f hC hLi hLd hLn hF
      obtain ⟨d48, _⟩ := hF
      refine Step2.live rfl ?_
      exact relUpon_value (v := f 48) rfl (hC) (Below.refl _ _) d48
  intro x w' hC hV

  obtain ⟨A9, c9, e9, hb9, hc9⟩ := hV 4 _ rfl rfl
  obtain ⟨A10, c10, e10, hb10, hc10⟩ := hV 5 _ rfl rfl
  clear hV
  simp only [framed]
  rw [e9, e10]
  clear e9 e10
  have hB3 := Lib.hid (Nat.le_trans hB2.out hC.size)
  have hb3 := Lib.hid (hb2'.out.trans (hC.mono hB2.out))
  have hlenq := rqE_len (r := ⟨qk, qn, qt, qz⟩) (M := 20000) hqk.out hqn.out hqt.out (by omega) hqz.out
  have hlenp := rpE_len (p := ⟨pk, pe, pp, al, pt, pz⟩) (M := 20000) (N := 1000) hpk.out hpe.out hpp.out (by rw [hal.out]; exact hn10.out) (by omega) halo.out hpt.out (by omega) hpz.out
  have hposq : 0 < lq.length := by rw [hlq.out]; unfold rqE; simp only [List.length_append]; have := numE_pos2 (max 0 qk).toNat; omega
  have hposp : 0 < lp.length := by rw [hlp.out]; unfold rpE; simp only [List.length_append]; have := numE_pos2 (max 0 pk).toNat; omega
  rw [← hlq.out] at hlenq
  rw [← hlp.out] at hlenp
  have hbq := Lib.hid hb9
  have hbp := Lib.hid hb10
  have hmq : Hid (∀ b : UInt8, openQ (lq ++ [b]) = none) := Lib.hid fun b => openQ_rest fun x => by
    rw [hlq.out]
    exact more_not (restQ_whole _ hqk.out hqn.out hqt.out hqz.out) b x
  have hmp : Hid (∀ b : UInt8, openP (lp ++ [b]) = none) := Lib.hid fun b => openP_rest fun x => by
    rw [hlp.out]
    exact more_not (restP_whole _ hpk.out hpe.out hpp.out (by rw [hal.out]; exact hn10.out) halo.out hpt.out hpz.out) b x
  have hkq : Hid (∀ k, k < lq.length → openQ (lq.take k) = none) := Lib.hid fun k hk => openQ_rest fun x => by
    rw [hlq.out] at hk ⊢
    exact cut_not restQ_stab (restQ_whole _ hqk.out hqn.out hqt.out hqz.out) hk x
  have hkp : Hid (∀ k, k < lp.length → openP (lp.take k) = none) := Lib.hid fun k hk => openP_rest fun x => by
    rw [hlp.out] at hk ⊢
    exact cut_not restP_stab (restP_whole _ hpk.out hpe.out hpp.out (by rw [hal.out]; exact hn10.out) halo.out hpt.out hpz.out) hk x
  clear hb9 hb10 hC hlq hlp hqk hqz hpk hpe hpp hpz hal halo hqn hqt hpt hn10 hrw hrq hrp hb2' hB2
  generalize hn9q : lq.length = n9 at hlenq hposq hc9 ⊢
  generalize hn10q : lp.length = n10 at hlenp hposp hc10 ⊢
  have hn9 := Lib.hid hn9q
  have hn10 := Lib.hid hn10q
  clear hn9q hn10q
  obtain ⟨t9, ht9⟩ : ∃ t, t = Int.tmod pos n9 := ⟨_, rfl⟩
  obtain ⟨t10, ht10⟩ : ∃ t, t = Int.tmod pos n10 := ⟨_, rfl⟩
  have hne9 : ¬ n9 = 0 := by omega
  have hne10 : ¬ n10 = 0 := by omega
  have hr9 : -(n9 : Int) < t9 ∧ t9 < n9 := by
    have h1 := Int.tmod_lt_of_pos pos (show (0 : Int) < n9 by omega)
    have h2 := Int.tmod_lt_of_pos (-pos) (show (0 : Int) < n9 by omega)
    rw [Int.neg_tmod] at h2
    omega
  have hr10 : -(n10 : Int) < t10 ∧ t10 < n10 := by
    have h1 := Int.tmod_lt_of_pos pos (show (0 : Int) < n10 by omega)
    have h2 := Int.tmod_lt_of_pos (-pos) (show (0 : Int) < n10 by omega)
    rw [Int.neg_tmod] at h2
    omega
  have ht9 := Lib.hid ht9
  have ht10 := Lib.hid ht10
  rename_i u1 u2
  clear u1 u2
  have hr9 := Lib.hid hr9
  have hr10 := Lib.hid hr10
  rename_i u1 u2
  clear u1 u2
  generalize w' = w3 at *
  go_wp2_with fail
  -- THE REGION THAT DRAWS ITS ORDER, BY ONE LEXICAL WALK OVER GENERIC VALUES (written by relgen.py)
  refine wp_region_tab ((fun _ v => v = .int .i64 pos) ::
    (fun _ v => v = .slice A9 n9 c9) ::
    (fun _ v => v = .int .i64 n9) ::
    (fun _ v => v = .int .i64 t9) ::
    (fun _ v => v = .int .i64 pos) ::
    (fun _ v => v = .slice A10 n10 c10) ::
    (fun _ v => v = .int .i64 n10) ::
    (fun _ v => v = .int .i64 t10) ::
    (fun _ v => v = .int .i64 t9) ::
    (fun _ v => v = .int .i64 t10) :: [])
    (⟨[(2, none)], 0, []⟩ :: ⟨[(9, none)], 0, []⟩ :: ⟨[(50, some 1)], 0, []⟩ :: ⟨[(49, some 0), (51, some 2)], 0, []⟩ :: ⟨[(2, none)], 0, []⟩ :: ⟨[(10, none)], 0, []⟩ :: ⟨[(54, some 5)], 0, []⟩ :: ⟨[(53, some 4), (55, some 6)], 0, []⟩ :: ⟨[(52, some 3)], 0, []⟩ :: ⟨[(56, some 7)], 0, []⟩ :: [])
    (none :: none :: none :: none :: none :: none :: none :: none :: none :: none :: none :: some 8 :: some 9 :: none :: none :: none :: none :: none :: none :: none :: none :: none :: none :: none :: none :: none :: none :: none :: none :: none :: none :: none :: none :: none :: none :: none :: none :: none :: none :: none :: none :: none :: none :: none :: none :: none :: none :: none :: none :: some 0 :: some 1 :: some 2 :: some 3 :: some 4 :: some 5 :: some 6 :: some 7 :: [])
    (fun _ w' => Below w3.heap.size w3 w') (fun _ w w' => Below w.heap.size w w') ?mixK6 ?okK6 ?tabK6 ?frK6 ?inK6 ?keptK6 ?startK6 ?eachK6 ?finK6
  case mixK6 => kernel_rfl
  case okK6 => kernel_rfl
  case tabK6 => kernel_rfl
  case frK6 => kernel_rfl
  case inK6 => rfl
  case keptK6 => exact ⟨fun _ _ _ _ _ _ _ h => h, fun _ _ _ _ _ _ _ h => h, fun _ _ _ _ _ _ _ h => h, fun _ _ _ _ _ _ _ h => h, fun _ _ _ _ _ _ _ h => h, fun _ _ _ _ _ _ _ h => h, fun _ _ _ _ _ _ _ h => h, fun _ _ _ _ _ _ _ h => h, fun _ _ _ _ _ _ _ h => h, fun _ _ _ _ _ _ _ h => h, trivial⟩
  case startK6 => exact (Below.refl _ _).drew
  case eachK6 =>
    refine ⟨?_, ?_, ?_, ?_, ?_, ?_, ?_, ?_, ?_, ?_, trivial⟩
    -- 0: slot 49 := move t2
    · intro w L f hC hLi hLd hLn hF
      obtain ⟨d2, _⟩ := hF
      have d2 : f 2 = .int .i64 pos := d2
      refine Step2.live rfl ?_
      exact relUpon_value (v := f 2) rfl (hC) (Below.refl _ _) d2
    -- 1: slot 50 := move t9
    · intro w L f hC hLi hLd hLn hF
      obtain ⟨d9, _⟩ := hF
      have d9 : f 9 = .slice A9 n9 c9 := d9
      refine Step2.live rfl ?_
      exact relUpon_value (v := f 9) rfl (hC) (Below.refl _ _) d9
    -- 2: slot 51 := call { builtin len, args := #[t50], argTypes := #[26] }
    · intro w L f hC hLi hLd hLn hF
      obtain ⟨d50, _⟩ := hF
      have d50 : f 50 = .slice A9 n9 c9 := d50
      refine Step2.live rfl ?_
      have ev : ∀ t, evalOf f (.tmp t) = f t := fun _ => rfl
      have ec : ∀ c, evalOf f (.const c) = c := fun _ => rfl
      refine relUpon_value ?_ (hC) (Below.refl _ _) rfl
      go_simp
    -- 3: slot 52 := binOp BinOp.rem 3 t49 t51 3
    · intro w L f hC hLi hLd hLn hF
      obtain ⟨d49, d51, _⟩ := hF
      have d49 : f 49 = .int .i64 pos := d49
      have d51 : f 51 = .int .i64 n9 := d51
      refine Step2.live rfl ?_
      have ev : ∀ t, evalOf f (.tmp t) = f t := fun _ => rfl
      have ec : ∀ c, evalOf f (.const c) = c := fun _ => rfl
      have ef : ∀ g, evalOf f (.func g) = .func (.func g) #[] #[] := fun _ => rfl
      refine relUpon_value ?_ hC (Below.refl _ _) rfl
      go_simp
      rw [← ht9.out]
    -- 4: slot 53 := move t2
    · intro w L f hC hLi hLd hLn hF
      obtain ⟨d2, _⟩ := hF
      have d2 : f 2 = .int .i64 pos := d2
      refine Step2.live rfl ?_
      exact relUpon_value (v := f 2) rfl (hC) (Below.refl _ _) d2
    -- 5: slot 54 := move t10
    · intro w L f hC hLi hLd hLn hF
      obtain ⟨d10, _⟩ := hF
      have d10 : f 10 = .slice A10 n10 c10 := d10
      refine Step2.live rfl ?_
      exact relUpon_value (v := f 10) rfl (hC) (Below.refl _ _) d10
    -- 6: slot 55 := call { builtin len, args := #[t54], argTypes := #[26] }
    · intro w L f hC hLi hLd hLn hF
      obtain ⟨d54, _⟩ := hF
      have d54 : f 54 = .slice A10 n10 c10 := d54
      refine Step2.live rfl ?_
      have ev : ∀ t, evalOf f (.tmp t) = f t := fun _ => rfl
      have ec : ∀ c, evalOf f (.const c) = c := fun _ => rfl
      refine relUpon_value ?_ (hC) (Below.refl _ _) rfl
      go_simp
    -- 7: slot 56 := binOp BinOp.rem 3 t53 t55 3
    · intro w L f hC hLi hLd hLn hF
      obtain ⟨d53, d55, _⟩ := hF
      have d53 : f 53 = .int .i64 pos := d53
      have d55 : f 55 = .int .i64 n10 := d55
      refine Step2.live rfl ?_
      have ev : ∀ t, evalOf f (.tmp t) = f t := fun _ => rfl
      have ec : ∀ c, evalOf f (.const c) = c := fun _ => rfl
      have ef : ∀ g, evalOf f (.func g) = .func (.func g) #[] #[] := fun _ => rfl
      refine relUpon_value ?_ hC (Below.refl _ _) rfl
      go_simp
      rw [← ht10.out]
    -- 8: slot 11 := assign t52
    · intro w L f hC hLi hLd hLn hF
      obtain ⟨d52, _⟩ := hF
      have d52 : f 52 = .int .i64 t9 := d52
      refine Step2.live rfl ?_
      exact relUpon_value (v := f 52) rfl (hC) (Below.refl _ _) d52
    -- 9: slot 12 := assign t56
    · intro w L f hC hLi hLd hLn hF
      obtain ⟨d56, _⟩ := hF
      have d56 : f 56 = .int .i64 t10 := d56
      refine Step2.live rfl ?_
      exact relUpon_value (v := f 56) rfl (hC) (Below.refl _ _) d56
  intro x w' hC hV

  have e11 : x 8 = .int .i64 t9 := hV 8 _ rfl rfl
  have e12 : x 9 = .int .i64 t10 := hV 9 _ rfl rfl
  clear hV
  simp only [framed]
  rw [e11, e12]
  clear e11 e12
  have hB4 := Lib.hid (Nat.le_trans hB3.out hC.size)
  have hb4 := Lib.hid (hb3.out.trans (hC.mono hB3.out))
  have hbq4 := Lib.hid (hbq.out.up hC)
  have hbp4 := Lib.hid (hbp.out.up hC)
  clear hbq hbp hB3 hb3 hC ht9 ht10 hne9 hne10
  obtain ⟨j9, hj9, h9⟩ : ∃ j : Nat, j < n9 ∧ (t9 = -j ∧ 0 < j ∨ t9 = j) := by
    have := hr9.out
    rcases (show t9 < 0 ∨ 0 ≤ t9 by omega) with h | h
    · exact ⟨(-t9).toNat, by omega, .inl ⟨by omega, by omega⟩⟩
    · exact ⟨t9.toNat, by omega, .inr (by omega)⟩
  obtain ⟨j10, hj10, h10⟩ : ∃ j : Nat, j < n10 ∧ (t10 = -j ∧ 0 < j ∨ t10 = j) := by
    have := hr10.out
    rcases (show t10 < 0 ∨ 0 ≤ t10 by omega) with h | h
    · exact ⟨(-t10).toNat, by omega, .inl ⟨by omega, by omega⟩⟩
    · exact ⟨t10.toNat, by omega, .inr (by omega)⟩
  clear hr9 hr10
  rcases h9 with ⟨rfl, hp9⟩ | rfl
  all_goals rcases h10 with ⟨rfl, hp10⟩ | rfl
  all_goals go_wp2_with fail
  all_goals
    refine (openQ_any w' A9 j9 c9 (lq.take j9) (hbq4.out.take j9) (by have := hn9.out; simp; omega) (by omega)).mono ?_
    rintro e w5 ⟨rfl, hb5⟩
    rw [hkq.out j9 (by have := hn9.out; omega)]
    unfold retQ
    simp only
    have hn5 := below_new w5 (.cells #[.int .i64 0, .string ⟨#[]⟩, .string ⟨#[]⟩, .int .i64 0] 78)
    have hb5' := hb5.trans (hn5.mono hb5.size)
    have hn6 := Lib.hid (hbq4.out.up hb5')
    have hp6 := Lib.hid (hbp4.out.up hb5')
    have hB6 := Lib.hid (Nat.le_trans hB4.out hb5'.size)
    have hb6 := Lib.hid (hb4.out.trans (hb5'.mono hB4.out))
    clear hb5 hb5' hn5 hbq4 hbp4 hB4 hb4
    obtain ⟨iA, hiA, hzA0, hzA1, hzA2⟩ := info_parts Try.infoByte
    go_wp2_with
      (at_builtin
       first
       | (refine wpList_append_row _ rfl (.const (.slice none 0 0)) (.tmp 73) 26 rfl (w5.alloc (.cells #[.int .i64 0, .string ⟨#[]⟩, .string ⟨#[]⟩, .int .i64 0] 78)).heap.size 5 iA (.int .u8 0) 1 Try.underlying26 hiA hzA0 hzA1 hzA2 rfl (.slice none 0 0) 0 [] rfl (World.ownsRow_nil _ _ _ _) (w5.alloc (.cells #[.int .i64 0, .string ⟨#[]⟩, .string ⟨#[]⟩, .int .i64 0] 78)).heap.size A9 n9 c9 (lq.map byteV) rfl (by simp; exact hn9.out) hn6.out (by intro u hu; simp at hu; obtain ⟨b, _, rfl⟩ := hu; rfl) (by unfold maxLen; omega) (by omega) (Nat.le_refl _) ?_
          intro v7 w7 ho7 hg7 _
          simp only [Nat.zero_add, List.nil_append] at ho7
          have ho7' := Lib.hid ho7
          have hg7' := Lib.hid hg7
          clear ho7 hg7)
       | (refine wpList_append_row _ rfl (.tmp 74) (.tmp 76) 26 rfl (w5.alloc (.cells #[.int .i64 0, .string ⟨#[]⟩, .string ⟨#[]⟩, .int .i64 0] 78)).heap.size 5 iA (.int .u8 0) 1 Try.underlying26 hiA hzA0 hzA1 hzA2 rfl v7 n9 (lq.map byteV) rfl (own_below ho7'.out (below_new _ _)) _ (some ⟨w7.heap.size, 0, none⟩) 1 1 [.int .u8 mo.toNat] rfl rfl (Row.one _ _ _) (by intro u hu; simp at hu; subst hu; rfl) (by unfold maxLen; omega) (by omega) (Nat.le_trans hg7'.out.size (below_new _ _).size) ?_
          intro v8 w8 ho8 hg8 _
          have ho8' := Lib.hid ho8
          have hba8 := Lib.hid (below_append2 hg7'.out ho7'.out hg8)
          clear ho8 hg8 ho7' hg7'))
    obtain ⟨A8, c8, e8, hr8, _, hc8⟩ := own_row ho8'.out
    rw [show (lq.map byteV ++ [Value.int .u8 mo.toNat]) = (lq ++ [mo]).map byteV by simp [byteV]] at hr8
    rw [e8]
    have hp8 := Lib.hid (hp6.out.up hba8.out)
    have hB8 := Lib.hid (Nat.le_trans hB6.out hba8.out.size)
    have hb8 := Lib.hid (hb6.out.trans (hba8.out.mono hB6.out))
    have hr8' := Lib.hid hr8
    clear hr8 hp6 hB6 hb6 hba8 ho8'
    refine (openQ_any w8 A8 (n9 + 1) c8 (lq ++ [mo]) hr8'.out (by simp; exact hn9.out) (by omega)).mono ?_
    rintro e w9 ⟨rfl, hb9⟩
    rw [hmq.out mo]
    unfold retQ
    simp only
    have hn9' := below_new w9 (.cells #[.int .i64 0, .string ⟨#[]⟩, .string ⟨#[]⟩, .int .i64 0] 78)
    have hb9' := hb9.trans (hn9'.mono hb9.size)
    have hp9 := Lib.hid (hp8.out.up hb9')
    have hB9 := Lib.hid (Nat.le_trans hB8.out hb9'.size)
    have hb9'' := Lib.hid (hb8.out.trans (hb9'.mono hB8.out))
    clear hb9 hb9' hn9' hp8 hB8 hb8 hr8'
    go_wp2_with fail
    generalize w9.alloc (.cells #[.int .i64 0, .string ⟨#[]⟩, .string ⟨#[]⟩, .int .i64 0] 78) = w10 at hp9 hB9 hb9'' ⊢
    refine (openP_any w10 A10 j10 c10 (lp.take j10) (hp9.out.take j10) (by have := hn10.out; simp; omega) (by omega)).mono ?_
    rintro e w11 ⟨hR, hb11⟩
    unfold RetP at hR
    rw [hkp.out j10 (by have := hn10.out; omega)] at hR
    simp only at hR
    subst hR
    have hn11 := below_new w11 (.cells #[.int .i64 0, .int .i64 0, .int .i64 0, .slice none 0 0, .string ⟨#[]⟩, .int .i64 0] 86)
    have hb11' := hb11.trans (hn11.mono hb11.size)
    have hp12 := Lib.hid (hp9.out.up hb11')
    have hB12 := Lib.hid (Nat.le_trans hB9.out hb11'.size)
    have hb12 := Lib.hid (hb9''.out.trans (hb11'.mono hB9.out))
    clear hb11 hb11' hn11 hp9 hB9 hb9''
    go_wp2_with
      (at_builtin
       first
       | (refine wpList_append_row _ rfl (.const (.slice none 0 0)) (.tmp 89) 26 rfl (w11.alloc (.cells #[.int .i64 0, .int .i64 0, .int .i64 0, .slice none 0 0, .string ⟨#[]⟩, .int .i64 0] 86)).heap.size 5 iA (.int .u8 0) 1 Try.underlying26 hiA hzA0 hzA1 hzA2 rfl (.slice none 0 0) 0 [] rfl (World.ownsRow_nil _ _ _ _) (w11.alloc (.cells #[.int .i64 0, .int .i64 0, .int .i64 0, .slice none 0 0, .string ⟨#[]⟩, .int .i64 0] 86)).heap.size A10 n10 c10 (lp.map byteV) rfl (by simp; exact hn10.out) hp12.out (by intro u hu; simp at hu; obtain ⟨b, _, rfl⟩ := hu; rfl) (by unfold maxLen; omega) (by omega) (Nat.le_refl _) ?_
          intro v13 w13 ho13 hg13 _
          simp only [Nat.zero_add, List.nil_append] at ho13
          have ho13' := Lib.hid ho13
          have hg13' := Lib.hid hg13
          clear ho13 hg13)
       | (refine wpList_append_row _ rfl (.tmp 90) (.tmp 92) 26 rfl (w11.alloc (.cells #[.int .i64 0, .int .i64 0, .int .i64 0, .slice none 0 0, .string ⟨#[]⟩, .int .i64 0] 86)).heap.size 5 iA (.int .u8 0) 1 Try.underlying26 hiA hzA0 hzA1 hzA2 rfl v13 n10 (lp.map byteV) rfl (own_below ho13'.out (below_new _ _)) _ (some ⟨w13.heap.size, 0, none⟩) 1 1 [.int .u8 mo.toNat] rfl rfl (Row.one _ _ _) (by intro u hu; simp at hu; subst hu; rfl) (by unfold maxLen; omega) (by omega) (Nat.le_trans hg13'.out.size (below_new _ _).size) ?_
          intro v14 w14 ho14 hg14 _
          have ho14' := Lib.hid ho14
          have hba14 := Lib.hid (below_append2 hg13'.out ho13'.out hg14)
          clear ho14 hg14 ho13' hg13'))
    obtain ⟨A14, c14, e14, hr14, _, hc14⟩ := own_row ho14'.out
    rw [show (lp.map byteV ++ [Value.int .u8 mo.toNat]) = (lp ++ [mo]).map byteV by simp [byteV]] at hr14
    rw [e14]
    have hB14 := Lib.hid (Nat.le_trans hB12.out hba14.out.size)
    have hb14 := Lib.hid (hb12.out.trans (hba14.out.mono hB12.out))
    have hr14' := Lib.hid hr14
    clear hr14 hp12 hB12 hb12 hba14 ho14'
    refine (openP_any w14 A14 (n10 + 1) c14 (lp ++ [mo]) hr14'.out (by simp; exact hn10.out) (by omega)).mono ?_
    rintro e w15 ⟨hR, hb15⟩
    unfold RetP at hR
    rw [hmp.out mo] at hR
    simp only at hR
    subst hR
    have hn15 := below_new w15 (.cells #[.int .i64 0, .int .i64 0, .int .i64 0, .slice none 0 0, .string ⟨#[]⟩, .int .i64 0] 86)
    have hb15' := Lib.hid (hb14.out.trans ((hb15.trans (hn15.mono hb15.size)).mono hB14.out))
    clear hb15 hn15 hb14 hB14 hr14'
    go_wp2_with fail
    go_ret
    exact ⟨rfl, hb15'.out⟩
theorem cutsq_walk (W : World) (v0 v1 v2 v3 : Value) (o0 : ArgOk 78 W v0) (o1 : ArgOk 86 W v1) (o2 : ArgOk 3 W v2) (o3 : ArgOk 5 W v3) :
    Calls Try.prog 12 #[v0, v1, v2, v3] W fun e w' => e = .returned (.bool true) ∧ Below W.heap.size W w' := by
  obtain ⟨qk, qn, qt, qz, rfl, h1, h2, h3, h4⟩ := o0.req
  obtain ⟨pk, pe, pp, A, n, c, al, pt, pz, rfl, g1, g2, g3, g4, g5, g6, g7, g8, g9, g10⟩ := o1.rep
  obtain ⟨pos, rfl, p1, p2⟩ := o2.int
  obtain ⟨x, rfl, hx⟩ := o3.u8
  have := cutsq_B W W.heap.size (Lib.hid (Nat.le_refl _)) qk qn qt qz pk pe pp A n c al pt pz pos (UInt8.ofNat x) h1 h4 g1 g2 g3 g10 g4 g7 g8 ⟨p1, p2⟩
  rw [show ((UInt8.ofNat x).toNat : Int) = x by simp; omega] at this
  exact this
end Go.Proofs.Ytimhghmnnibajaa
