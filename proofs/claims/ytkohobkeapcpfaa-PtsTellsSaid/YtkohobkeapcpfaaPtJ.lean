/-
  The walk of augurlaw14.known.
-/
import Derived.Test.YtkohobkeapcpfaaPtI
import Derived.Test.YtkohobkeapcpfaaPtC
import Derived.Test.YtkohobkeapcpfaaPtE
namespace Go.Proofs.Ytkohobkeapcpfaa
open Go.RowKit

set_option maxRecDepth 100000 in
set_option maxHeartbeats 4000000 in
theorem known_any (w0 : World) : Calls Try.prog 7 #[] w0 fun e w' => e = .returned (.bool true) ∧ Below w0.heap.size w0 w' := by
  go_enter Try.func7, Try.ntmps7
  go_wp2_with fail
  refine (null_any w0).mono ?_
  rintro e w1 ⟨⟨v1, rfl, A1, c1, rfl, hr1, hc1⟩, hb1⟩
  have hr1' := Lib.hid hr1
  have hb1' := Lib.hid hb1
  clear hr1 hb1
  simp only [List.length_nil] at *
  go_wp2_with fail
  have k2 := below_new w1 (.cells #[encStr [98], encStr [97], encStr [98]] 9)
  have hrow2 := Row.fresh w1 9 [encStr [98], encStr [97], encStr [98]]
  have hr1a := (hr1'.out.below k2).more k2.size
  have hb2 := hb1'.out.trans (k2.mono hb1'.out.size)
  clear hr1' hb1' k2
  refine (to_any _ (some ⟨w1.heap.size, 0, none⟩) 3 3 [[98], [97], [98]] rfl hrow2 (by decide)).mono ?_
  rintro e w2 ⟨⟨v2, rfl, hv2⟩, hb3⟩
  rw [cnBAB] at hv2
  obtain ⟨A2, c2, rfl, hr2, hc2⟩ := hv2
  have hr1' := Lib.hid ((hr1a.below hb3).more hb3.size)
  have hr2' := Lib.hid hr2
  have hb4 := Lib.hid (hb2.trans (hb3.mono hb2.size))
  clear hr1a hr2 hb2 hb3 hrow2
  go_wp2_with fail
  have hL := PtsL.fresh w2 25 [⟨⟨true, []⟩, A1, c1⟩, ⟨⟨false, [[97], [98]]⟩, A2, c2⟩] _ rfl (by
    intro q hq
    simp only [List.mem_cons, List.not_mem_nil, or_false] at hq
    rcases hq with rfl | rfl
    · exact ⟨hr1'.out, hc1⟩
    · exact ⟨hr2'.out, hc2⟩)
  have k3 := below_new w2 (.cells (List.flatMap Pq.cells [⟨⟨true, []⟩, A1, c1⟩, ⟨⟨false, [[97], [98]]⟩, A2, c2⟩]).toArray 25)
  have hb5 := Lib.hid (hb4.out.trans (k3.mono hb4.out.size))
  clear k3
  refine (join_any _ (some ⟨w2.heap.size, 0, none⟩) 2 2 [⟨⟨true, []⟩, A1, c1⟩, ⟨⟨false, [[97], [98]]⟩, A2, c2⟩] rfl (by decide) hL (by simp)).mono ?_
  rintro e w3 ⟨⟨v3, rfl, hv3⟩, hb6⟩
  rw [show joinP [⟨⟨true, []⟩, A1, c1⟩, ⟨⟨false, [[97], [98]]⟩, A2, c2⟩] = ⟨true, [[97], [98]]⟩ from by
    unfold joinP
    rw [show (List.flatMap (fun q : Pq => q.p.cells) [⟨⟨true, []⟩, A1, c1⟩, ⟨⟨false, [[97], [98]]⟩, A2, c2⟩]) = [[97], [98]] from rfl, cnAB]
    rfl] at hv3
  obtain ⟨Ap, cp, rfl, hrp, hcp⟩ := hv3
  have hrp' := Lib.hid hrp
  have hb7 := Lib.hid (hb5.out.trans (hb6.mono hb5.out.size))
  clear hrp hb6 hb5 hL
  have hgN := Lib.hid (Holds.new w3 25 #[.bool true, .slice Ap 2 cp])
  have k4 := below_new w3 (.cells #[.bool true, .slice Ap 2 cp] 25)
  have hpN : Hid (PtsV (w3.alloc (.cells #[.bool true, .slice Ap 2 cp] 25)) ⟨true, [[97], [98]]⟩ (.agg #[.bool true, .slice Ap 2 cp])) := Lib.hid (PtsV.up ⟨Ap, cp, rfl, hrp'.out, hcp⟩ k4)
  have hb8 := Lib.hid (hb7.out.trans (k4.mono hb7.out.size))
  clear k4 hb7 hrp'
  go_wp2_with fail
  generalize w3.alloc (.cells #[.bool true, .slice Ap 2 cp] 25) = wr at *
  generalize w3.heap.size = g at *
  have hg := hgN
  have hpv := hpN
  clear hgN hpN
  -- THE REGION THAT DRAWS ITS ORDER, BY ONE LEXICAL WALK OVER GENERIC VALUES (written by relgen.py)
  refine wp_region_tab ((fun _ v => v = .agg #[.bool true, .slice Ap 2 cp]) ::
    (fun _ v => v = .string ⟨#[123, 110, 117, 108, 108, 44, 97, 44, 98, 125]⟩) ::
    (fun _ v => v = .bool true) ::
    (fun _ v => v = .bool true) ::
    (fun w v => ∃ A c, v = .slice A 1 c ∧ 1 ≤ c ∧ Row w w.heap.size A (([[97]]).map encStr)) ::
    (fun w v => PtsV w (⟨false, [[97]]⟩) v) ::
    (fun w v => PtsV w (⟨false, []⟩) v) ::
    (fun _ v => v = .bool true) ::
    (fun _ v => v = .bool true) ::
    (fun _ v => v = .bool true) ::
    (fun _ v => v = .agg #[.bool true, .slice Ap 2 cp]) ::
    (fun w v => PtsV w (⟨false, [[97], [98]]⟩) v) ::
    (fun w v => ∃ A c, v = .slice A 2 c ∧ 2 ≤ c ∧ Row w w.heap.size A (([[97], [98]]).map encStr)) ::
    (fun w v => PtsV w (⟨false, [[97], [98]]⟩) v) ::
    (fun _ v => v = .bool true) ::
    (fun _ v => v = .bool true) ::
    (fun _ v => v = .bool true) ::
    (fun w v => ∃ A c, v = .slice A 2 c ∧ 2 ≤ c ∧ Row w w.heap.size A (([[98], [97]]).map encStr)) ::
    (fun w v => PtsV w (⟨true, [[97], [98]]⟩) v) ::
    (fun _ v => v = .agg #[.bool true, .slice Ap 2 cp]) ::
    (fun _ v => v = .bool true) ::
    (fun _ v => v = .bool true) ::
    (fun _ v => v = .bool true) ::
    (fun w v => PtsV w (⟨true, []⟩) v) ::
    (fun _ v => v = .agg #[.bool true, .slice Ap 2 cp]) ::
    (fun _ v => v = .bool true) ::
    (fun _ v => v = .bool true) ::
    (fun _ v => v = .bool true) :: [])
    (⟨[(1, none)], 0, []⟩ :: ⟨[(7, some 0)], 0, []⟩ :: ⟨[(8, some 1)], 0, []⟩ :: ⟨[(9, some 2)], 0, []⟩ :: ⟨[(10, some 3)], 10, []⟩ :: ⟨[(11, some 4), (10, some 3)], 10, []⟩ :: ⟨[(12, some 5), (10, some 3)], 10, []⟩ :: ⟨[(13, some 6), (10, some 3)], 10, []⟩ :: ⟨[(10, some 3), (14, some 7)], 0, []⟩ :: ⟨[(15, some 8)], 0, []⟩ :: ⟨[(1, none), (16, some 9)], 16, []⟩ :: ⟨[(17, some 10), (16, some 9)], 16, []⟩ :: ⟨[(16, some 9)], 16, []⟩ :: ⟨[(19, some 12), (16, some 9)], 16, []⟩ :: ⟨[(18, some 11), (20, some 13), (16, some 9)], 16, []⟩ :: ⟨[(16, some 9), (21, some 14)], 0, []⟩ :: ⟨[(22, some 15)], 0, []⟩ :: ⟨[(23, some 16)], 23, []⟩ :: ⟨[(24, some 17), (23, some 16)], 23, []⟩ :: ⟨[(1, none), (23, some 16)], 23, []⟩ :: ⟨[(25, some 18), (26, some 19), (23, some 16)], 23, []⟩ :: ⟨[(23, some 16), (27, some 20)], 0, []⟩ :: ⟨[(28, some 21)], 0, []⟩ :: ⟨[(29, some 22)], 29, []⟩ :: ⟨[(1, none), (29, some 22)], 29, []⟩ :: ⟨[(30, some 23), (31, some 24), (29, some 22)], 29, []⟩ :: ⟨[(29, some 22), (32, some 25)], 0, []⟩ :: ⟨[(33, some 26)], 0, []⟩ :: [])
    (some 27 :: none :: none :: none :: none :: none :: none :: some 0 :: some 1 :: some 2 :: some 3 :: some 4 :: some 5 :: some 6 :: some 7 :: some 8 :: some 9 :: some 10 :: some 11 :: some 12 :: some 13 :: some 14 :: some 15 :: some 16 :: some 17 :: some 18 :: some 19 :: some 20 :: some 21 :: some 22 :: some 23 :: some 24 :: some 25 :: some 26 :: [])
    (fun _ w' => Below wr.heap.size wr w') (fun _ w w' => Below w.heap.size w w') ?mixK2known ?okK2known ?tabK2known ?frK2known ?inK2known ?keptK2known ?startK2known ?eachK2known ?finK2known
  case mixK2known => kernel_rfl
  case okK2known => kernel_rfl
  case tabK2known => kernel_rfl
  case frK2known => kernel_rfl
  case inK2known => rfl
  case keptK2known => exact ⟨fun _ _ _ _ _ _ _ h => h, fun _ _ _ _ _ _ _ h => h, fun _ _ _ _ _ _ _ h => h, fun _ _ _ _ _ _ _ h => h, fun _ _ _ => fun w w' v hG ⟨A, c, e, hc, h⟩ => ⟨A, c, e, hc, (h.below hG).more hG.size⟩, fun _ _ _ => fun w w' v hG h => h.up hG, fun _ _ _ => fun w w' v hG h => h.up hG, fun _ _ _ _ _ _ _ h => h, fun _ _ _ _ _ _ _ h => h, fun _ _ _ _ _ _ _ h => h, fun _ _ _ _ _ _ _ h => h, fun _ _ _ => fun w w' v hG h => h.up hG, fun _ _ _ => fun w w' v hG ⟨A, c, e, hc, h⟩ => ⟨A, c, e, hc, (h.below hG).more hG.size⟩, fun _ _ _ => fun w w' v hG h => h.up hG, fun _ _ _ _ _ _ _ h => h, fun _ _ _ _ _ _ _ h => h, fun _ _ _ _ _ _ _ h => h, fun _ _ _ => fun w w' v hG ⟨A, c, e, hc, h⟩ => ⟨A, c, e, hc, (h.below hG).more hG.size⟩, fun _ _ _ => fun w w' v hG h => h.up hG, fun _ _ _ _ _ _ _ h => h, fun _ _ _ _ _ _ _ h => h, fun _ _ _ _ _ _ _ h => h, fun _ _ _ _ _ _ _ h => h, fun _ _ _ => fun w w' v hG h => h.up hG, fun _ _ _ _ _ _ _ h => h, fun _ _ _ _ _ _ _ h => h, fun _ _ _ _ _ _ _ h => h, fun _ _ _ _ _ _ _ h => h, trivial⟩
  case startK2known => exact (Below.refl _ _).drew
  case eachK2known =>
    refine ⟨?_, ?_, ?_, ?_, ?_, ?_, ?_, ?_, ?_, ?_, ?_, ?_, ?_, ?_, ?_, ?_, ?_, ?_, ?_, ?_, ?_, ?_, ?_, ?_, ?_, ?_, ?_, ?_, trivial⟩
    -- 0: slot 7 := load 25 t1
    · intro w L f hC hLi hLd hLn hF
      obtain ⟨d1, _⟩ := hF
      have d1 : f 1 = .pointer (some ⟨g, 0, none⟩) := d1
      refine Step2.live rfl ?_
      have hh := hg.out.below hC hg.out.lt
      have f0 := (hh.fact 0 rfl).2
      have f1 := (hh.fact 1 rfl).2
      have ev : ∀ t, evalOf f (.tmp t) = f t := fun _ => rfl
      have ec : ∀ c, evalOf f (.const c) = c := fun _ => rfl
      have ef : ∀ g, evalOf f (.func g) = .func (.func g) #[] #[] := fun _ => rfl
      refine relUpon_value ?_ hC (Below.refl _ _) rfl
      go_simp
    -- 1: slot 8 := call { value (Operand.func 19), args := #[t7], argTypes := #[25] }
    · intro w L f hC hLi hLd hLn hF
      obtain ⟨d7, _⟩ := hF
      have d7 : f 7 = .agg #[.bool true, .slice Ap 2 cp] := d7
      refine Step2.live rfl ?_
      have ev : ∀ t, evalOf f (.tmp t) = f t := fun _ => rfl
      have ec : ∀ c, evalOf f (.const c) = c := fun _ => rfl
      have ef : ∀ g, evalOf f (.func g) = .func (.func g) #[] #[] := fun _ => rfl
      refine relUpon_call (f := 19) (args := #[.agg #[.bool true, .slice Ap 2 cp]]) (w := w) (by go_simp) (text_any w ⟨true, [[97], [98]]⟩ _ (hpv.out.up hC) (by decide) (by decide)) ?_
      rintro e w1 ⟨he, hB⟩
      exact ⟨_, he, hC.trans (hB.mono hC.size), hB, congrArg Value.string knownText⟩
    -- 2: slot 9 := binOp BinOp.eql 9 t8 (const (Value.string { data := #[123, 110, 117, 108, 108, 44, 97, 44,
    · intro w L f hC hLi hLd hLn hF
      obtain ⟨d8, _⟩ := hF
      have d8 : f 8 = .string ⟨#[123, 110, 117, 108, 108, 44, 97, 44, 98, 125]⟩ := d8
      refine Step2.live rfl ?_
      have ev : ∀ t, evalOf f (.tmp t) = f t := fun _ => rfl
      have ec : ∀ c, evalOf f (.const c) = c := fun _ => rfl
      refine relUpon_value ?_ (hC) (Below.refl _ _) rfl
      go_simp
    -- 3: slot 10 := move t9
    · intro w L f hC hLi hLd hLn hF
      obtain ⟨d9, _⟩ := hF
      have d9 : f 9 = .bool true := d9
      refine Step2.live rfl ?_
      exact relUpon_value (v := f 9) rfl (hC) (Below.refl _ _) d9
    -- 4: slot 11 := buildSlice 23 1 #[(0, const (Value.string { data := #[97] }))]
    · intro w L f hC hLi hLd hLn hF
      obtain ⟨d10, _⟩ := hF
      have d10 : f 10 = .bool true := d10
      refine Step2.live (show wantedBy _ (f 10) = true by rw [d10]; rfl) ?_
      have hbn := below_new w (.cells #[.string ⟨#[97]⟩] 9)
      have ev : ∀ t, evalOf f (.tmp t) = f t := fun _ => rfl
      have ec : ∀ c, evalOf f (.const c) = c := fun _ => rfl
      have ef : ∀ g, evalOf f (.func g) = .func (.func g) #[] #[] := fun _ => rfl
      refine relUpon_value (w' := w.alloc (.cells #[.string ⟨#[97]⟩] 9)) (v := .slice (some ⟨w.heap.size, 0, none⟩) 1 1) (by go_simp) (hC.trans (hbn.mono hC.size)) hbn ⟨_, _, rfl, Nat.le_refl _, Row.fresh w 9 [.string ⟨#[97]⟩]⟩
    -- 5: slot 12 := call { value (Operand.func 21), args := #[t11], argTypes := #[23] }
    · intro w L f hC hLi hLd hLn hF
      obtain ⟨d11, d10, _⟩ := hF
      have d10 : f 10 = .bool true := d10
      refine Step2.live (show wantedBy _ (f 10) = true by rw [d10]; rfl) ?_
      obtain ⟨A11, c11, e11, hc11, hr11⟩ := d11
      have ev : ∀ t, evalOf f (.tmp t) = f t := fun _ => rfl
      have ec : ∀ c, evalOf f (.const c) = c := fun _ => rfl
      have ef : ∀ g, evalOf f (.func g) = .func (.func g) #[] #[] := fun _ => rfl
      refine relUpon_call (f := 21) (args := #[.slice A11 1 c11]) (w := w) (by go_simp) (to_any w A11 1 c11 [[97]] rfl hr11 (by decide)) ?_
      rintro e w1 ⟨⟨v, he, hv⟩, hB⟩
      exact ⟨_, he, hC.trans (hB.mono hC.size), hB, by rw [cnA] at hv; exact hv⟩
    -- 6: slot 13 := call { value (Operand.func 18), args := #[t12], argTypes := #[25] }
    · intro w L f hC hLi hLd hLn hF
      obtain ⟨d12, d10, _⟩ := hF
      have d10 : f 10 = .bool true := d10
      refine Step2.live (show wantedBy _ (f 10) = true by rw [d10]; rfl) ?_
      obtain ⟨A12, c12, e12, hr12, hc12⟩ := d12
      have ev : ∀ t, evalOf f (.tmp t) = f t := fun _ => rfl
      have ec : ∀ c, evalOf f (.const c) = c := fun _ => rfl
      have ef : ∀ g, evalOf f (.func g) = .func (.func g) #[] #[] := fun _ => rfl
      refine relUpon_call (f := 18) (args := #[.agg #[.bool (Pz.nul ⟨false, [[97]]⟩), .slice A12 (List.length (Pz.cells ⟨false, [[97]]⟩)) c12]]) (w := w) (by go_simp) (onlyNull_any w ⟨false, [[97]]⟩ _ ⟨A12, c12, rfl, hr12, hc12⟩) ?_
      rintro e w1 ⟨⟨v, he, hv⟩, hB⟩
      exact ⟨_, he, hC.trans (hB.mono hC.size), hB, hv⟩
    -- 7: slot 14 := call { value (Operand.func 15), args := #[t13], argTypes := #[25] }
    · intro w L f hC hLi hLd hLn hF
      obtain ⟨d13, d10, _⟩ := hF
      have d10 : f 10 = .bool true := d10
      refine Step2.live (show wantedBy _ (f 10) = true by rw [d10]; rfl) ?_
      obtain ⟨A13, c13, e13, hr13, hc13⟩ := d13
      have ev : ∀ t, evalOf f (.tmp t) = f t := fun _ => rfl
      have ec : ∀ c, evalOf f (.const c) = c := fun _ => rfl
      have ef : ∀ g, evalOf f (.func g) = .func (.func g) #[] #[] := fun _ => rfl
      refine relUpon_call (f := 15) (args := #[.agg #[.bool (Pz.nul ⟨false, []⟩), .slice A13 (List.length (Pz.cells ⟨false, []⟩)) c13]]) (w := w) (by go_simp) (empty_any w ⟨false, []⟩ _ ⟨A13, c13, rfl, hr13, hc13⟩ (by decide)) ?_
      rintro e w1 ⟨he, hB⟩
      exact ⟨_, he, hC.trans (hB.mono hC.size), hB, rfl⟩
    -- 8: slot 15 := pick t10 t14 (const (Value.bool false))
    · intro w L f hC hLi hLd hLn hF
      obtain ⟨d10, d14, _⟩ := hF
      have d10 : f 10 = .bool true := d10
      have d14 : f 14 = .bool true := d14
      refine Step2.live rfl ?_
      have ev : ∀ t, evalOf f (.tmp t) = f t := fun _ => rfl
      have ec : ∀ c, evalOf f (.const c) = c := fun _ => rfl
      refine relUpon_value ?_ (hC) (Below.refl _ _) rfl
      go_simp
    -- 9: slot 16 := move t15
    · intro w L f hC hLi hLd hLn hF
      obtain ⟨d15, _⟩ := hF
      have d15 : f 15 = .bool true := d15
      refine Step2.live rfl ?_
      exact relUpon_value (v := f 15) rfl (hC) (Below.refl _ _) d15
    -- 10: slot 17 := load 25 t1
    · intro w L f hC hLi hLd hLn hF
      obtain ⟨d1, d16, _⟩ := hF
      have d1 : f 1 = .pointer (some ⟨g, 0, none⟩) := d1
      have d16 : f 16 = .bool true := d16
      refine Step2.live (show wantedBy _ (f 16) = true by rw [d16]; rfl) ?_
      have hh := hg.out.below hC hg.out.lt
      have f0 := (hh.fact 0 rfl).2
      have f1 := (hh.fact 1 rfl).2
      have ev : ∀ t, evalOf f (.tmp t) = f t := fun _ => rfl
      have ec : ∀ c, evalOf f (.const c) = c := fun _ => rfl
      have ef : ∀ g, evalOf f (.func g) = .func (.func g) #[] #[] := fun _ => rfl
      refine relUpon_value ?_ hC (Below.refl _ _) rfl
      go_simp
    -- 11: slot 18 := call { value (Operand.func 17), args := #[t17], argTypes := #[25] }
    · intro w L f hC hLi hLd hLn hF
      obtain ⟨d17, d16, _⟩ := hF
      have d17 : f 17 = .agg #[.bool true, .slice Ap 2 cp] := d17
      have d16 : f 16 = .bool true := d16
      refine Step2.live (show wantedBy _ (f 16) = true by rw [d16]; rfl) ?_
      have ev : ∀ t, evalOf f (.tmp t) = f t := fun _ => rfl
      have ec : ∀ c, evalOf f (.const c) = c := fun _ => rfl
      have ef : ∀ g, evalOf f (.func g) = .func (.func g) #[] #[] := fun _ => rfl
      refine relUpon_call (f := 17) (args := #[.agg #[.bool true, .slice Ap 2 cp]]) (w := w) (by go_simp) (noNull_any w ⟨true, [[97], [98]]⟩ _ (hpv.out.up hC) (by decide)) ?_
      rintro e w1 ⟨⟨v, he, hv⟩, hB⟩
      exact ⟨_, he, hC.trans (hB.mono hC.size), hB, by rw [show canon (Pz.cells ⟨true, [[97], [98]]⟩) = [[97], [98]] from cnAB] at hv; exact hv⟩
    -- 12: slot 19 := buildSlice 23 2 #[(0, const (Value.string { data := #[97] })), (1, const (Value.string { d
    · intro w L f hC hLi hLd hLn hF
      obtain ⟨d16, _⟩ := hF
      have d16 : f 16 = .bool true := d16
      refine Step2.live (show wantedBy _ (f 16) = true by rw [d16]; rfl) ?_
      have hbn := below_new w (.cells #[.string ⟨#[97]⟩, .string ⟨#[98]⟩] 9)
      have ev : ∀ t, evalOf f (.tmp t) = f t := fun _ => rfl
      have ec : ∀ c, evalOf f (.const c) = c := fun _ => rfl
      have ef : ∀ g, evalOf f (.func g) = .func (.func g) #[] #[] := fun _ => rfl
      refine relUpon_value (w' := w.alloc (.cells #[.string ⟨#[97]⟩, .string ⟨#[98]⟩] 9)) (v := .slice (some ⟨w.heap.size, 0, none⟩) 2 2) (by go_simp) (hC.trans (hbn.mono hC.size)) hbn ⟨_, _, rfl, Nat.le_refl _, Row.fresh w 9 [.string ⟨#[97]⟩, .string ⟨#[98]⟩]⟩
    -- 13: slot 20 := call { value (Operand.func 21), args := #[t19], argTypes := #[23] }
    · intro w L f hC hLi hLd hLn hF
      obtain ⟨d19, d16, _⟩ := hF
      have d16 : f 16 = .bool true := d16
      refine Step2.live (show wantedBy _ (f 16) = true by rw [d16]; rfl) ?_
      obtain ⟨A19, c19, e19, hc19, hr19⟩ := d19
      have ev : ∀ t, evalOf f (.tmp t) = f t := fun _ => rfl
      have ec : ∀ c, evalOf f (.const c) = c := fun _ => rfl
      have ef : ∀ g, evalOf f (.func g) = .func (.func g) #[] #[] := fun _ => rfl
      refine relUpon_call (f := 21) (args := #[.slice A19 2 c19]) (w := w) (by go_simp) (to_any w A19 2 c19 [[97], [98]] rfl hr19 (by decide)) ?_
      rintro e w1 ⟨⟨v, he, hv⟩, hB⟩
      exact ⟨_, he, hC.trans (hB.mono hC.size), hB, by rw [cnAB] at hv; exact hv⟩
    -- 14: slot 21 := call { value (Operand.func 10), args := #[t18, t20], argTypes := #[25, 25] }
    · intro w L f hC hLi hLd hLn hF
      obtain ⟨d18, d20, d16, _⟩ := hF
      have d16 : f 16 = .bool true := d16
      refine Step2.live (show wantedBy _ (f 16) = true by rw [d16]; rfl) ?_
      obtain ⟨A18, c18, e18, hr18, hc18⟩ := d18
      obtain ⟨A20, c20, e20, hr20, hc20⟩ := d20
      have ev : ∀ t, evalOf f (.tmp t) = f t := fun _ => rfl
      have ec : ∀ c, evalOf f (.const c) = c := fun _ => rfl
      have ef : ∀ g, evalOf f (.func g) = .func (.func g) #[] #[] := fun _ => rfl
      refine relUpon_call (f := 10) (args := #[.agg #[.bool (Pz.nul ⟨false, [[97], [98]]⟩), .slice A18 (List.length (Pz.cells ⟨false, [[97], [98]]⟩)) c18], .agg #[.bool (Pz.nul ⟨false, [[97], [98]]⟩), .slice A20 (List.length (Pz.cells ⟨false, [[97], [98]]⟩)) c20]]) (w := w) (by go_simp) (ptsEq_any w ⟨false, [[97], [98]]⟩ ⟨false, [[97], [98]]⟩ _ _ ⟨A18, c18, rfl, hr18, hc18⟩ ⟨A20, c20, rfl, hr20, hc20⟩ (by decide) (by decide)) ?_
      rintro e w1 ⟨he, hB⟩
      exact ⟨_, he, hC.trans (hB.mono hC.size), hB, rfl⟩
    -- 15: slot 22 := pick t16 t21 (const (Value.bool false))
    · intro w L f hC hLi hLd hLn hF
      obtain ⟨d16, d21, _⟩ := hF
      have d16 : f 16 = .bool true := d16
      have d21 : f 21 = .bool true := d21
      refine Step2.live rfl ?_
      have ev : ∀ t, evalOf f (.tmp t) = f t := fun _ => rfl
      have ec : ∀ c, evalOf f (.const c) = c := fun _ => rfl
      refine relUpon_value ?_ (hC) (Below.refl _ _) rfl
      go_simp
    -- 16: slot 23 := move t22
    · intro w L f hC hLi hLd hLn hF
      obtain ⟨d22, _⟩ := hF
      have d22 : f 22 = .bool true := d22
      refine Step2.live rfl ?_
      exact relUpon_value (v := f 22) rfl (hC) (Below.refl _ _) d22
    -- 17: slot 24 := buildSlice 23 2 #[(0, const (Value.string { data := #[98] })), (1, const (Value.string { d
    · intro w L f hC hLi hLd hLn hF
      obtain ⟨d23, _⟩ := hF
      have d23 : f 23 = .bool true := d23
      refine Step2.live (show wantedBy _ (f 23) = true by rw [d23]; rfl) ?_
      have hbn := below_new w (.cells #[.string ⟨#[98]⟩, .string ⟨#[97]⟩] 9)
      have ev : ∀ t, evalOf f (.tmp t) = f t := fun _ => rfl
      have ec : ∀ c, evalOf f (.const c) = c := fun _ => rfl
      have ef : ∀ g, evalOf f (.func g) = .func (.func g) #[] #[] := fun _ => rfl
      refine relUpon_value (w' := w.alloc (.cells #[.string ⟨#[98]⟩, .string ⟨#[97]⟩] 9)) (v := .slice (some ⟨w.heap.size, 0, none⟩) 2 2) (by go_simp) (hC.trans (hbn.mono hC.size)) hbn ⟨_, _, rfl, Nat.le_refl _, Row.fresh w 9 [.string ⟨#[98]⟩, .string ⟨#[97]⟩]⟩
    -- 18: slot 25 := call { value (Operand.func 22), args := #[t24], argTypes := #[23] }
    · intro w L f hC hLi hLd hLn hF
      obtain ⟨d24, d23, _⟩ := hF
      have d23 : f 23 = .bool true := d23
      refine Step2.live (show wantedBy _ (f 23) = true by rw [d23]; rfl) ?_
      obtain ⟨A24, c24, e24, hc24, hr24⟩ := d24
      have ev : ∀ t, evalOf f (.tmp t) = f t := fun _ => rfl
      have ec : ∀ c, evalOf f (.const c) = c := fun _ => rfl
      have ef : ∀ g, evalOf f (.func g) = .func (.func g) #[] #[] := fun _ => rfl
      refine relUpon_call (f := 22) (args := #[.slice A24 2 c24]) (w := w) (by go_simp) (any_any w A24 2 c24 [[98], [97]] rfl hr24 (by decide)) ?_
      rintro e w1 ⟨⟨v, he, hv⟩, hB⟩
      exact ⟨_, he, hC.trans (hB.mono hC.size), hB, by rw [cnBA] at hv; exact hv⟩
    -- 19: slot 26 := load 25 t1
    · intro w L f hC hLi hLd hLn hF
      obtain ⟨d1, d23, _⟩ := hF
      have d1 : f 1 = .pointer (some ⟨g, 0, none⟩) := d1
      have d23 : f 23 = .bool true := d23
      refine Step2.live (show wantedBy _ (f 23) = true by rw [d23]; rfl) ?_
      have hh := hg.out.below hC hg.out.lt
      have f0 := (hh.fact 0 rfl).2
      have f1 := (hh.fact 1 rfl).2
      have ev : ∀ t, evalOf f (.tmp t) = f t := fun _ => rfl
      have ec : ∀ c, evalOf f (.const c) = c := fun _ => rfl
      have ef : ∀ g, evalOf f (.func g) = .func (.func g) #[] #[] := fun _ => rfl
      refine relUpon_value ?_ hC (Below.refl _ _) rfl
      go_simp
    -- 20: slot 27 := call { value (Operand.func 10), args := #[t25, t26], argTypes := #[25, 25] }
    · intro w L f hC hLi hLd hLn hF
      obtain ⟨d25, d26, d23, _⟩ := hF
      have d26 : f 26 = .agg #[.bool true, .slice Ap 2 cp] := d26
      have d23 : f 23 = .bool true := d23
      refine Step2.live (show wantedBy _ (f 23) = true by rw [d23]; rfl) ?_
      obtain ⟨A25, c25, e25, hr25, hc25⟩ := d25
      have ev : ∀ t, evalOf f (.tmp t) = f t := fun _ => rfl
      have ec : ∀ c, evalOf f (.const c) = c := fun _ => rfl
      have ef : ∀ g, evalOf f (.func g) = .func (.func g) #[] #[] := fun _ => rfl
      refine relUpon_call (f := 10) (args := #[.agg #[.bool (Pz.nul ⟨true, [[97], [98]]⟩), .slice A25 (List.length (Pz.cells ⟨true, [[97], [98]]⟩)) c25], .agg #[.bool true, .slice Ap 2 cp]]) (w := w) (by go_simp) (ptsEq_any w ⟨true, [[97], [98]]⟩ ⟨true, [[97], [98]]⟩ _ _ ⟨A25, c25, rfl, hr25, hc25⟩ (hpv.out.up hC) (by decide) (by decide)) ?_
      rintro e w1 ⟨he, hB⟩
      exact ⟨_, he, hC.trans (hB.mono hC.size), hB, rfl⟩
    -- 21: slot 28 := pick t23 t27 (const (Value.bool false))
    · intro w L f hC hLi hLd hLn hF
      obtain ⟨d23, d27, _⟩ := hF
      have d23 : f 23 = .bool true := d23
      have d27 : f 27 = .bool true := d27
      refine Step2.live rfl ?_
      have ev : ∀ t, evalOf f (.tmp t) = f t := fun _ => rfl
      have ec : ∀ c, evalOf f (.const c) = c := fun _ => rfl
      refine relUpon_value ?_ (hC) (Below.refl _ _) rfl
      go_simp
    -- 22: slot 29 := move t28
    · intro w L f hC hLi hLd hLn hF
      obtain ⟨d28, _⟩ := hF
      have d28 : f 28 = .bool true := d28
      refine Step2.live rfl ?_
      exact relUpon_value (v := f 28) rfl (hC) (Below.refl _ _) d28
    -- 23: slot 30 := call { value (Operand.func 23), args := #[], argTypes := #[] }
    · intro w L f hC hLi hLd hLn hF
      obtain ⟨d29, _⟩ := hF
      have d29 : f 29 = .bool true := d29
      refine Step2.live (show wantedBy _ (f 29) = true by rw [d29]; rfl) ?_
      have ev : ∀ t, evalOf f (.tmp t) = f t := fun _ => rfl
      have ec : ∀ c, evalOf f (.const c) = c := fun _ => rfl
      have ef : ∀ g, evalOf f (.func g) = .func (.func g) #[] #[] := fun _ => rfl
      refine relUpon_call (f := 23) (args := #[]) (w := w) (by go_simp) (null_any w) ?_
      rintro e w1 ⟨⟨v, he, hv⟩, hB⟩
      exact ⟨_, he, hC.trans (hB.mono hC.size), hB, hv⟩
    -- 24: slot 31 := load 25 t1
    · intro w L f hC hLi hLd hLn hF
      obtain ⟨d1, d29, _⟩ := hF
      have d1 : f 1 = .pointer (some ⟨g, 0, none⟩) := d1
      have d29 : f 29 = .bool true := d29
      refine Step2.live (show wantedBy _ (f 29) = true by rw [d29]; rfl) ?_
      have hh := hg.out.below hC hg.out.lt
      have f0 := (hh.fact 0 rfl).2
      have f1 := (hh.fact 1 rfl).2
      have ev : ∀ t, evalOf f (.tmp t) = f t := fun _ => rfl
      have ec : ∀ c, evalOf f (.const c) = c := fun _ => rfl
      have ef : ∀ g, evalOf f (.func g) = .func (.func g) #[] #[] := fun _ => rfl
      refine relUpon_value ?_ hC (Below.refl _ _) rfl
      go_simp
    -- 25: slot 32 := call { value (Operand.func 13), args := #[t30, t31], argTypes := #[25, 25] }
    · intro w L f hC hLi hLd hLn hF
      obtain ⟨d30, d31, d29, _⟩ := hF
      have d31 : f 31 = .agg #[.bool true, .slice Ap 2 cp] := d31
      have d29 : f 29 = .bool true := d29
      refine Step2.live (show wantedBy _ (f 29) = true by rw [d29]; rfl) ?_
      obtain ⟨A30, c30, e30, hr30, hc30⟩ := d30
      have ev : ∀ t, evalOf f (.tmp t) = f t := fun _ => rfl
      have ec : ∀ c, evalOf f (.const c) = c := fun _ => rfl
      have ef : ∀ g, evalOf f (.func g) = .func (.func g) #[] #[] := fun _ => rfl
      refine relUpon_call (f := 13) (args := #[.agg #[.bool (Pz.nul ⟨true, []⟩), .slice A30 (List.length (Pz.cells ⟨true, []⟩)) c30], .agg #[.bool true, .slice Ap 2 cp]]) (w := w) (by go_simp) (leq_any w ⟨true, []⟩ ⟨true, [[97], [98]]⟩ _ _ ⟨A30, c30, rfl, hr30, hc30⟩ (hpv.out.up hC) (by decide) (by decide)) ?_
      rintro e w1 ⟨he, hB⟩
      exact ⟨_, he, hC.trans (hB.mono hC.size), hB, rfl⟩
    -- 26: slot 33 := pick t29 t32 (const (Value.bool false))
    · intro w L f hC hLi hLd hLn hF
      obtain ⟨d29, d32, _⟩ := hF
      have d29 : f 29 = .bool true := d29
      have d32 : f 32 = .bool true := d32
      refine Step2.live rfl ?_
      have ev : ∀ t, evalOf f (.tmp t) = f t := fun _ => rfl
      have ec : ∀ c, evalOf f (.const c) = c := fun _ => rfl
      refine relUpon_value ?_ (hC) (Below.refl _ _) rfl
      go_simp
    -- 27: slot 0 := assign t33
    · intro w L f hC hLi hLd hLn hF
      obtain ⟨d33, _⟩ := hF
      have d33 : f 33 = .bool true := d33
      refine Step2.live rfl ?_
      exact relUpon_value (v := f 33) rfl (hC) (Below.refl _ _) d33
  intro x w' hC hV

  have e0 := hV 27 _ rfl rfl
  clear hV
  simp only [framed]
  rw [e0]
  clear e0
  go_wp2_with fail
  go_ret
  exact ⟨rfl, hb8.out.trans (hC.mono hb8.out.size)⟩
end Go.Proofs.Ytkohobkeapcpfaa
