/-
  The walk of SumParts.
-/
import Derived.Test.YtbpmgdcfcmjoiaaSumG
import Derived.Test.YtbpmgdcfcmjoiaaArg
import Derived.Test.YtbpmgdcfcmjoiaaRel
import Derived.Deep.DeepCutAuto
namespace Go.Proofs.Ytbpmgdcfcmjoiaa
open Go.RowKit

theorem tmod_range (z : Int) (n : Nat) : -(n : Int) ≤ z.tmod ((n : Int) + 1) ∧ z.tmod ((n : Int) + 1) ≤ n := by
  have h1 := Int.tmod_lt_of_pos z (show (0 : Int) < (n : Int) + 1 by omega)
  have h2 := Int.lt_tmod_of_pos z (show (0 : Int) < (n : Int) + 1 by omega)
  omega
theorem crcOf_two (a b l : List UInt8) (h : a ++ b = l) : crcOf [l] = crcOf [a, b] := by
  unfold crcOf
  simp [h]

set_option maxHeartbeats 1000000 in
theorem parts_any (w : World) (A : Option Addr) (c : Nat) (l : List UInt8) (z : Int) (hlc : l.length ≤ c) (hcm : c ≤ maxLen) (hl : Bytes w w.heap.size A l) :
    Calls Try.prog 4 #[.slice A l.length c, .int .i64 z] w fun e w' => e = .returned (.bool true) ∧ Below w.heap.size w w' := by
  unfold maxLen at hcm
  go_enter Try.func4, Try.ntmps4
  go_wp2_with fail
  refine (known_any _).mono ?_
  rintro e w1 ⟨rfl, hb1⟩
  have hl1 := hl.up hb1
  by_cases hbig : l.length ≤ 1000
  · go_upto_if 17 with (fail)
    go_cut [5] (fun s wc => ∃ k : Nat, k ≤ l.length ∧ s = .int .i64 k ∧ Below w1.heap.size w1 wc)
    case first =>
      have ht := tmod_range z l.length
      by_cases hneg : z.tmod ((l.length : Int) + 1) < 0
      · go_wp2
        go_meet
        case rel => exact ⟨(-(z.tmod ((l.length : Int) + 1))).toNat, by omega, by go_num, Below.refl _ _⟩
      · go_wp2
        go_meet
        case rel => exact ⟨(z.tmod ((l.length : Int) + 1)).toNat, by omega, by go_num, Below.refl _ _⟩
    case rest =>
      obtain ⟨k, hk, rfl, hb2⟩ := hcut
      have hBc := hb1.trans (hb2.mono hb1.size)
      have hl2 := hl1.up hb2
      have hkc : k ≤ c := by omega
      have hL := Lib.hid hl2
      have hT := Lib.hid (hl2.take k)
      have hkl := Lib.hid (show (l.take k).length = k by simp; omega)
      have hdl := Lib.hid (show (l.drop k).length = l.length - k by simp)
      have h2 := Lib.hid (crcOf_two (l.take k) (l.drop k) l (List.take_append_drop k l))
      have h3 := Lib.hid (crcOf_two l [] l (List.append_nil l))
      have hD := hl2.cut k (c := c) hlc
      generalize hA2 : (if c = k then A else A.map (·.add k)) = A2 at hD
      have hD2 := Lib.hid hD
      have hss : Hid (∀ s ∈ [strV (l.take k), strV (l.drop k)], s.size ≤ maxLen) := by
        apply Lib.hid
        intro s hs
        simp only [List.mem_cons, List.mem_nil_iff, or_false] at hs
        rcases hs with rfl | rfl <;> rw [strV_size] <;> simp [maxLen] <;> omega
      clear hl hb1 hb2 hl1 hl2 hD
      go_wp2_with fail
      -- THE REGION THAT DRAWS ITS ORDER, BY ONE LEXICAL WALK OVER GENERIC VALUES (written by relgen.py)
      refine wp_region_tab ((fun _ v => v = .slice A l.length c) ::
        (fun _ v => v = .int .i64 k) ::
        (fun _ v => v = .slice A k c) ::
        (fun _ v => v = .slice A l.length c) ::
        (fun _ v => v = .int .i64 k) ::
        (fun _ v => v = .slice A2 (l.length - k) (c - k)) ::
        (fun w v => ∃ A' c', v = .slice A' 2 c' ∧ Slices w w.heap.size A' [l.take k, l.drop k]) ::
        (fun _ v => v = .int .u32 (crcOf [l] : Nat)) ::
        (fun _ v => v = .slice A l.length c) ::
        (fun w v => ∃ A' c', v = .slice A' 1 c' ∧ Slices w w.heap.size A' [l]) ::
        (fun _ v => v = .int .u32 (crcOf [l] : Nat)) ::
        (fun _ v => v = .bool true) ::
        (fun _ v => v = .bool true) ::
        (fun _ v => v = .slice A l.length c) ::
        (fun w v => ∃ A' c', v = .slice A' 2 c' ∧ Slices w w.heap.size A' [l, []]) ::
        (fun _ v => v = .int .u32 (crcOf [l] : Nat)) ::
        (fun _ v => v = .slice A l.length c) ::
        (fun w v => ∃ A' c', v = .slice A' 1 c' ∧ Slices w w.heap.size A' [l]) ::
        (fun _ v => v = .int .u32 (crcOf [l] : Nat)) ::
        (fun _ v => v = .bool true) ::
        (fun _ v => v = .bool true) ::
        (fun _ v => v = .bool true) ::
        (fun _ v => v = .slice A l.length c) ::
        (fun _ v => v = .int .i64 k) ::
        (fun _ v => v = .slice A k c) ::
        (fun _ v => v = .string (strV (l.take k))) ::
        (fun _ v => v = .slice A l.length c) ::
        (fun _ v => v = .int .i64 k) ::
        (fun _ v => v = .slice A2 (l.length - k) (c - k)) ::
        (fun _ v => v = .string (strV (l.drop k))) ::
        (fun w v => ∃ A' c', v = .slice A' 2 c' ∧ Strs w w.heap.size A' [strV (l.take k), strV (l.drop k)]) ::
        (fun _ v => v = .int .u64 (printOf [strV (l.take k), strV (l.drop k)] : Nat)) ::
        (fun _ v => v = .slice A l.length c) ::
        (fun _ v => v = .int .i64 k) ::
        (fun _ v => v = .slice A k c) ::
        (fun _ v => v = .string (strV (l.take k))) ::
        (fun _ v => v = .slice A l.length c) ::
        (fun _ v => v = .int .i64 k) ::
        (fun _ v => v = .slice A2 (l.length - k) (c - k)) ::
        (fun _ v => v = .string (strV (l.drop k))) ::
        (fun w v => ∃ A' c', v = .slice A' 2 c' ∧ Strs w w.heap.size A' [strV (l.take k), strV (l.drop k)]) ::
        (fun _ v => v = .int .u64 (printOf [strV (l.take k), strV (l.drop k)] : Nat)) ::
        (fun _ v => v = .bool true) ::
        (fun _ v => v = .bool true) ::
        (fun _ v => v = .bool true) :: [])
        (⟨[(0, none)], 0, []⟩ :: ⟨[(5, none)], 0, []⟩ :: ⟨[(20, some 0), (21, some 1)], 0, []⟩ :: ⟨[(0, none)], 0, []⟩ :: ⟨[(5, none)], 0, []⟩ :: ⟨[(23, some 3), (24, some 4)], 0, []⟩ :: ⟨[(22, some 2), (25, some 5)], 0, []⟩ :: ⟨[(26, some 6)], 0, []⟩ :: ⟨[(0, none)], 0, []⟩ :: ⟨[(28, some 8)], 0, []⟩ :: ⟨[(29, some 9)], 0, []⟩ :: ⟨[(27, some 7), (30, some 10)], 0, []⟩ :: ⟨[(31, some 11)], 0, []⟩ :: ⟨[(0, none), (32, some 12)], 32, []⟩ :: ⟨[(33, some 13), (32, some 12)], 32, []⟩ :: ⟨[(34, some 14), (32, some 12)], 32, []⟩ :: ⟨[(0, none), (32, some 12)], 32, []⟩ :: ⟨[(36, some 16), (32, some 12)], 32, []⟩ :: ⟨[(37, some 17), (32, some 12)], 32, []⟩ :: ⟨[(35, some 15), (38, some 18), (32, some 12)], 32, []⟩ :: ⟨[(32, some 12), (39, some 19)], 0, []⟩ :: ⟨[(40, some 20)], 0, []⟩ :: ⟨[(0, none), (41, some 21)], 41, []⟩ :: ⟨[(5, none), (41, some 21)], 41, []⟩ :: ⟨[(42, some 22), (43, some 23), (41, some 21)], 41, []⟩ :: ⟨[(44, some 24), (41, some 21)], 41, []⟩ :: ⟨[(0, none), (41, some 21)], 41, []⟩ :: ⟨[(5, none), (41, some 21)], 41, []⟩ :: ⟨[(46, some 26), (47, some 27), (41, some 21)], 41, []⟩ :: ⟨[(48, some 28), (41, some 21)], 41, []⟩ :: ⟨[(45, some 25), (49, some 29), (41, some 21)], 41, []⟩ :: ⟨[(50, some 30), (41, some 21)], 41, []⟩ :: ⟨[(0, none), (41, some 21)], 41, []⟩ :: ⟨[(5, none), (41, some 21)], 41, []⟩ :: ⟨[(52, some 32), (53, some 33), (41, some 21)], 41, []⟩ :: ⟨[(54, some 34), (41, some 21)], 41, []⟩ :: ⟨[(0, none), (41, some 21)], 41, []⟩ :: ⟨[(5, none), (41, some 21)], 41, []⟩ :: ⟨[(56, some 36), (57, some 37), (41, some 21)], 41, []⟩ :: ⟨[(58, some 38), (41, some 21)], 41, []⟩ :: ⟨[(55, some 35), (59, some 39), (41, some 21)], 41, []⟩ :: ⟨[(60, some 40), (41, some 21)], 41, []⟩ :: ⟨[(51, some 31), (61, some 41), (41, some 21)], 41, []⟩ :: ⟨[(41, some 21), (62, some 42)], 0, []⟩ :: ⟨[(63, some 43)], 0, []⟩ :: [])
        (none :: none :: none :: none :: some 44 :: none :: none :: none :: none :: none :: none :: none :: none :: none :: none :: none :: none :: none :: none :: none :: some 0 :: some 1 :: some 2 :: some 3 :: some 4 :: some 5 :: some 6 :: some 7 :: some 8 :: some 9 :: some 10 :: some 11 :: some 12 :: some 13 :: some 14 :: some 15 :: some 16 :: some 17 :: some 18 :: some 19 :: some 20 :: some 21 :: some 22 :: some 23 :: some 24 :: some 25 :: some 26 :: some 27 :: some 28 :: some 29 :: some 30 :: some 31 :: some 32 :: some 33 :: some 34 :: some 35 :: some 36 :: some 37 :: some 38 :: some 39 :: some 40 :: some 41 :: some 42 :: some 43 :: [])
        (fun _ w' => Below wc.heap.size wc w') (fun _ w w' => Below w.heap.size w w') ?mixK ?okK ?tabK ?frK ?inK ?keptK ?startK ?eachK ?finK
      case mixK => kernel_rfl
      case okK => kernel_rfl
      case tabK => kernel_rfl
      case frK => kernel_rfl
      case inK => rfl
      case keptK => exact ⟨fun _ _ _ _ _ _ _ h => h, fun _ _ _ _ _ _ _ h => h, fun _ _ _ _ _ _ _ h => h, fun _ _ _ _ _ _ _ h => h, fun _ _ _ _ _ _ _ h => h, fun _ _ _ _ _ _ _ h => h, fun _ _ _ => fun w w' v hG ⟨A', c', e, h⟩ => ⟨A', c', e, h.up hG⟩, fun _ _ _ _ _ _ _ h => h, fun _ _ _ _ _ _ _ h => h, fun _ _ _ => fun w w' v hG ⟨A', c', e, h⟩ => ⟨A', c', e, h.up hG⟩, fun _ _ _ _ _ _ _ h => h, fun _ _ _ _ _ _ _ h => h, fun _ _ _ _ _ _ _ h => h, fun _ _ _ _ _ _ _ h => h, fun _ _ _ => fun w w' v hG ⟨A', c', e, h⟩ => ⟨A', c', e, h.up hG⟩, fun _ _ _ _ _ _ _ h => h, fun _ _ _ _ _ _ _ h => h, fun _ _ _ => fun w w' v hG ⟨A', c', e, h⟩ => ⟨A', c', e, h.up hG⟩, fun _ _ _ _ _ _ _ h => h, fun _ _ _ _ _ _ _ h => h, fun _ _ _ _ _ _ _ h => h, fun _ _ _ _ _ _ _ h => h, fun _ _ _ _ _ _ _ h => h, fun _ _ _ _ _ _ _ h => h, fun _ _ _ _ _ _ _ h => h, fun _ _ _ _ _ _ _ h => h, fun _ _ _ _ _ _ _ h => h, fun _ _ _ _ _ _ _ h => h, fun _ _ _ _ _ _ _ h => h, fun _ _ _ _ _ _ _ h => h, fun _ _ _ => fun w w' v hG ⟨A', c', e, h⟩ => ⟨A', c', e, h.up hG⟩, fun _ _ _ _ _ _ _ h => h, fun _ _ _ _ _ _ _ h => h, fun _ _ _ _ _ _ _ h => h, fun _ _ _ _ _ _ _ h => h, fun _ _ _ _ _ _ _ h => h, fun _ _ _ _ _ _ _ h => h, fun _ _ _ _ _ _ _ h => h, fun _ _ _ _ _ _ _ h => h, fun _ _ _ _ _ _ _ h => h, fun _ _ _ => fun w w' v hG ⟨A', c', e, h⟩ => ⟨A', c', e, h.up hG⟩, fun _ _ _ _ _ _ _ h => h, fun _ _ _ _ _ _ _ h => h, fun _ _ _ _ _ _ _ h => h, fun _ _ _ _ _ _ _ h => h, trivial⟩
      case startK => exact (Below.refl _ _).drew
      case eachK =>
        refine ⟨?_, ?_, ?_, ?_, ?_, ?_, ?_, ?_, ?_, ?_, ?_, ?_, ?_, ?_, ?_, ?_, ?_, ?_, ?_, ?_, ?_, ?_, ?_, ?_, ?_, ?_, ?_, ?_, ?_, ?_, ?_, ?_, ?_, ?_, ?_, ?_, ?_, ?_, ?_, ?_, ?_, ?_, ?_, ?_, ?_, trivial⟩
        -- 0: slot 20 := move t0
        · intro w L f hC hLi hLd hLn hF
          obtain ⟨d0, _⟩ := hF
          have d0 : f 0 = .slice A l.length c := d0
          refine Step2.live rfl ?_
          exact relUpon_value (v := f 0) rfl (hC) (Below.refl _ _) d0
        -- 1: slot 21 := move t5
        · intro w L f hC hLi hLd hLn hF
          obtain ⟨d5, _⟩ := hF
          have d5 : f 5 = .int .i64 k := d5
          refine Step2.live rfl ?_
          exact relUpon_value (v := f 5) rfl (hC) (Below.refl _ _) d5
        -- 2: slot 22 := slice 33 t20 none (some t21) none
        · intro w L f hC hLi hLd hLn hF
          obtain ⟨d20, d21, _⟩ := hF
          have d20 : f 20 = .slice A l.length c := d20
          have d21 : f 21 = .int .i64 k := d21
          refine Step2.live rfl ?_
          have ev : ∀ t, evalOf f (.tmp t) = f t := fun _ => rfl
          have ec : ∀ c, evalOf f (.const c) = c := fun _ => rfl
          refine relUpon_value ?_ (hC) (Below.refl _ _) rfl
          go_simp
        -- 3: slot 23 := move t0
        · intro w L f hC hLi hLd hLn hF
          obtain ⟨d0, _⟩ := hF
          have d0 : f 0 = .slice A l.length c := d0
          refine Step2.live rfl ?_
          exact relUpon_value (v := f 0) rfl (hC) (Below.refl _ _) d0
        -- 4: slot 24 := move t5
        · intro w L f hC hLi hLd hLn hF
          obtain ⟨d5, _⟩ := hF
          have d5 : f 5 = .int .i64 k := d5
          refine Step2.live rfl ?_
          exact relUpon_value (v := f 5) rfl (hC) (Below.refl _ _) d5
        -- 5: slot 25 := slice 33 t23 (some t24) none none
        · intro w L f hC hLi hLd hLn hF
          obtain ⟨d23, d24, _⟩ := hF
          have d23 : f 23 = .slice A l.length c := d23
          have d24 : f 24 = .int .i64 k := d24
          refine Step2.live rfl ?_
          have ev : ∀ t, evalOf f (.tmp t) = f t := fun _ => rfl
          have ec : ∀ c, evalOf f (.const c) = c := fun _ => rfl
          refine relUpon_value ?_ (hC) (Below.refl _ _) rfl
          go_simp
        -- 6: slot 26 := buildSlice 22 2 #[(0, t22), (1, t25)]
        · intro w L f hC hLi hLd hLn hF
          obtain ⟨d22, d25, _⟩ := hF
          have d22 : f 22 = .slice A k c := d22
          have d25 : f 25 = .slice A2 (l.length - k) (c - k) := d25
          refine Step2.live rfl ?_
          have ev : ∀ t, evalOf f (.tmp t) = f t := fun _ => rfl
          have ec : ∀ c, evalOf f (.const c) = c := fun _ => rfl
          have ef : ∀ g, evalOf f (.func g) = .func (.func g) #[] #[] := fun _ => rfl
          refine relUpon_value (w' := w.alloc (.cells #[.slice A k c, .slice A2 (l.length - k) (c - k)] 33)) (v := .slice (some ⟨w.heap.size, 0, none⟩) 2 2) (by go_simp) (hC.alloc hC.size _) (below_new _ _) ⟨_, _, rfl, Slices.two _ hkl.out (by simp [maxLen]; omega) ((hT.out.below hC).more hC.size) hdl.out (by simp [maxLen]; omega) ((hD2.out.below hC).more hC.size)⟩
        -- 7: slot 27 := call { value (Operand.func 9), args := #[t26], argTypes := #[22] }
        · intro w L f hC hLi hLd hLn hF
          obtain ⟨d26, _⟩ := hF
          refine Step2.live rfl ?_
          obtain ⟨A', c', e0, hs⟩ := d26
          have ev : ∀ t, evalOf f (.tmp t) = f t := fun _ => rfl
          have ec : ∀ c, evalOf f (.const c) = c := fun _ => rfl
          have ef : ∀ g, evalOf f (.func g) = .func (.func g) #[] #[] := fun _ => rfl
          refine relUpon_call (f := 9) (args := #[.slice A' 2 c']) (w := w) (by go_simp) (crc_len _ A' 2 c' [l.take k, l.drop k] hs rfl (by simp [maxLen])) ?_
          exact fun e w1 ⟨he, hb⟩ => ⟨_, he, hC.trans (hb.mono hC.size), hb, show Value.int .u32 _ = .int .u32 _ by rw [h2.out]⟩
        -- 8: slot 28 := move t0
        · intro w L f hC hLi hLd hLn hF
          obtain ⟨d0, _⟩ := hF
          have d0 : f 0 = .slice A l.length c := d0
          refine Step2.live rfl ?_
          exact relUpon_value (v := f 0) rfl (hC) (Below.refl _ _) d0
        -- 9: slot 29 := buildSlice 22 1 #[(0, t28)]
        · intro w L f hC hLi hLd hLn hF
          obtain ⟨d28, _⟩ := hF
          have d28 : f 28 = .slice A l.length c := d28
          refine Step2.live rfl ?_
          have ev : ∀ t, evalOf f (.tmp t) = f t := fun _ => rfl
          have ec : ∀ c, evalOf f (.const c) = c := fun _ => rfl
          have ef : ∀ g, evalOf f (.func g) = .func (.func g) #[] #[] := fun _ => rfl
          refine relUpon_value (w' := w.alloc (.cells #[.slice A l.length c] 33)) (v := .slice (some ⟨w.heap.size, 0, none⟩) 1 1) (by go_simp) (hC.alloc hC.size _) (below_new _ _) ⟨_, _, rfl, Slices.one _ rfl (by simp [maxLen]; omega) ((hL.out.below hC).more hC.size)⟩
        -- 10: slot 30 := call { value (Operand.func 9), args := #[t29], argTypes := #[22] }
        · intro w L f hC hLi hLd hLn hF
          obtain ⟨d29, _⟩ := hF
          refine Step2.live rfl ?_
          obtain ⟨A', c', e0, hs⟩ := d29
          have ev : ∀ t, evalOf f (.tmp t) = f t := fun _ => rfl
          have ec : ∀ c, evalOf f (.const c) = c := fun _ => rfl
          have ef : ∀ g, evalOf f (.func g) = .func (.func g) #[] #[] := fun _ => rfl
          refine relUpon_call (f := 9) (args := #[.slice A' 1 c']) (w := w) (by go_simp) (crc_len _ A' 1 c' [l] hs rfl (by simp [maxLen])) ?_
          exact fun e w1 ⟨he, hb⟩ => ⟨_, he, hC.trans (hb.mono hC.size), hb, rfl⟩
        -- 11: slot 31 := binOp BinOp.eql 25 t27 t30 25
        · intro w L f hC hLi hLd hLn hF
          obtain ⟨d27, d30, _⟩ := hF
          have d27 : f 27 = .int .u32 (crcOf [l] : Nat) := d27
          have d30 : f 30 = .int .u32 (crcOf [l] : Nat) := d30
          refine Step2.live rfl ?_
          have ev : ∀ t, evalOf f (.tmp t) = f t := fun _ => rfl
          have ec : ∀ c, evalOf f (.const c) = c := fun _ => rfl
          refine relUpon_value ?_ (hC) (Below.refl _ _) rfl
          go_simp
        -- 12: slot 32 := move t31
        · intro w L f hC hLi hLd hLn hF
          obtain ⟨d31, _⟩ := hF
          have d31 : f 31 = .bool true := d31
          refine Step2.live rfl ?_
          exact relUpon_value (v := f 31) rfl (hC) (Below.refl _ _) d31
        -- 13: slot 33 := move t0
        · intro w L f hC hLi hLd hLn hF
          obtain ⟨d0, d32, _⟩ := hF
          have d0 : f 0 = .slice A l.length c := d0
          have d32 : f 32 = .bool true := d32
          refine Step2.live (show wantedBy _ (f 32) = true by rw [d32]; rfl) ?_
          exact relUpon_value (v := f 0) rfl (hC) (Below.refl _ _) d0
        -- 14: slot 34 := buildSlice 22 2 #[(0, t33), (1, const (Value.slice none 0 0))]
        · intro w L f hC hLi hLd hLn hF
          obtain ⟨d33, d32, _⟩ := hF
          have d33 : f 33 = .slice A l.length c := d33
          have d32 : f 32 = .bool true := d32
          refine Step2.live (show wantedBy _ (f 32) = true by rw [d32]; rfl) ?_
          have ev : ∀ t, evalOf f (.tmp t) = f t := fun _ => rfl
          have ec : ∀ c, evalOf f (.const c) = c := fun _ => rfl
          have ef : ∀ g, evalOf f (.func g) = .func (.func g) #[] #[] := fun _ => rfl
          refine relUpon_value (w' := w.alloc (.cells #[.slice A l.length c, .slice none 0 0] 33)) (v := .slice (some ⟨w.heap.size, 0, none⟩) 2 2) (by go_simp) (hC.alloc hC.size _) (below_new _ _) ⟨_, _, rfl, Slices.two _ rfl (by simp [maxLen]; omega) ((hL.out.below hC).more hC.size) rfl (by simp) (Row.nil_ _ _ _)⟩
        -- 15: slot 35 := call { value (Operand.func 9), args := #[t34], argTypes := #[22] }
        · intro w L f hC hLi hLd hLn hF
          obtain ⟨d34, d32, _⟩ := hF
          have d32 : f 32 = .bool true := d32
          refine Step2.live (show wantedBy _ (f 32) = true by rw [d32]; rfl) ?_
          obtain ⟨A', c', e0, hs⟩ := d34
          have ev : ∀ t, evalOf f (.tmp t) = f t := fun _ => rfl
          have ec : ∀ c, evalOf f (.const c) = c := fun _ => rfl
          have ef : ∀ g, evalOf f (.func g) = .func (.func g) #[] #[] := fun _ => rfl
          refine relUpon_call (f := 9) (args := #[.slice A' 2 c']) (w := w) (by go_simp) (crc_len _ A' 2 c' [l, []] hs rfl (by simp [maxLen])) ?_
          exact fun e w1 ⟨he, hb⟩ => ⟨_, he, hC.trans (hb.mono hC.size), hb, show Value.int .u32 _ = .int .u32 _ by rw [h3.out]⟩
        -- 16: slot 36 := move t0
        · intro w L f hC hLi hLd hLn hF
          obtain ⟨d0, d32, _⟩ := hF
          have d0 : f 0 = .slice A l.length c := d0
          have d32 : f 32 = .bool true := d32
          refine Step2.live (show wantedBy _ (f 32) = true by rw [d32]; rfl) ?_
          exact relUpon_value (v := f 0) rfl (hC) (Below.refl _ _) d0
        -- 17: slot 37 := buildSlice 22 1 #[(0, t36)]
        · intro w L f hC hLi hLd hLn hF
          obtain ⟨d36, d32, _⟩ := hF
          have d36 : f 36 = .slice A l.length c := d36
          have d32 : f 32 = .bool true := d32
          refine Step2.live (show wantedBy _ (f 32) = true by rw [d32]; rfl) ?_
          have ev : ∀ t, evalOf f (.tmp t) = f t := fun _ => rfl
          have ec : ∀ c, evalOf f (.const c) = c := fun _ => rfl
          have ef : ∀ g, evalOf f (.func g) = .func (.func g) #[] #[] := fun _ => rfl
          refine relUpon_value (w' := w.alloc (.cells #[.slice A l.length c] 33)) (v := .slice (some ⟨w.heap.size, 0, none⟩) 1 1) (by go_simp) (hC.alloc hC.size _) (below_new _ _) ⟨_, _, rfl, Slices.one _ rfl (by simp [maxLen]; omega) ((hL.out.below hC).more hC.size)⟩
        -- 18: slot 38 := call { value (Operand.func 9), args := #[t37], argTypes := #[22] }
        · intro w L f hC hLi hLd hLn hF
          obtain ⟨d37, d32, _⟩ := hF
          have d32 : f 32 = .bool true := d32
          refine Step2.live (show wantedBy _ (f 32) = true by rw [d32]; rfl) ?_
          obtain ⟨A', c', e0, hs⟩ := d37
          have ev : ∀ t, evalOf f (.tmp t) = f t := fun _ => rfl
          have ec : ∀ c, evalOf f (.const c) = c := fun _ => rfl
          have ef : ∀ g, evalOf f (.func g) = .func (.func g) #[] #[] := fun _ => rfl
          refine relUpon_call (f := 9) (args := #[.slice A' 1 c']) (w := w) (by go_simp) (crc_len _ A' 1 c' [l] hs rfl (by simp [maxLen])) ?_
          exact fun e w1 ⟨he, hb⟩ => ⟨_, he, hC.trans (hb.mono hC.size), hb, rfl⟩
        -- 19: slot 39 := binOp BinOp.eql 25 t35 t38 25
        · intro w L f hC hLi hLd hLn hF
          obtain ⟨d35, d38, d32, _⟩ := hF
          have d35 : f 35 = .int .u32 (crcOf [l] : Nat) := d35
          have d38 : f 38 = .int .u32 (crcOf [l] : Nat) := d38
          have d32 : f 32 = .bool true := d32
          refine Step2.live (show wantedBy _ (f 32) = true by rw [d32]; rfl) ?_
          have ev : ∀ t, evalOf f (.tmp t) = f t := fun _ => rfl
          have ec : ∀ c, evalOf f (.const c) = c := fun _ => rfl
          refine relUpon_value ?_ (hC) (Below.refl _ _) rfl
          go_simp
        -- 20: slot 40 := pick t32 t39 (const (Value.bool false))
        · intro w L f hC hLi hLd hLn hF
          obtain ⟨d32, d39, _⟩ := hF
          have d32 : f 32 = .bool true := d32
          have d39 : f 39 = .bool true := d39
          refine Step2.live rfl ?_
          have ev : ∀ t, evalOf f (.tmp t) = f t := fun _ => rfl
          have ec : ∀ c, evalOf f (.const c) = c := fun _ => rfl
          refine relUpon_value ?_ (hC) (Below.refl _ _) rfl
          go_simp
        -- 21: slot 41 := move t40
        · intro w L f hC hLi hLd hLn hF
          obtain ⟨d40, _⟩ := hF
          have d40 : f 40 = .bool true := d40
          refine Step2.live rfl ?_
          exact relUpon_value (v := f 40) rfl (hC) (Below.refl _ _) d40
        -- 22: slot 42 := move t0
        · intro w L f hC hLi hLd hLn hF
          obtain ⟨d0, d41, _⟩ := hF
          have d0 : f 0 = .slice A l.length c := d0
          have d41 : f 41 = .bool true := d41
          refine Step2.live (show wantedBy _ (f 41) = true by rw [d41]; rfl) ?_
          exact relUpon_value (v := f 0) rfl (hC) (Below.refl _ _) d0
        -- 23: slot 43 := move t5
        · intro w L f hC hLi hLd hLn hF
          obtain ⟨d5, d41, _⟩ := hF
          have d5 : f 5 = .int .i64 k := d5
          have d41 : f 41 = .bool true := d41
          refine Step2.live (show wantedBy _ (f 41) = true by rw [d41]; rfl) ?_
          exact relUpon_value (v := f 5) rfl (hC) (Below.refl _ _) d5
        -- 24: slot 44 := slice 33 t42 none (some t43) none
        · intro w L f hC hLi hLd hLn hF
          obtain ⟨d42, d43, d41, _⟩ := hF
          have d42 : f 42 = .slice A l.length c := d42
          have d43 : f 43 = .int .i64 k := d43
          have d41 : f 41 = .bool true := d41
          refine Step2.live (show wantedBy _ (f 41) = true by rw [d41]; rfl) ?_
          have ev : ∀ t, evalOf f (.tmp t) = f t := fun _ => rfl
          have ec : ∀ c, evalOf f (.const c) = c := fun _ => rfl
          refine relUpon_value ?_ (hC) (Below.refl _ _) rfl
          go_simp
        -- 25: slot 45 := convert 33 9 t44
        · intro w L f hC hLi hLd hLn hF
          obtain ⟨d44, d41, _⟩ := hF
          have d44 : f 44 = .slice A k c := d44
          have d41 : f 41 = .bool true := d41
          refine Step2.live (show wantedBy _ (f 41) = true by rw [d41]; rfl) ?_
          have kv := run_text (P := Try.prog) w 33 5 Try.underlying33 Try.underlying5 A k c (l.take k) hkl.out (hT.out.below hC) 9 Try.underlying9
          have ev : ∀ t, evalOf f (.tmp t) = f t := fun _ => rfl
          have ec : ∀ c, evalOf f (.const c) = c := fun _ => rfl
          have ef : ∀ g, evalOf f (.func g) = .func (.func g) #[] #[] := fun _ => rfl
          refine relUpon_value ?_ hC (Below.refl _ _) rfl
          go_simp
        -- 26: slot 46 := move t0
        · intro w L f hC hLi hLd hLn hF
          obtain ⟨d0, d41, _⟩ := hF
          have d0 : f 0 = .slice A l.length c := d0
          have d41 : f 41 = .bool true := d41
          refine Step2.live (show wantedBy _ (f 41) = true by rw [d41]; rfl) ?_
          exact relUpon_value (v := f 0) rfl (hC) (Below.refl _ _) d0
        -- 27: slot 47 := move t5
        · intro w L f hC hLi hLd hLn hF
          obtain ⟨d5, d41, _⟩ := hF
          have d5 : f 5 = .int .i64 k := d5
          have d41 : f 41 = .bool true := d41
          refine Step2.live (show wantedBy _ (f 41) = true by rw [d41]; rfl) ?_
          exact relUpon_value (v := f 5) rfl (hC) (Below.refl _ _) d5
        -- 28: slot 48 := slice 33 t46 (some t47) none none
        · intro w L f hC hLi hLd hLn hF
          obtain ⟨d46, d47, d41, _⟩ := hF
          have d46 : f 46 = .slice A l.length c := d46
          have d47 : f 47 = .int .i64 k := d47
          have d41 : f 41 = .bool true := d41
          refine Step2.live (show wantedBy _ (f 41) = true by rw [d41]; rfl) ?_
          have ev : ∀ t, evalOf f (.tmp t) = f t := fun _ => rfl
          have ec : ∀ c, evalOf f (.const c) = c := fun _ => rfl
          refine relUpon_value ?_ (hC) (Below.refl _ _) rfl
          go_simp
        -- 29: slot 49 := convert 33 9 t48
        · intro w L f hC hLi hLd hLn hF
          obtain ⟨d48, d41, _⟩ := hF
          have d48 : f 48 = .slice A2 (l.length - k) (c - k) := d48
          have d41 : f 41 = .bool true := d41
          refine Step2.live (show wantedBy _ (f 41) = true by rw [d41]; rfl) ?_
          have kv := run_text (P := Try.prog) w 33 5 Try.underlying33 Try.underlying5 A2 (l.length - k) (c - k) (l.drop k) hdl.out (hD2.out.below hC) 9 Try.underlying9
          have ev : ∀ t, evalOf f (.tmp t) = f t := fun _ => rfl
          have ec : ∀ c, evalOf f (.const c) = c := fun _ => rfl
          have ef : ∀ g, evalOf f (.func g) = .func (.func g) #[] #[] := fun _ => rfl
          refine relUpon_value ?_ hC (Below.refl _ _) rfl
          go_simp
        -- 30: slot 50 := buildSlice 30 2 #[(0, t45), (1, t49)]
        · intro w L f hC hLi hLd hLn hF
          obtain ⟨d45, d49, d41, _⟩ := hF
          have d45 : f 45 = .string (strV (l.take k)) := d45
          have d49 : f 49 = .string (strV (l.drop k)) := d49
          have d41 : f 41 = .bool true := d41
          refine Step2.live (show wantedBy _ (f 41) = true by rw [d41]; rfl) ?_
          have ev : ∀ t, evalOf f (.tmp t) = f t := fun _ => rfl
          have ec : ∀ c, evalOf f (.const c) = c := fun _ => rfl
          have ef : ∀ g, evalOf f (.func g) = .func (.func g) #[] #[] := fun _ => rfl
          refine relUpon_value (w' := w.alloc (.cells #[.string (strV (l.take k)), .string (strV (l.drop k))] 9)) (v := .slice (some ⟨w.heap.size, 0, none⟩) 2 2) (by go_simp) (hC.alloc hC.size _) (below_new _ _) ⟨_, _, rfl, Strs.new _ _ [strV (l.take k), strV (l.drop k)]⟩
        -- 31: slot 51 := call { value (Operand.func 11), args := #[t50], argTypes := #[30] }
        · intro w L f hC hLi hLd hLn hF
          obtain ⟨d50, d41, _⟩ := hF
          have d41 : f 41 = .bool true := d41
          refine Step2.live (show wantedBy _ (f 41) = true by rw [d41]; rfl) ?_
          obtain ⟨A', c', e0, hs⟩ := d50
          have ev : ∀ t, evalOf f (.tmp t) = f t := fun _ => rfl
          have ec : ∀ c, evalOf f (.const c) = c := fun _ => rfl
          have ef : ∀ g, evalOf f (.func g) = .func (.func g) #[] #[] := fun _ => rfl
          refine relUpon_call (f := 11) (args := #[.slice A' 2 c']) (w := w) (by go_simp) (print_len _ A' 2 c' [strV (l.take k), strV (l.drop k)] hs hss.out rfl (by simp [maxLen])) ?_
          exact fun e w1 ⟨he, hb⟩ => ⟨_, he, hb ▸ hC, hb ▸ Below.refl _ _, rfl⟩
        -- 32: slot 52 := move t0
        · intro w L f hC hLi hLd hLn hF
          obtain ⟨d0, d41, _⟩ := hF
          have d0 : f 0 = .slice A l.length c := d0
          have d41 : f 41 = .bool true := d41
          refine Step2.live (show wantedBy _ (f 41) = true by rw [d41]; rfl) ?_
          exact relUpon_value (v := f 0) rfl (hC) (Below.refl _ _) d0
        -- 33: slot 53 := move t5
        · intro w L f hC hLi hLd hLn hF
          obtain ⟨d5, d41, _⟩ := hF
          have d5 : f 5 = .int .i64 k := d5
          have d41 : f 41 = .bool true := d41
          refine Step2.live (show wantedBy _ (f 41) = true by rw [d41]; rfl) ?_
          exact relUpon_value (v := f 5) rfl (hC) (Below.refl _ _) d5
        -- 34: slot 54 := slice 33 t52 none (some t53) none
        · intro w L f hC hLi hLd hLn hF
          obtain ⟨d52, d53, d41, _⟩ := hF
          have d52 : f 52 = .slice A l.length c := d52
          have d53 : f 53 = .int .i64 k := d53
          have d41 : f 41 = .bool true := d41
          refine Step2.live (show wantedBy _ (f 41) = true by rw [d41]; rfl) ?_
          have ev : ∀ t, evalOf f (.tmp t) = f t := fun _ => rfl
          have ec : ∀ c, evalOf f (.const c) = c := fun _ => rfl
          refine relUpon_value ?_ (hC) (Below.refl _ _) rfl
          go_simp
        -- 35: slot 55 := convert 33 9 t54
        · intro w L f hC hLi hLd hLn hF
          obtain ⟨d54, d41, _⟩ := hF
          have d54 : f 54 = .slice A k c := d54
          have d41 : f 41 = .bool true := d41
          refine Step2.live (show wantedBy _ (f 41) = true by rw [d41]; rfl) ?_
          have kv := run_text (P := Try.prog) w 33 5 Try.underlying33 Try.underlying5 A k c (l.take k) hkl.out (hT.out.below hC) 9 Try.underlying9
          have ev : ∀ t, evalOf f (.tmp t) = f t := fun _ => rfl
          have ec : ∀ c, evalOf f (.const c) = c := fun _ => rfl
          have ef : ∀ g, evalOf f (.func g) = .func (.func g) #[] #[] := fun _ => rfl
          refine relUpon_value ?_ hC (Below.refl _ _) rfl
          go_simp
        -- 36: slot 56 := move t0
        · intro w L f hC hLi hLd hLn hF
          obtain ⟨d0, d41, _⟩ := hF
          have d0 : f 0 = .slice A l.length c := d0
          have d41 : f 41 = .bool true := d41
          refine Step2.live (show wantedBy _ (f 41) = true by rw [d41]; rfl) ?_
          exact relUpon_value (v := f 0) rfl (hC) (Below.refl _ _) d0
        -- 37: slot 57 := move t5
        · intro w L f hC hLi hLd hLn hF
          obtain ⟨d5, d41, _⟩ := hF
          have d5 : f 5 = .int .i64 k := d5
          have d41 : f 41 = .bool true := d41
          refine Step2.live (show wantedBy _ (f 41) = true by rw [d41]; rfl) ?_
          exact relUpon_value (v := f 5) rfl (hC) (Below.refl _ _) d5
        -- 38: slot 58 := slice 33 t56 (some t57) none none
        · intro w L f hC hLi hLd hLn hF
          obtain ⟨d56, d57, d41, _⟩ := hF
          have d56 : f 56 = .slice A l.length c := d56
          have d57 : f 57 = .int .i64 k := d57
          have d41 : f 41 = .bool true := d41
          refine Step2.live (show wantedBy _ (f 41) = true by rw [d41]; rfl) ?_
          have ev : ∀ t, evalOf f (.tmp t) = f t := fun _ => rfl
          have ec : ∀ c, evalOf f (.const c) = c := fun _ => rfl
          refine relUpon_value ?_ (hC) (Below.refl _ _) rfl
          go_simp
        -- 39: slot 59 := convert 33 9 t58
        · intro w L f hC hLi hLd hLn hF
          obtain ⟨d58, d41, _⟩ := hF
          have d58 : f 58 = .slice A2 (l.length - k) (c - k) := d58
          have d41 : f 41 = .bool true := d41
          refine Step2.live (show wantedBy _ (f 41) = true by rw [d41]; rfl) ?_
          have kv := run_text (P := Try.prog) w 33 5 Try.underlying33 Try.underlying5 A2 (l.length - k) (c - k) (l.drop k) hdl.out (hD2.out.below hC) 9 Try.underlying9
          have ev : ∀ t, evalOf f (.tmp t) = f t := fun _ => rfl
          have ec : ∀ c, evalOf f (.const c) = c := fun _ => rfl
          have ef : ∀ g, evalOf f (.func g) = .func (.func g) #[] #[] := fun _ => rfl
          refine relUpon_value ?_ hC (Below.refl _ _) rfl
          go_simp
        -- 40: slot 60 := buildSlice 30 2 #[(0, t55), (1, t59)]
        · intro w L f hC hLi hLd hLn hF
          obtain ⟨d55, d59, d41, _⟩ := hF
          have d55 : f 55 = .string (strV (l.take k)) := d55
          have d59 : f 59 = .string (strV (l.drop k)) := d59
          have d41 : f 41 = .bool true := d41
          refine Step2.live (show wantedBy _ (f 41) = true by rw [d41]; rfl) ?_
          have ev : ∀ t, evalOf f (.tmp t) = f t := fun _ => rfl
          have ec : ∀ c, evalOf f (.const c) = c := fun _ => rfl
          have ef : ∀ g, evalOf f (.func g) = .func (.func g) #[] #[] := fun _ => rfl
          refine relUpon_value (w' := w.alloc (.cells #[.string (strV (l.take k)), .string (strV (l.drop k))] 9)) (v := .slice (some ⟨w.heap.size, 0, none⟩) 2 2) (by go_simp) (hC.alloc hC.size _) (below_new _ _) ⟨_, _, rfl, Strs.new _ _ [strV (l.take k), strV (l.drop k)]⟩
        -- 41: slot 61 := call { value (Operand.func 13), args := #[t60], argTypes := #[30] }
        · intro w L f hC hLi hLd hLn hF
          obtain ⟨d60, d41, _⟩ := hF
          have d41 : f 41 = .bool true := d41
          refine Step2.live (show wantedBy _ (f 41) = true by rw [d41]; rfl) ?_
          obtain ⟨A', c', e0, hs⟩ := d60
          have ev : ∀ t, evalOf f (.tmp t) = f t := fun _ => rfl
          have ec : ∀ c, evalOf f (.const c) = c := fun _ => rfl
          have ef : ∀ g, evalOf f (.func g) = .func (.func g) #[] #[] := fun _ => rfl
          refine relUpon_call (f := 13) (args := #[.slice A' 2 c']) (w := w) (by go_simp) (refprint_len _ A' 2 c' [strV (l.take k), strV (l.drop k)] hs hss.out rfl (by simp [maxLen])) ?_
          exact fun e w1 ⟨he, hb⟩ => ⟨_, he, hb ▸ hC, hb ▸ Below.refl _ _, rfl⟩
        -- 42: slot 62 := binOp BinOp.eql 28 t51 t61 28
        · intro w L f hC hLi hLd hLn hF
          obtain ⟨d51, d61, d41, _⟩ := hF
          have d51 : f 51 = .int .u64 (printOf [strV (l.take k), strV (l.drop k)] : Nat) := d51
          have d61 : f 61 = .int .u64 (printOf [strV (l.take k), strV (l.drop k)] : Nat) := d61
          have d41 : f 41 = .bool true := d41
          refine Step2.live (show wantedBy _ (f 41) = true by rw [d41]; rfl) ?_
          have ev : ∀ t, evalOf f (.tmp t) = f t := fun _ => rfl
          have ec : ∀ c, evalOf f (.const c) = c := fun _ => rfl
          refine relUpon_value ?_ (hC) (Below.refl _ _) rfl
          go_simp
        -- 43: slot 63 := pick t41 t62 (const (Value.bool false))
        · intro w L f hC hLi hLd hLn hF
          obtain ⟨d41, d62, _⟩ := hF
          have d41 : f 41 = .bool true := d41
          have d62 : f 62 = .bool true := d62
          refine Step2.live rfl ?_
          have ev : ∀ t, evalOf f (.tmp t) = f t := fun _ => rfl
          have ec : ∀ c, evalOf f (.const c) = c := fun _ => rfl
          refine relUpon_value ?_ (hC) (Below.refl _ _) rfl
          go_simp
        -- 44: slot 4 := assign t63
        · intro w L f hC hLi hLd hLn hF
          obtain ⟨d63, _⟩ := hF
          have d63 : f 63 = .bool true := d63
          refine Step2.live rfl ?_
          exact relUpon_value (v := f 63) rfl (hC) (Below.refl _ _) d63
      case finK =>
        intro x w' hC hV
        have e44 : x 44 = .bool true := hV 44 _ rfl rfl
        simp only [framed]
        rw [e44]
        clear hV
        go_wp2
        go_ret
        exact ⟨rfl, hBc.trans (hC.mono hBc.size)⟩

  · go_wp2
    go_ret
    exact ⟨rfl, hb1⟩

theorem parts_walk (W : World) (v0 v1 : Value) (o0 : ArgOk 33 W v0) (o1 : ArgOk 3 W v1) :
    Calls Try.prog 4 #[v0, v1] W fun e w' => e = .returned (.bool true) ∧ Below W.heap.size W w' := by
  obtain ⟨A, n, c, l, rfl, rfl, hn, hc, hl⟩ := o0.bytes
  obtain ⟨z, rfl, _, _⟩ := o1.int
  exact parts_any W A c l z hn hc hl

end Go.Proofs.Ytbpmgdcfcmjoiaa
