/-
  The walk of SumLong.
-/
import Derived.Test.YtbpmgdcfcmjoiaaSumG
import Derived.Test.YtbpmgdcfcmjoiaaArg
import Derived.Test.YtbpmgdcfcmjoiaaOwn
namespace Go.Proofs.Ytbpmgdcfcmjoiaa
open Go.RowKit

theorem Try.infoBytes : (Try.prog.info? 33).map (fun i => (i.zero, i.size, i.bytes)) = some (some (.slice none 0 0), 1, 24) := by kernel_rfl

/-- k times one value. -/
def repV (k : Nat) (x : Value) : List Value := List.replicate k x
theorem repV_snoc (k : Nat) (x : Value) : repV (k + 1) x = repV k x ++ [x] := rep_snoc k x

theorem repV_length (k : Nat) (x : Value) : (repV k x).length = k := List.length_replicate
/-- A list of parts: k times l, j times nothing. -/
def partsL (l : List UInt8) (k j : Nat) : List (List UInt8) := List.replicate k l ++ List.replicate j []
def textsB (l : List UInt8) (k j : Nat) : List ByteArray := List.replicate k (strV l) ++ List.replicate j ⟨#[]⟩
theorem partsL_length (l : List UInt8) (k j : Nat) : (partsL l k j).length = k + j := by simp [partsL]
theorem textsB_length (l : List UInt8) (k j : Nat) : (textsB l k j).length = k + j := by simp [textsB]
theorem crc_parts (l : List UInt8) (k j : Nat) : crcOf (partsL l k j) = crcOf (partsL l k 0) := by
  unfold crcOf partsL
  simp
theorem textsB_size (l : List UInt8) (k j : Nat) (h : l.length ≤ 50) : ∀ s ∈ textsB l k j, s.size ≤ maxLen := by
  intro s hs
  unfold textsB at hs
  rcases List.mem_append.1 hs with h1 | h1
  · rw [(List.mem_replicate.1 h1).2, strV_size]; unfold maxLen; omega
  · rw [(List.mem_replicate.1 h1).2]; decide
/-- The cells of the two lists. -/
def cellsL (X Y : Value) (k j : Nat) : List Value := repV k X ++ repV j Y
theorem cellsL_zero (X Y : Value) (k : Nat) : cellsL X Y k 0 = repV k X := by simp [cellsL, repV]
theorem cellsL_snoc (X Y : Value) (k j : Nat) : cellsL X Y k (j + 1) = cellsL X Y k j ++ [Y] := by
  unfold cellsL
  rw [repV_snoc, List.append_assoc]
theorem slices_parts {w : World} {A A' : Option Addr} {l : List UInt8} {c k j : Nat} (h : Row w w.heap.size A' (cellsL (.slice A l.length c) (.slice none 0 0) k j)) (hl : Bytes w w.heap.size A l) (hm : l.length ≤ maxLen) :
    Slices w w.heap.size A' (partsL l k j) := by
  refine ⟨_, by simp [cellsL, repV, partsL], h, fun i hi => ?_⟩
  have hi' : i < k + j := by rw [partsL_length] at hi; exact hi
  by_cases hk : i < k
  · refine ⟨A, c, ?_, ?_, ?_⟩
    · simp [cellsL, repV, partsL, List.getElem?_append, hk]
    · simpa [partsL, List.getElem_append, hk] using hl
    · simpa [partsL, List.getElem_append, hk] using hm
  · refine ⟨none, 0, ?_, ?_, ?_⟩
    · have h1 : (partsL l k j)[i] = [] := by simp [partsL, List.getElem_append, hk]
      rw [h1]
      have h2 : i - k < j := by omega
      simp [cellsL, repV, List.getElem?_append, hk, h2]
    · have : (partsL l k j)[i] = [] := by simp [partsL, List.getElem_append, hk]
      rw [this]
      exact Row.nil_ _ _ _
    · simp [partsL, List.getElem_append, hk]
theorem strs_parts {w : World} {A' : Option Addr} {l : List UInt8} {k j : Nat} (h : Row w w.heap.size A' (cellsL (.string (strV l)) (.string ⟨#[]⟩) k j)) : Strs w w.heap.size A' (textsB l k j) := by
  unfold Strs textsB
  simpa [cellsL, repV] using h

set_option maxHeartbeats 2000000 in
theorem long_any (w : World) (A : Option Addr) (c : Nat) (l : List UInt8) (t m : Nat) (ht : t < 256) (hm : m < 256) (hl : Bytes w w.heap.size A l) :
    Calls Try.prog 6 #[.slice A l.length c, .int .u8 t, .int .u8 m] w fun e w' => e = .returned (.bool true) ∧ Below w.heap.size w w' := by
  obtain ⟨iA, hiA, hzA0, hzA1, hzA2⟩ := info_parts Try.infoBytes
  obtain ⟨iB, hiB, hzB0, hzB1, hzB2⟩ := info_parts Try.infoStr
  go_enter Try.func6, Try.ntmps6
  go_wp2_with fail
  refine (known_any _).mono ?_
  rintro e w1 ⟨rfl, hb1⟩
  have hl1 := Lib.hid (hl.up hb1)
  clear hl
  by_cases hbig : l.length ≤ 50
  · go_wp2
    obtain ⟨B, hB⟩ : ∃ B, B = w1.heap.size := ⟨_, rfl⟩
    have hl1 := Lib.hid (show Bytes w1 B A l by rw [hB]; exact hl1.out)
    have hB := Lib.hid hB
    obtain ⟨X, hX⟩ : ∃ X : Value, X = .slice A l.length c := ⟨_, rfl⟩
    obtain ⟨Y, hY⟩ : ∃ Y : Value, Y = .string (strV l) := ⟨_, rfl⟩
    have hX := Lib.hid hX
    have hY := Lib.hid hY
    go_loopw [7, 8, 9] (fun v7 v8 i wr => ∃ k : Nat, k ≤ t ∧ i = .int .i64 k ∧ wr.ownsRow B 33 1 v7 k (repV k X) ∧ wr.ownsRow B 9 1 v8 k (repV k Y) ∧ Below B w1 wr ∧ B ≤ wr.heap.size) (fun _ _ i _ => t - (intOf i).toNat)
    case atStart => exact ⟨0, by omega, rfl, World.ownsRow_nil _ _ _ _, World.ownsRow_nil _ _ _ _, Below.refl _ _, by rw [hB.out]; exact Nat.le_refl _⟩
    case round =>
      obtain ⟨k, hk, rfl, hown7, hown8, hbr, hBr⟩ := hrel
      by_cases hlt : k < t
      · go_wp2_with fail
        -- THE REGION THAT DRAWS ITS ORDER, BY ONE LEXICAL WALK OVER GENERIC VALUES (written by relgen.py)
        refine wp_region_tab ((fun _ v => v = u7) ::
          (fun _ v => v = .slice A l.length c) ::
          (fun w v => ∃ g, v = .slice (some ⟨g, 0, none⟩) 1 1 ∧ Holds w g 33 #[X] ∧ some g ≠ u7.ownBlock ∧ some g ≠ u8.ownBlock) ::
          (fun w v => w.ownsRow B 33 1 v (k + 1) (repV (k + 1) X)) ::
          (fun _ v => v = u8) ::
          (fun _ v => v = .slice A l.length c) ::
          (fun _ v => v = .string (strV l)) ::
          (fun w v => ∃ g, v = .slice (some ⟨g, 0, none⟩) 1 1 ∧ Holds w g 9 #[Y] ∧ some g ≠ u7.ownBlock ∧ some g ≠ u8.ownBlock) ::
          (fun w v => w.ownsRow B 9 1 v (k + 1) (repV (k + 1) Y)) ::
          (fun w v => w.ownsRow B 33 1 v (k + 1) (repV (k + 1) X)) ::
          (fun w v => w.ownsRow B 9 1 v (k + 1) (repV (k + 1) Y)) :: [])
          (⟨[(7, none)], 0, []⟩ :: ⟨[(0, none)], 0, []⟩ :: ⟨[(25, some 1)], 0, []⟩ :: ⟨[(24, some 0), (26, some 2)], 0, []⟩ :: ⟨[(8, none)], 0, []⟩ :: ⟨[(0, none)], 0, []⟩ :: ⟨[(29, some 5)], 0, []⟩ :: ⟨[(30, some 6)], 0, []⟩ :: ⟨[(28, some 4), (31, some 7)], 0, []⟩ :: ⟨[(27, some 3)], 0, []⟩ :: ⟨[(32, some 8)], 0, []⟩ :: [])
          (none :: none :: none :: none :: none :: none :: none :: some 9 :: some 10 :: none :: none :: none :: none :: none :: none :: none :: none :: none :: none :: none :: none :: none :: none :: none :: some 0 :: some 1 :: some 2 :: some 3 :: some 4 :: some 5 :: some 6 :: some 7 :: some 8 :: [])
          (fun L wx => Below B w1 wx ∧ (L 3 = false → wx.ownsRow B 33 1 u7 k (repV k X)) ∧ (L 8 = false → wx.ownsRow B 9 1 u8 k (repV k Y)) ∧ wr.heap.size ≤ wx.heap.size) (fun i w w' => (i ≠ 3 → Keeps B 33 w w') ∧ (i ≠ 8 → Keeps B 9 w w') ∧ Apart2 u7.ownBlock u8.ownBlock w w') ?mixK ?okK ?tabK ?frK ?inK ?keptK ?startK ?eachK ?finK
        case mixK => kernel_rfl
        case okK => kernel_rfl
        case tabK => kernel_rfl
        case frK => kernel_rfl
        case inK => rfl
        case keptK => exact ⟨fun _ _ _ _ _ _ _ h => h, fun _ _ _ _ _ _ _ h => h, fun i _ _ w w' v hG ⟨g, e, h, h1, h2⟩ => ⟨g, e, h.apart2 hG.2.2 h1 h2, h1, h2⟩, fun i hi hr w w' v hG h => hG.1 (by rintro rfl; first | exact hi rfl | simp at hr) _ _ _ h, fun _ _ _ _ _ _ _ h => h, fun _ _ _ _ _ _ _ h => h, fun _ _ _ _ _ _ _ h => h, fun i _ _ w w' v hG ⟨g, e, h, h1, h2⟩ => ⟨g, e, h.apart2 hG.2.2 h1 h2, h1, h2⟩, fun i hi hr w w' v hG h => hG.2.1 (by rintro rfl; first | exact hi rfl | simp at hr) _ _ _ h, fun i hi hr w w' v hG h => hG.1 (by rintro rfl; first | exact hi rfl | simp at hr) _ _ _ h, fun i hi hr w w' v hG h => hG.2.1 (by rintro rfl; first | exact hi rfl | simp at hr) _ _ _ h, trivial⟩
        case startK => exact ⟨hbr.drew, fun _ => hown7.drew, fun _ => hown8.drew, Nat.le_refl _⟩
        case eachK =>
          refine ⟨?_, ?_, ?_, ?_, ?_, ?_, ?_, ?_, ?_, ?_, ?_, trivial⟩
          -- 0: slot 24 := move t7
          · intro w L f hC hLi hLd hLn hF
            obtain ⟨d7, _⟩ := hF
            have d7 : f 7 = u7 := d7
            refine Step2.live rfl ?_
            exact relUpon_value (v := f 7) rfl (⟨hC.1, fun h => hC.2.1 (by simpa using h), fun h => hC.2.2.1 (by simpa using h), hC.2.2.2⟩) (⟨fun _ => Keeps.refl _ _ _, fun _ => Keeps.refl _ _ _, Apart2.refl _ _ _⟩) d7
          -- 1: slot 25 := move t0
          · intro w L f hC hLi hLd hLn hF
            obtain ⟨d0, _⟩ := hF
            have d0 : f 0 = .slice A l.length c := d0
            refine Step2.live rfl ?_
            exact relUpon_value (v := f 0) rfl (⟨hC.1, fun h => hC.2.1 (by simpa using h), fun h => hC.2.2.1 (by simpa using h), hC.2.2.2⟩) (⟨fun _ => Keeps.refl _ _ _, fun _ => Keeps.refl _ _ _, Apart2.refl _ _ _⟩) d0
          -- 2: slot 26 := buildSlice 22 1 #[(0, t25)]
          · intro w L f hC hLi hLd hLn hF
            obtain ⟨d25, _⟩ := hF
            have d25 : f 25 = .slice A l.length c := d25
            refine Step2.live rfl ?_
            have ev : ∀ t, evalOf f (.tmp t) = f t := fun _ => rfl
            have ec : ∀ c, evalOf f (.const c) = c := fun _ => rfl
            have ef : ∀ g, evalOf f (.func g) = .func (.func g) #[] #[] := fun _ => rfl
            refine relUpon_value (w' := w.alloc (.cells #[X] 33)) (v := .slice (some ⟨w.heap.size, 0, none⟩) 1 1) ?_ ⟨hC.1.alloc (Nat.le_trans hBr hC.2.2.2) _, fun h => (hC.2.1 (by simpa using h)).alloc _, fun h => (hC.2.2.1 (by simpa using h)).alloc _, Nat.le_trans hC.2.2.2 (by simp)⟩ ⟨fun _ => Keeps.below (below_new _ _), fun _ => Keeps.below (below_new _ _), Apart2.below (below_new _ _)⟩ ⟨_, rfl, Holds.new _ _ _, fun e => by have := (hown7.lt _ e.symm).2; have := hC.2.2.2; omega, fun e => by have := (hown8.lt _ e.symm).2; have := hC.2.2.2; omega⟩
            rw [hX.out]
            go_simp
          -- 3: slot 27 := call { builtin append, args := #[t24, t26], argTypes := #[22, 22] }
          · intro w L f hC hLi hLd hLn hF
            obtain ⟨d24, d26, _⟩ := hF
            have d24 : f 24 = u7 := d24
            refine Step2.live rfl ?_
            obtain ⟨g, e0, hg, _, _⟩ := d26
            refine relUpon_append_row w (.tmp 24) (.tmp 26) 22 rfl B 33 iA (.slice none 0 0) 24 Try.underlying22 hiA hzA0 hzA1 hzA2 rfl u7 k (repV k X) d24 (hC.2.1 hLi) w.heap.size (some ⟨g, 0, none⟩) 1 1 [X] e0 rfl (Row.ofHolds hg hg.lt) (by intro u hu; simp at hu; subst hu; rw [hX.out]; rfl) (by unfold maxLen; omega) (by omega) (Nat.le_trans hBr hC.2.2.2) ?_
            intro v' w2 ho hgr hat
            have hs2 := hgr.size
            rw [← repV_snoc] at ho
            refine ⟨⟨hC.1.grown hgr (Nat.le_trans hBr hC.2.2.2) (fun k hk => (hown7.lt k hk).1), fun h => absurd h (by simp), fun h => own_other (hC.2.2.1 (by simpa using h)) (hC.2.1 hLi) (by decide) hgr, Nat.le_trans hC.2.2.2 hs2⟩, ⟨fun h => absurd rfl h, fun _ => Keeps.other (hC.2.1 hLi) (by decide) hgr, Apart2.left hgr⟩, ho⟩
          -- 4: slot 28 := move t8
          · intro w L f hC hLi hLd hLn hF
            obtain ⟨d8, _⟩ := hF
            have d8 : f 8 = u8 := d8
            refine Step2.live rfl ?_
            exact relUpon_value (v := f 8) rfl (⟨hC.1, fun h => hC.2.1 (by simpa using h), fun h => hC.2.2.1 (by simpa using h), hC.2.2.2⟩) (⟨fun _ => Keeps.refl _ _ _, fun _ => Keeps.refl _ _ _, Apart2.refl _ _ _⟩) d8
          -- 5: slot 29 := move t0
          · intro w L f hC hLi hLd hLn hF
            obtain ⟨d0, _⟩ := hF
            have d0 : f 0 = .slice A l.length c := d0
            refine Step2.live rfl ?_
            exact relUpon_value (v := f 0) rfl (⟨hC.1, fun h => hC.2.1 (by simpa using h), fun h => hC.2.2.1 (by simpa using h), hC.2.2.2⟩) (⟨fun _ => Keeps.refl _ _ _, fun _ => Keeps.refl _ _ _, Apart2.refl _ _ _⟩) d0
          -- 6: slot 30 := convert 33 9 t29
          · intro w L f hC hLi hLd hLn hF
            obtain ⟨d29, _⟩ := hF
            have d29 : f 29 = .slice A l.length c := d29
            refine Step2.live rfl ?_
            have kv := run_text (P := Try.prog) w 33 5 Try.underlying33 Try.underlying5 A l.length c l rfl (hl1.out.below hC.1) 9 Try.underlying9
            have ev : ∀ t, evalOf f (.tmp t) = f t := fun _ => rfl
            have ec : ∀ c, evalOf f (.const c) = c := fun _ => rfl
            have ef : ∀ g, evalOf f (.func g) = .func (.func g) #[] #[] := fun _ => rfl
            refine relUpon_value ?_ (⟨hC.1, fun h => hC.2.1 (by simpa using h), fun h => hC.2.2.1 (by simpa using h), hC.2.2.2⟩) (⟨fun _ => Keeps.refl _ _ _, fun _ => Keeps.refl _ _ _, Apart2.refl _ _ _⟩) rfl
            go_simp
          -- 7: slot 31 := buildSlice 30 1 #[(0, t30)]
          · intro w L f hC hLi hLd hLn hF
            obtain ⟨d30, _⟩ := hF
            have d30 : f 30 = .string (strV l) := d30
            refine Step2.live rfl ?_
            have ev : ∀ t, evalOf f (.tmp t) = f t := fun _ => rfl
            have ec : ∀ c, evalOf f (.const c) = c := fun _ => rfl
            have ef : ∀ g, evalOf f (.func g) = .func (.func g) #[] #[] := fun _ => rfl
            refine relUpon_value (w' := w.alloc (.cells #[Y] 9)) (v := .slice (some ⟨w.heap.size, 0, none⟩) 1 1) ?_ ⟨hC.1.alloc (Nat.le_trans hBr hC.2.2.2) _, fun h => (hC.2.1 (by simpa using h)).alloc _, fun h => (hC.2.2.1 (by simpa using h)).alloc _, Nat.le_trans hC.2.2.2 (by simp)⟩ ⟨fun _ => Keeps.below (below_new _ _), fun _ => Keeps.below (below_new _ _), Apart2.below (below_new _ _)⟩ ⟨_, rfl, Holds.new _ _ _, fun e => by have := (hown7.lt _ e.symm).2; have := hC.2.2.2; omega, fun e => by have := (hown8.lt _ e.symm).2; have := hC.2.2.2; omega⟩
            rw [hY.out]
            go_simp
          -- 8: slot 32 := call { builtin append, args := #[t28, t31], argTypes := #[30, 30] }
          · intro w L f hC hLi hLd hLn hF
            obtain ⟨d28, d31, _⟩ := hF
            have d28 : f 28 = u8 := d28
            refine Step2.live rfl ?_
            obtain ⟨g, e0, hg, _, _⟩ := d31
            refine relUpon_append_row w (.tmp 28) (.tmp 31) 30 rfl B 9 iB (.string ⟨#[]⟩) 16 Try.underlying30 hiB hzB0 hzB1 hzB2 rfl u8 k (repV k Y) d28 (hC.2.2.1 hLi) w.heap.size (some ⟨g, 0, none⟩) 1 1 [Y] e0 rfl (Row.ofHolds hg hg.lt) (by intro u hu; simp at hu; subst hu; rw [hY.out]; rfl) (by unfold maxLen; omega) (by omega) (Nat.le_trans hBr hC.2.2.2) ?_
            intro v' w2 ho hgr hat
            have hs2 := hgr.size
            rw [← repV_snoc] at ho
            refine ⟨⟨hC.1.grown hgr (Nat.le_trans hBr hC.2.2.2) (fun k hk => (hown8.lt k hk).1), fun h => own_other (hC.2.1 (by simpa using h)) (hC.2.2.1 hLi) (by decide) hgr, fun h => absurd h (by simp), Nat.le_trans hC.2.2.2 hs2⟩, ⟨fun _ => Keeps.other (hC.2.2.1 hLi) (by decide) hgr, fun h => absurd rfl h, Apart2.right hgr⟩, ho⟩
          -- 9: slot 7 := assign t27
          · intro w L f hC hLi hLd hLn hF
            obtain ⟨d27, _⟩ := hF
            refine Step2.live rfl ?_
            exact relUpon_value (v := f 27) rfl (⟨hC.1, fun h => hC.2.1 (by simpa using h), fun h => hC.2.2.1 (by simpa using h), hC.2.2.2⟩) (⟨fun _ => Keeps.refl _ _ _, fun _ => Keeps.refl _ _ _, Apart2.refl _ _ _⟩) d27
          -- 10: slot 8 := assign t32
          · intro w L f hC hLi hLd hLn hF
            obtain ⟨d32, _⟩ := hF
            refine Step2.live rfl ?_
            exact relUpon_value (v := f 32) rfl (⟨hC.1, fun h => hC.2.1 (by simpa using h), fun h => hC.2.2.1 (by simpa using h), hC.2.2.2⟩) (⟨fun _ => Keeps.refl _ _ _, fun _ => Keeps.refl _ _ _, Apart2.refl _ _ _⟩) d32
        case finK =>
          intro x w' hC hV
          have e7 : w'.ownsRow B 33 1 (x 9) (k + 1) (repV (k + 1) X) := hV 9 _ rfl rfl
          have e8 : w'.ownsRow B 9 1 (x 10) (k + 1) (repV (k + 1) Y) := hV 10 _ rfl rfl
          have hC1 := hC.1
          have hC2 := hC.2.2.2
          simp only [framed]
          clear hV hC
          generalize x 9 = v7 at *
          generalize x 10 = v8 at *
          go_wp2
          go_roundw
          case rel => exact ⟨k + 1, by omega, by go_num, e7, e8, hC1, Nat.le_trans hBr hC2⟩
          case measure => simp [intOf]; omega

      · obtain rfl : k = t := by omega
        have hm0 : l.length ≤ maxLen := by unfold maxLen; omega
        have hl2 := hl1.out.below hbr
        rw [← cellsL_zero X (.slice none 0 0)] at hown7
        rw [← cellsL_zero Y (.string ⟨#[]⟩)] at hown8
        have hB2 := hb1.trans (hbr.mono (by rw [hB.out]; exact hb1.size))
        have hl3 := Lib.hid (hl2.more hBr)
        clear hl2
        obtain ⟨A7, c7, hv7, hr7, _, _⟩ := own_row hown7
        obtain ⟨A8, c8, hv8, hr8, _, _⟩ := own_row hown8
        rw [hv7] at hown7
        rw [hv8] at hown8
        subst hv7
        subst hv8
        rw [hX.out] at hr7
        rw [hY.out] at hr8
        have hs7 := Lib.hid (slices_parts hr7 hl3.out hm0)
        have hs8 := Lib.hid (strs_parts hr8)
        clear hr7 hr8
        go_wp2_with fail
        ((with_reducible refine (crc_len _ _ _ _ (partsL l k 0) hs7.out ?hn ?hm).mono ?_))
        case hn => exact partsL_length _ _ _
        case hm => unfold maxLen; omega
        rintro e w2 ⟨rfl, hb2⟩
        have hown7 := own_below hown7 hb2
        have hown8 := own_below hown8 hb2
        have hs8 := Lib.hid (hs8.out.up hb2)
        have hl3 := Lib.hid (hl3.out.up hb2)
        have hB3 := hB2.trans (hb2.mono hB2.size)
        clear hs7
        go_wp2_with fail
        ((with_reducible refine (print_len _ _ _ _ (textsB l k 0) hs8.out (textsB_size _ _ _ hbig) ?hn2 ?hm2).mono ?_))
        case hn2 => exact textsB_length _ _ _
        case hm2 => unfold maxLen; omega
        rintro e w3 ⟨rfl, rfl⟩
        have hBr2 := Nat.le_trans hBr hb2.size
        have hbw := hbr.trans (hb2.mono hBr)
        clear hs8 hbr hb2 hBr hl3 hB2 hB3
        go_wp2
        go_loopw [7, 8, 12] (fun v7 v8 i wr => ∃ j : Nat, j ≤ m % 4 ∧ i = .int .i64 j ∧ wr.ownsRow B 33 1 v7 (k + j) (cellsL X (.slice none 0 0) k j) ∧ wr.ownsRow B 9 1 v8 (k + j) (cellsL Y (.string ⟨#[]⟩) k j) ∧ Below B w1 wr ∧ B ≤ wr.heap.size)
          (fun _ _ i _ => m % 4 - (intOf i).toNat)
        case atStart => exact ⟨0, by omega, rfl, hown7, hown8, hbw, hBr2⟩
        case round =>
          obtain ⟨j, hj, rfl, ho7, ho8, hb4, hB4⟩ := hrel
          by_cases hjl : j < m % 4
          · go_wp2_with (first
              | (at_builtin
                 refine wpList_append_row _ rfl (.tmp 44) (.tmp 45) 22 rfl B 33 iA (.slice none 0 0) 24 Try.underlying22 hiA hzA0 hzA1 hzA2 rfl u7 (k + j) _ rfl (ho7.alloc _) _ (some ⟨wr.heap.size, 0, none⟩) 1 1 [.slice none 0 0] rfl rfl (Row.one _ _ _) (by intro u hu; simp at hu; subst hu; rfl) (by unfold maxLen; omega) (by omega) (by simp; omega) ?_
                 intro v7 w5 ho7' hg5 _
                 rw [← cellsL_snoc] at ho7'
                 have ho8' := own_other (ho8.alloc _) (ho7.alloc _) (by decide) hg5
                 have hb5 : Below B w1 w5 := (hb4.alloc hB4 _).grown hg5 (by simp; omega) (fun q hq => (ho7.lt q hq).1)
                 have hB5 : B ≤ w5.heap.size := by have := hg5.size; simp at this; omega)
              | (at_builtin
                 refine wpList_append_row _ rfl (.tmp 47) (.tmp 48) 30 rfl B 9 iB (.string ⟨#[]⟩) 16 Try.underlying30 hiB hzB0 hzB1 hzB2 rfl u8 (k + j) _ rfl (ho8'.alloc _) _ (some ⟨w5.heap.size, 0, none⟩) 1 1 [.string ⟨#[]⟩] rfl rfl (Row.one _ _ _) (by intro u hu; simp at hu; subst hu; rfl) (by unfold maxLen; omega) (by omega) (by simp; omega) ?_
                 intro v8 w6 ho8'' hg6 _
                 rw [← cellsL_snoc] at ho8''
                 have ho7'' := own_other (ho7'.alloc _) (ho8'.alloc _) (by decide) hg6
                 have hb6 : Below B w1 w6 := (hb5.alloc hB5 _).grown hg6 (by simp; omega) (fun q hq => (ho8'.lt q hq).1)
                 have hB6 : B ≤ w6.heap.size := by have := hg6.size; simp at this; omega
                 clear ho7' ho8' hg5 hg6 hb5))
            go_roundw
            case rel => exact ⟨j + 1, by omega, by go_num, ho7'', ho8'', hb6, hB6⟩
            case measure => simp [intOf]; omega
          · obtain rfl : j = m % 4 := by omega
            have hl4 := Lib.hid ((hl1.out.below hb4).more hB4)
            have hB5 := Lib.hid (hb1.trans (hb4.mono (by rw [hB.out]; exact hb1.size)))
            obtain ⟨A5, c5, hv5, hr5, _, _⟩ := own_row ho7
            obtain ⟨A6, c6, hv6, hr6, _, _⟩ := own_row ho8
            subst hv5
            subst hv6
            rw [hX.out] at hr5
            rw [hY.out] at hr6
            have hs5 := Lib.hid (slices_parts hr5 hl4.out hm0)
            have hs6 := Lib.hid (strs_parts hr6)
            have hcr := Lib.hid (crc_parts l k (m % 4))
            have hlen : k + m % 4 ≤ 300 := by omega
            clear hr5 hr6 ho7 ho8 hb4 hB4 hown7 hown8 hbw hBr2 hl4
            go_wp2_with fail
            ((with_reducible refine (refcrc_len _ _ _ _ (partsL l k (m % 4)) hs5.out ?hn3 ?hm3).mono ?_))
            case hn3 => exact partsL_length _ _ _
            case hm3 => unfold maxLen; omega
            rintro e w3 ⟨he, rfl⟩
            rw [hcr.out] at he
            subst he
            go_wp2_with fail
            ((with_reducible refine (crc_len _ _ _ _ (partsL l k (m % 4)) hs5.out ?hn4 ?hm4).mono ?_))
            case hn4 => exact partsL_length _ _ _
            case hm4 => unfold maxLen; omega
            rintro e w3 ⟨he, hb3⟩
            rw [hcr.out] at he
            subst he
            have hs7 := Lib.hid (hs6.out.up hb3)
            have hB7 := Lib.hid (hB5.out.trans (hb3.mono hB5.out.size))
            clear hb3 hs5 hs6 hB5
            go_wp2_with fail
            ((with_reducible refine (print_len _ _ _ _ (textsB l k (m % 4)) hs7.out (textsB_size _ _ _ hbig) ?hn5 ?hm5).mono ?_))
            case hn5 => exact textsB_length _ _ _
            case hm5 => unfold maxLen; omega
            rintro e w4 ⟨rfl, rfl⟩
            go_wp2_with fail
            ((with_reducible refine (refprint_len _ _ _ _ (textsB l k (m % 4)) hs7.out (textsB_size _ _ _ hbig) ?hn6 ?hm6).mono ?_))
            case hn6 => exact textsB_length _ _ _
            case hm6 => unfold maxLen; omega
            rintro e w4 ⟨rfl, rfl⟩
            by_cases h0 : m % 4 = 0
            · have h0i : ¬ (0 : Int) < (m : Int) % 4 := by omega
              go_wp2_with fail
              ((with_reducible refine (print_len _ _ _ _ (textsB l k (m % 4)) hs7.out (textsB_size _ _ _ hbig) ?hn7 ?hm7).mono ?_))
              case hn7 => rw [textsB_length]; omega
              case hm7 => unfold maxLen; omega
              rintro e w4 ⟨he, rfl⟩
              rw [h0] at he
              subst he
              go_wp2_with fail
              go_ret
              exact ⟨rfl, hB7.out⟩
            · have h0i : (0 : Int) < (m : Int) % 4 := by omega
              go_wp2_with fail
              go_ret
              exact ⟨rfl, hB7.out⟩
  · go_wp2
    go_ret
    exact ⟨rfl, hb1⟩

theorem long_walk (W : World) (v0 v1 v2 : Value) (o0 : ArgOk 33 W v0) (o1 : ArgOk 5 W v1) (o2 : ArgOk 5 W v2) :
    Calls Try.prog 6 #[v0, v1, v2] W fun e w' => e = .returned (.bool true) ∧ Below W.heap.size W w' := by
  obtain ⟨A, n, c, l, rfl, rfl, hn, hc, hl⟩ := o0.bytes
  obtain ⟨t, rfl, ht⟩ := o1.u8
  obtain ⟨m, rfl, hm⟩ := o2.u8
  exact long_any W A c l t m ht hm hl

end Go.Proofs.Ytbpmgdcfcmjoiaa
