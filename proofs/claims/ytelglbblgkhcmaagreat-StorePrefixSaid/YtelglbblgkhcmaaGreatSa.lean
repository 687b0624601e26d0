/-
  Package store: pairs, their records, the store's map: pack, unpack, change, sorted keys, snapshot.
-/
import Derived.Test.YtelglbblgkhcmaaGreatCodeT
import Derived.Test.YtelglbblgkhcmaaGreatCodeI
import Derived.Test.YtelglbblgkhcmaaGreatWb
import Derived.Test.YtelglbblgkhcmaaGreatIMap
import Derived.StringKeys
import Derived.Test.YtelglbblgkhcmaaGreatIterS
import Derived.Test.YtelglbblgkhcmaaGreatWf
namespace Go.Proofs.YtelglbblgkhcmaaGreat
open Go.RowKit Go.Deep

/-- A change: a key, its value, whether it goes. -/
structure PairR where
  k : ByteArray
  v : ByteArray
  gone : Bool
def markB : ByteArray := ⟨#[97, 117, 103, 117, 114, 46, 112, 97, 105, 114]⟩
def PairR.val (p : PairR) : Value := .agg #[.string p.k, .string p.v, .bool p.gone]
def PairR.ok (p : PairR) : Prop := p.k.size ≤ 2000000 ∧ p.v.size ≤ 2000000
def packE (p : PairR) : List UInt8 := txtE markB ++ boolE p.gone ++ (txtE p.k ++ txtE p.v)
theorem markE_len : (txtE markB).length = 11 := by
  have h : markB.size = 10 := rfl
  have h2 : markB.data.toList.length = 10 := rfl
  unfold txtE
  rw [h, numE_small (by omega), List.length_append, h2]
  rfl
theorem packE_len (p : PairR) (h : p.ok) : (packE p).length ≤ 4000032 := by
  have h1 := txtE_len 2000000 p.k h.1 (by omega)
  have h2 := txtE_len 2000000 p.v h.2 (by omega)
  have h3 := markE_len
  unfold packE
  simp only [List.length_append, boolE, List.length_cons, List.length_nil]
  omega
set_option maxRecDepth 100000 in
theorem bytes_own (w : World) (B g : Nat) (t : TypeId) (v : Value) (l : List UInt8) (hw : Wrt w B g t v l) (hlen : l.length ≤ 100000000) :
    Calls Tryz.prog 54 #[.pointer (some ⟨g, 0, none⟩)] w fun e w' => (∃ u, e = .returned u ∧ NewB w w' l u) ∧ Below w.heap.size w w' := by
  obtain ⟨A, c, rfl, hr, _, _⟩ := own_row hw.own
  have c2 : w.cell? ⟨g, 0, none⟩ = some (.slice A l.length c) := by rw [hw.cell.cell 0]; rfl
  have hr := Lib.hid hr
  clear hw
  go_enter Tryz.func54, Tryz.ntmps54
  go_wp2_with fail
  refine (clone_any _ A _ c l rfl hlen hr.out.rowAt).mono ?_
  rintro e w' ⟨⟨u, rfl, hu⟩, hB⟩
  have hu := Lib.hid hu
  have hB := Lib.hid hB
  go_wp2
  go_ret
  exact ⟨⟨u, rfl, hu.out⟩, hB.out⟩
set_option maxRecDepth 100000 in
set_option maxHeartbeats 4000000 in
theorem pack_any (w : World) (p : PairR) (hp : p.ok) :
    Calls Tryz.prog 30 #[p.val] w fun e w' => ∃ y : Pay, e = .returned y.val ∧ y.l = packE p ∧ w'.ownsRow w.heap.size 5 1 y.val y.l.length (y.l.map byteV) ∧ Below w.heap.size w w' := by
  obtain ⟨wa, hwa⟩ : ∃ x, x = w.alloc (.cells #[.string p.k, .string p.v, .bool p.gone] 41) := ⟨_, rfl⟩
  have hbx := Holds.new w 41 #[.string p.k, .string p.v, .bool p.gone]
  have hb0 := below_new w (.cells #[.string p.k, .string p.v, .bool p.gone] 41)
  unfold PairR.val
  go_enter Tryz.func30, Tryz.ntmps30
  go_wp2_with fail
  rw [← hwa] at hbx hb0 ⊢
  clear hwa
  obtain ⟨bx, hbxe⟩ : ∃ x, x = w.heap.size := ⟨_, rfl⟩
  have hb0 := Lib.hid hb0
  have hbxe' := Lib.hid hbxe
  rw [← hbxe] at hbx
  rw [← hbxe]
  have hbx1 := Lib.hid hbx
  clear hbx hbxe
  refine (newWriter_any wa).mono ?_
  rintro e w1 ⟨rfl, e1⟩
  have hu0 := newWriter_wrt wa
  have hb1 := below_new wa (.cells #[.slice none 0 0] 118)
  rw [← e1] at hu0 hb1
  clear e1
  obtain ⟨g, hg⟩ : ∃ x, x = wa.heap.size := ⟨_, rfl⟩
  rw [← hg] at hu0 hb1 ⊢
  have hag : Hid (bx < g) := Lib.hid (by have := hbx1.out.lt; omega)
  have hgw : Hid (w.heap.size ≤ g) := Lib.hid (by have := hb0.out.size; omega)
  have hbx2 := Lib.hid (hbx1.out.below (B := g) hb1 hag.out)
  have hb2 := Lib.hid (hb0.out.trans (hb1.mono hgw.out))
  have hg1 := Lib.hid (Nat.le_of_lt hu0.cell.lt)
  have hu0' := Lib.hid hu0
  clear hb1 hg hu0 hbx1 hb0
  go_wp2_with fail
  have hk := Holds.new w1 9 #[.string markB]
  have hb3 := below_new w1 (.cells #[.string markB] 9)
  obtain ⟨wl, hwl⟩ : ∃ x, x = w1.alloc (.cells #[.string markB] 9) := ⟨_, rfl⟩
  have hm0 : markB = (⟨#[97, 117, 103, 117, 114, 46, 112, 97, 105, 114]⟩ : ByteArray) := rfl
  rw [hm0] at hwl
  rw [← hwl]
  rw [← hm0] at hwl
  rw [← hwl] at hk hb3
  clear hwl hm0
  refine (text_puts (l2 := txtE markB) hb3 hu0'.out hg1.out [markB] 1 10 hk (Nat.le_refl _) rfl rfl (by simp; decide) (by omega) (by simp) (by simp)).mono ?_
  clear hk hb3
  rintro e w2 hw2
  have hbw := Wrote.below hu0'.out hg1.out hw2
  obtain ⟨rfl, u, hu1, hM, hF⟩ := hw2
  clear hM hF
  have hbx3 := hbx2.out.below (B := g) hbw hag.out
  have hb4 := Lib.hid (hb2.out.trans (hbw.mono hgw.out))
  have hBb := Lib.hid (Nat.le_of_lt hu1.cell.lt)
  have f2 := Lib.hid (hbx3.fact 2 rfl)
  have hbx3 := Lib.hid hbx3
  have hu := Lib.hid hu1
  have hml := markE_len
  have h1 := txtE_len 2000000 p.k hp.1 (by omega)
  have h2 := txtE_len 2000000 p.v hp.2 (by omega)
  have hlen : Hid ((txtE markB).length + 1 * 1 ≤ 99999999990 ∧ (txtE markB).length + 1 + (txtE p.k).length + (txtE p.v).length ≤ 5000000) := Lib.hid (by omega)
  have hp := Lib.hid hp
  clear hu1 hbx2 hb2 hg1 hu0' hbw hml h1 h2
  rename World => wb
  go_wp2_with fail
  -- THE REGION THAT DRAWS ITS ORDER, BY ONE LEXICAL WALK OVER GENERIC VALUES (written by relgen.py)
  refine wp_region_tabL ((fun _ _ v => v = .pointer (some ⟨g, 0, none⟩)) ::
    (fun _ _ v => v = .pointer (some ⟨g, 0, none⟩)) ::
    (fun _ _ v => v = .pointer (some ⟨g, 0, none⟩)) ::
    (fun _ _ v => v = .pointer (some ⟨bx, 2, none⟩)) ::
    (fun _ _ v => v = .bool p.gone) ::
    (fun L w v => Till 6 (fun w v => NewCells wb.heap.size 4 #[.bool p.gone] 1 w v) L w v) ::
    (fun _ _ _ => True) :: [])
    (⟨[(3, none)], 0, [6]⟩ :: ⟨[(10, some 0)], 0, [6]⟩ :: ⟨[(11, some 1)], 0, [6]⟩ :: ⟨[(1, none)], 0, [6]⟩ :: ⟨[(13, some 3)], 0, [6]⟩ :: ⟨[(14, some 4)], 0, [6]⟩ :: ⟨[(12, some 2), (15, some 5)], 0, []⟩ :: [])
    (none :: none :: none :: none :: none :: none :: none :: none :: none :: none :: some 0 :: some 1 :: some 2 :: some 3 :: some 4 :: some 5 :: some 6 :: [])
    (fun L w' => PutAt wb g g 118 u (txtE markB ++ boolE p.gone) (L 6) w') (fun i w w' => i ≠ 6 → Below w.heap.size w w') ?mixK3 ?okK3 ?tabK3 ?frK3 ?inK3 ?keptK3 ?startK3 ?eachK3 ?finK3
  case mixK3 => kernel_rfl
  case okK3 => kernel_rfl
  case tabK3 => kernel_rfl
  case frK3 => kernel_rfl
  case inK3 => rfl
  case keptK3 => exact ⟨fun _ _ _ _ _ _ _ _ _ _ _ h => h, fun _ _ _ _ _ _ _ _ _ _ _ h => h, fun _ _ _ _ _ _ _ _ _ _ _ h => h, fun _ _ _ _ _ _ _ _ _ _ _ h => h, fun _ _ _ _ _ _ _ _ _ _ _ h => h, fun _ _ _ _ _ _ _ _ _ _ hG h => Till.keep h fun hne h => h.keep (hG hne), fun _ _ _ _ _ _ _ _ _ _ _ h => h, trivial⟩
  case startK3 => exact ⟨fun _ => (Below.refl _ _).drew, fun h => by simp at h⟩
  case eachK3 =>
    refine ⟨?_, ?_, ?_, ?_, ?_, ?_, ?_, trivial⟩
    -- 0: slot 10 := move t3
    · intro w L f hC hLi hLd hLn hF
      obtain ⟨d3, _⟩ := hF
      have d3 : f 3 = .pointer (some ⟨g, 0, none⟩) := d3
      refine Step2.live rfl ?_
      exact relUpon_value (v := f 3) rfl (hC) (fun _ => Below.refl _ _) d3
    -- 1: slot 11 := nilCheck t10
    · intro w L f hC hLi hLd hLn hF
      obtain ⟨d10, _⟩ := hF
      have d10 : f 10 = .pointer (some ⟨g, 0, none⟩) := d10
      refine Step2.live rfl ?_
      have ev : ∀ t, evalOf f (.tmp t) = f t := fun _ => rfl
      have ec : ∀ c, evalOf f (.const c) = c := fun _ => rfl
      have ef : ∀ g, evalOf f (.func g) = .func (.func g) #[] #[] := fun _ => rfl
      refine relUpon_value ?_ hC (fun _ => Below.refl _ _) rfl
      go_simp
    -- 2: slot 12 := fieldAddr 118 t11 0
    · intro w L f hC hLi hLd hLn hF
      obtain ⟨d11, _⟩ := hF
      have d11 : f 11 = .pointer (some ⟨g, 0, none⟩) := d11
      refine Step2.live rfl ?_
      have ev : ∀ t, evalOf f (.tmp t) = f t := fun _ => rfl
      have ec : ∀ c, evalOf f (.const c) = c := fun _ => rfl
      have ef : ∀ g, evalOf f (.func g) = .func (.func g) #[] #[] := fun _ => rfl
      refine relUpon_value ?_ hC (fun _ => Below.refl _ _) rfl
      go_simp
    -- 3: slot 13 := fieldAddr 41 t1 2
    · intro w L f hC hLi hLd hLn hF
      obtain ⟨d1, _⟩ := hF
      have d1 : f 1 = .pointer (some ⟨bx, 0, none⟩) := d1
      refine Step2.live rfl ?_
      have ev : ∀ t, evalOf f (.tmp t) = f t := fun _ => rfl
      have ec : ∀ c, evalOf f (.const c) = c := fun _ => rfl
      have ef : ∀ g, evalOf f (.func g) = .func (.func g) #[] #[] := fun _ => rfl
      refine relUpon_value ?_ hC (fun _ => Below.refl _ _) rfl
      go_simp
    -- 4: slot 14 := load 4 t13
    · intro w L f hC hLi hLd hLn hF
      obtain ⟨d13, _⟩ := hF
      have d13 : f 13 = .pointer (some ⟨bx, 2, none⟩) := d13
      refine Step2.live rfl ?_
      have hcell0 := ((hC.m (hLn 6 (by simp))).cell f2.out.1).trans f2.out.2
      have ev : ∀ t, evalOf f (.tmp t) = f t := fun _ => rfl
      have ec : ∀ c, evalOf f (.const c) = c := fun _ => rfl
      have ef : ∀ g, evalOf f (.func g) = .func (.func g) #[] #[] := fun _ => rfl
      refine relUpon_value ?_ hC (fun _ => Below.refl _ _) rfl
      go_simp
    -- 5: slot 15 := buildSlice 154 1 #[(0, t14)]
    · intro w L f hC hLi hLd hLn hF
      obtain ⟨d14, _⟩ := hF
      have d14 : f 14 = .bool p.gone := d14
      refine Step2.live rfl ?_
      have ev : ∀ t, evalOf f (.tmp t) = f t := fun _ => rfl
      have ec : ∀ c, evalOf f (.const c) = c := fun _ => rfl
      have ef : ∀ g, evalOf f (.func g) = .func (.func g) #[] #[] := fun _ => rfl
      refine relUpon_value (w' := w.alloc (.cells #[.bool p.gone] 4)) (v := .slice (some ⟨w.heap.size, 0, none⟩) 1 1) (by go_simp) (hC.alloc (hLn 6 (by simp)) _) (fun _ => below_new _ _) (fun _ => ⟨_, rfl, (hC.m (hLn 6 (by simp))).size, Holds.new _ _ _⟩)
    -- 6: slot 16 := call { value (Operand.func 53), args := #[t12, t15], argTypes := #[116, 154] }
    · intro w L f hC hLi hLd hLn hF
      obtain ⟨d12, d15, _⟩ := hF
      have d12 : f 12 = .pointer (some ⟨g, 0, none⟩) := d12
      refine Step2.live rfl ?_
      obtain ⟨kn, e0, hkn, hrow⟩ := d15 hLi
      have ev : ∀ t, evalOf f (.tmp t) = f t := fun _ => rfl
      have ec : ∀ c, evalOf f (.const c) = c := fun _ => rfl
      have ef : ∀ g, evalOf f (.func g) = .func (.func g) #[] #[] := fun _ => rfl
      refine relUpon_call (f := 53) (args := #[.pointer (some ⟨g, 0, none⟩), .slice (some ⟨kn, 0, none⟩) 1 1]) (w := w) (by go_simp) (bool_puts (l2 := txtE markB ++ boolE p.gone) (hC.m hLi) hu.out hBb.out [p.gone] 1 hrow hkn rfl rfl (by simpa using hlen.out.1) (by simp)) ?_
      intro e w1 hw1
      exact ⟨_, hw1.1, ⟨fun e => by simp at e, fun _ => by have := hw1.1; subst this; exact hw1⟩, fun h => absurd rfl h, trivial⟩
  intro x w' hC hV

  have hd := hC.d rfl
  clear hV hC
  simp only [framed]
  have hbw := Wrote.below hu.out hBb.out hd
  obtain ⟨-, u2, hu2, hM, hF⟩ := hd
  clear hM hF f2
  have hbx4 := hbx3.out.below (B := g) hbw hag.out
  have hb5 := Lib.hid (hb4.out.trans (hbw.mono hgw.out))
  have hBc := Lib.hid (Nat.le_of_lt hu2.cell.lt)
  have f0 := Lib.hid (hbx4.fact 0 rfl)
  have f1 := Lib.hid (hbx4.fact 1 rfl)
  have hu2 := Lib.hid hu2
  clear hbx4 hbx3 hu hb4 hBb hbw
  obtain ⟨wc, hwc⟩ : ∃ x, x = w' := ⟨_, rfl⟩
  rw [← hwc] at hb5 hBc f0 f1 hu2 ⊢
  clear hwc
  go_wp2_with fail
  -- THE REGION THAT DRAWS ITS ORDER, BY ONE LEXICAL WALK OVER GENERIC VALUES (written by relgen.py)
  refine wp_region_tabL ((fun _ _ v => v = .pointer (some ⟨g, 0, none⟩)) ::
    (fun _ _ v => v = .pointer (some ⟨g, 0, none⟩)) ::
    (fun _ _ v => v = .pointer (some ⟨g, 0, none⟩)) ::
    (fun _ _ v => v = .pointer (some ⟨bx, 0, none⟩)) ::
    (fun _ _ v => v = .string p.k) ::
    (fun _ _ v => v = .pointer (some ⟨bx, 1, none⟩)) ::
    (fun _ _ v => v = .string p.v) ::
    (fun L w v => Till 8 (fun w v => NewCells wc.heap.size 9 #[.string p.k, .string p.v] 2 w v) L w v) ::
    (fun _ _ _ => True) :: [])
    (⟨[(3, none)], 0, [8]⟩ :: ⟨[(17, some 0)], 0, [8]⟩ :: ⟨[(18, some 1)], 0, [8]⟩ :: ⟨[(1, none)], 0, [8]⟩ :: ⟨[(20, some 3)], 0, [8]⟩ :: ⟨[(1, none)], 0, [8]⟩ :: ⟨[(22, some 5)], 0, [8]⟩ :: ⟨[(21, some 4), (23, some 6)], 0, [8]⟩ :: ⟨[(19, some 2), (24, some 7)], 0, []⟩ :: [])
    (none :: none :: none :: none :: none :: none :: none :: none :: none :: none :: none :: none :: none :: none :: none :: none :: none :: some 0 :: some 1 :: some 2 :: some 3 :: some 4 :: some 5 :: some 6 :: some 7 :: some 8 :: [])
    (fun L w' => PutAt wc g g 118 u2 (txtE markB ++ boolE p.gone ++ (txtE p.k ++ txtE p.v)) (L 8) w') (fun i w w' => i ≠ 8 → Below w.heap.size w w') ?mixK4 ?okK4 ?tabK4 ?frK4 ?inK4 ?keptK4 ?startK4 ?eachK4 ?finK4
  case mixK4 => kernel_rfl
  case okK4 => kernel_rfl
  case tabK4 => kernel_rfl
  case frK4 => kernel_rfl
  case inK4 => rfl
  case keptK4 => exact ⟨fun _ _ _ _ _ _ _ _ _ _ _ h => h, fun _ _ _ _ _ _ _ _ _ _ _ h => h, fun _ _ _ _ _ _ _ _ _ _ _ h => h, fun _ _ _ _ _ _ _ _ _ _ _ h => h, fun _ _ _ _ _ _ _ _ _ _ _ h => h, fun _ _ _ _ _ _ _ _ _ _ _ h => h, fun _ _ _ _ _ _ _ _ _ _ _ h => h, fun _ _ _ _ _ _ _ _ _ _ hG h => Till.keep h fun hne h => h.keep (hG hne), fun _ _ _ _ _ _ _ _ _ _ _ h => h, trivial⟩
  case startK4 => exact ⟨fun _ => (Below.refl _ _).drew, fun h => by simp at h⟩
  case eachK4 =>
    refine ⟨?_, ?_, ?_, ?_, ?_, ?_, ?_, ?_, ?_, trivial⟩
    -- 0: slot 17 := move t3
    · intro w L f hC hLi hLd hLn hF
      obtain ⟨d3, _⟩ := hF
      have d3 : f 3 = .pointer (some ⟨g, 0, none⟩) := d3
      refine Step2.live rfl ?_
      exact relUpon_value (v := f 3) rfl (hC) (fun _ => Below.refl _ _) d3
    -- 1: slot 18 := nilCheck t17
    · intro w L f hC hLi hLd hLn hF
      obtain ⟨d17, _⟩ := hF
      have d17 : f 17 = .pointer (some ⟨g, 0, none⟩) := d17
      refine Step2.live rfl ?_
      have ev : ∀ t, evalOf f (.tmp t) = f t := fun _ => rfl
      have ec : ∀ c, evalOf f (.const c) = c := fun _ => rfl
      have ef : ∀ g, evalOf f (.func g) = .func (.func g) #[] #[] := fun _ => rfl
      refine relUpon_value ?_ hC (fun _ => Below.refl _ _) rfl
      go_simp
    -- 2: slot 19 := fieldAddr 118 t18 0
    · intro w L f hC hLi hLd hLn hF
      obtain ⟨d18, _⟩ := hF
      have d18 : f 18 = .pointer (some ⟨g, 0, none⟩) := d18
      refine Step2.live rfl ?_
      have ev : ∀ t, evalOf f (.tmp t) = f t := fun _ => rfl
      have ec : ∀ c, evalOf f (.const c) = c := fun _ => rfl
      have ef : ∀ g, evalOf f (.func g) = .func (.func g) #[] #[] := fun _ => rfl
      refine relUpon_value ?_ hC (fun _ => Below.refl _ _) rfl
      go_simp
    -- 3: slot 20 := fieldAddr 41 t1 0
    · intro w L f hC hLi hLd hLn hF
      obtain ⟨d1, _⟩ := hF
      have d1 : f 1 = .pointer (some ⟨bx, 0, none⟩) := d1
      refine Step2.live rfl ?_
      have ev : ∀ t, evalOf f (.tmp t) = f t := fun _ => rfl
      have ec : ∀ c, evalOf f (.const c) = c := fun _ => rfl
      have ef : ∀ g, evalOf f (.func g) = .func (.func g) #[] #[] := fun _ => rfl
      refine relUpon_value ?_ hC (fun _ => Below.refl _ _) rfl
      go_simp
    -- 4: slot 21 := load 9 t20
    · intro w L f hC hLi hLd hLn hF
      obtain ⟨d20, _⟩ := hF
      have d20 : f 20 = .pointer (some ⟨bx, 0, none⟩) := d20
      refine Step2.live rfl ?_
      have hcell0 := ((hC.m (hLn 8 (by simp))).cell f0.out.1).trans f0.out.2
      have ev : ∀ t, evalOf f (.tmp t) = f t := fun _ => rfl
      have ec : ∀ c, evalOf f (.const c) = c := fun _ => rfl
      have ef : ∀ g, evalOf f (.func g) = .func (.func g) #[] #[] := fun _ => rfl
      refine relUpon_value ?_ hC (fun _ => Below.refl _ _) rfl
      go_simp
    -- 5: slot 22 := fieldAddr 41 t1 1
    · intro w L f hC hLi hLd hLn hF
      obtain ⟨d1, _⟩ := hF
      have d1 : f 1 = .pointer (some ⟨bx, 0, none⟩) := d1
      refine Step2.live rfl ?_
      have ev : ∀ t, evalOf f (.tmp t) = f t := fun _ => rfl
      have ec : ∀ c, evalOf f (.const c) = c := fun _ => rfl
      have ef : ∀ g, evalOf f (.func g) = .func (.func g) #[] #[] := fun _ => rfl
      refine relUpon_value ?_ hC (fun _ => Below.refl _ _) rfl
      go_simp
    -- 6: slot 23 := load 9 t22
    · intro w L f hC hLi hLd hLn hF
      obtain ⟨d22, _⟩ := hF
      have d22 : f 22 = .pointer (some ⟨bx, 1, none⟩) := d22
      refine Step2.live rfl ?_
      have hcell0 := ((hC.m (hLn 8 (by simp))).cell f1.out.1).trans f1.out.2
      have ev : ∀ t, evalOf f (.tmp t) = f t := fun _ => rfl
      have ec : ∀ c, evalOf f (.const c) = c := fun _ => rfl
      have ef : ∀ g, evalOf f (.func g) = .func (.func g) #[] #[] := fun _ => rfl
      refine relUpon_value ?_ hC (fun _ => Below.refl _ _) rfl
      go_simp
    -- 7: slot 24 := buildSlice 43 2 #[(0, t21), (1, t23)]
    · intro w L f hC hLi hLd hLn hF
      obtain ⟨d21, d23, _⟩ := hF
      have d21 : f 21 = .string p.k := d21
      have d23 : f 23 = .string p.v := d23
      refine Step2.live rfl ?_
      have ev : ∀ t, evalOf f (.tmp t) = f t := fun _ => rfl
      have ec : ∀ c, evalOf f (.const c) = c := fun _ => rfl
      have ef : ∀ g, evalOf f (.func g) = .func (.func g) #[] #[] := fun _ => rfl
      refine relUpon_value (w' := w.alloc (.cells #[.string p.k, .string p.v] 9)) (v := .slice (some ⟨w.heap.size, 0, none⟩) 2 2) (by go_simp) (hC.alloc (hLn 8 (by simp)) _) (fun _ => below_new _ _) (fun _ => ⟨_, rfl, (hC.m (hLn 8 (by simp))).size, Holds.new _ _ _⟩)
    -- 8: slot 25 := call { value (Operand.func 52), args := #[t19, t24], argTypes := #[116, 43] }
    · intro w L f hC hLi hLd hLn hF
      obtain ⟨d19, d24, _⟩ := hF
      have d19 : f 19 = .pointer (some ⟨g, 0, none⟩) := d19
      refine Step2.live rfl ?_
      obtain ⟨kn, e0, hkn, hrow⟩ := d24 hLi
      have ev : ∀ t, evalOf f (.tmp t) = f t := fun _ => rfl
      have ec : ∀ c, evalOf f (.const c) = c := fun _ => rfl
      have ef : ∀ g, evalOf f (.func g) = .func (.func g) #[] #[] := fun _ => rfl
      refine relUpon_call (f := 52) (args := #[.pointer (some ⟨g, 0, none⟩), .slice (some ⟨kn, 0, none⟩) 2 2]) (w := w) (by go_simp) (text_puts (l2 := txtE markB ++ boolE p.gone ++ (txtE p.k ++ txtE p.v)) (hC.m hLi) hu2.out hBc.out [p.k, p.v] 2 2000000 hrow hkn rfl rfl (by simp; exact hp.out) (by omega) (by have := hlen.out.2; simp [boolE]; omega) (by simp)) ?_
      intro e w1 hw1
      exact ⟨_, hw1.1, ⟨fun e => by simp at e, fun _ => by have := hw1.1; subst this; exact hw1⟩, fun h => absurd rfl h, trivial⟩
  intro x w' hC hV

  have hd := hC.d rfl
  clear hV hC
  simp only [framed]
  have hbw := Wrote.below hu2.out hBc.out hd
  obtain ⟨-, u3, hu3, hM, hF⟩ := hd
  clear hM hF f0 f1
  have hb6 := Lib.hid (hb5.out.trans (hbw.mono hgw.out))
  clear hb5 hBc hu2 hbw
  have hpl := packE_len p hp.out
  have hpe : Hid (txtE markB ++ boolE p.gone ++ (txtE p.k ++ txtE p.v) = packE p) := Lib.hid rfl
  rw [hpe.out] at hu3
  clear hpe hlen
  have hu3 := Lib.hid hu3
  go_wp2_with fail
  refine (bytes_own w' g g _ u3 (packE p) hu3.out (by omega)).mono ?_
  rintro e w5 ⟨⟨u, rfl, hu⟩, hB⟩
  obtain ⟨y, rfl, hy, hyo⟩ := NewB.pay hu
  have hfin : Hid (y.l = packE p ∧ w5.ownsRow w.heap.size 5 1 y.val y.l.length (y.l.map byteV) ∧ Below w.heap.size w w5) := Lib.hid ⟨hy, own_base hyo hb6.out.size, hb6.out.trans (hB.mono hb6.out.size)⟩
  clear hu hB hu3 hy hyo
  unfold Pay.val
  go_wp2_with fail
  go_ret
  exact ⟨y, rfl, hfin.out⟩
end Go.Proofs.YtelglbblgkhcmaaGreat
namespace Go.Proofs.YtelglbblgkhcmaaGreat
open Go.RowKit Go.Maps Go.ChangeMaps Go.MapKept Go.WideMaps

theorem Tryz.strKeyed : Keyed Tryz.prog 9 := string_keyed Tryz.underlying9
def keyS (s : ByteArray) : Lit := .string s.data.toList
theorem keyS_inj {a b : ByteArray} (h : keyS a = keyS b) : a = b := by
  unfold keyS at h
  injection h with h
  have : a.data = b.data := Array.toList_inj.1 h
  cases a; cases b
  simp at this
  rw [this]
/-- D holds just what f says. -/
def SaysS (D : DataW Value) (f : ByteArray → Option Value) : Prop := ∀ k, (match f k with
  | none => Maps.has D (keyS k) = false
  | some v => Maps.has D (keyS k) = true ∧ ∀ z, D.atKey (keyS k) z = .held v)
/-- Block m is a map that holds what f says, at most N entries. -/
def SMap (w : World) (m N : Nat) (f : ByteArray → Option Value) : Prop := ∃ n D, n ≤ N ∧ w.ownsMap Tryz.prog 9 heldR m n D ∧ SaysS D f
section
variable {w w' : World} {m N : Nat} {f : ByteArray → Option Value}
theorem SMap.loc (h : SMap w m N f) (hb : w'.heap[m]? = w.heap[m]?) : SMap w' m N f := by
  obtain ⟨n, D, hn, ⟨es, clock, h1, h2⟩, hs⟩ := h
  exact ⟨n, D, hn, ⟨es, clock, hb.trans h1, h2⟩, hs⟩
theorem SMap.lt (h : SMap w m N f) : m < w.heap.size := by
  obtain ⟨n, D, hn, h1, _⟩ := h
  exact h1.lt
theorem SMap.more {N' : Nat} (h : SMap w m N f) (hN : N ≤ N') : SMap w m N' f := by
  obtain ⟨n, D, hn, h1, h2⟩ := h
  exact ⟨n, D, by omega, h1, h2⟩
theorem SMap.made (w : World) : SMap (w.alloc (.map #[] 0)) w.heap.size 0 (fun _ => none) := ⟨0, .map [], by omega, World.ownsMap_made w _ _ _, fun _ => rfl⟩
theorem SaysS.put {D : DataW Value} (h : SaysS D f) (hD : IsMap D) (k : ByteArray) (v : Value) : SaysS (D.put (keyS k) (.held v)) (fun j => if j = k then some v else f j) := fun j => by
  by_cases e : j = k
  · subst e
    simp only [if_true]
    exact ⟨has_put_same hD (by trivial) _, fun z => atKey_put_same hD (by trivial) _ _⟩
  · simp only [if_neg e]
    have hne : keyS j ≠ keyS k := fun h => e (keyS_inj h)
    have := h j
    cases hf : f j with
    | none => rw [hf] at this; simp only at this ⊢; rw [has_put_other hne]; exact this
    | some u => rw [hf] at this; simp only at this ⊢; rw [has_put_other hne]; exact ⟨this.1, fun z => by rw [atKey_put_other hne]; exact this.2 z⟩
/-- 'm[k] = v'. -/
theorem SMap.store (h : SMap w m N f) {t e : TypeId} (ht : Tryz.prog.underlying t = some (.map 9 e)) {k : ByteArray} (hk : k.size ≤ maxLen) (hN : N ≤ 1000000) (v : Value) :
    ∃ w', (Instr.mapUpdate t (.map (some m)) (.string k) v).run Tryz.prog w = .ok () w' ∧ SMap w' m (N + 1) (fun j => if j = k then some v else f j) ∧ w.grownBy w' (some m) ∧ w'.heap.size = w.heap.size := by
  obtain ⟨n, D, hn, ho, hs⟩ := h
  obtain ⟨w', hrun, ho', ht'⟩ := ho.store (t := t) Tryz.strKeyed ht (by unfold maxLen; omega) (keyOf_string_mk Tryz.underlying9 hk) (val := v) (d := .held v) (ps := []) rfl
  refine ⟨w', hrun, ⟨_, _, by omega, ho', hs.put ho.isMap k v⟩, ht'.grown, ?_⟩
  obtain ⟨_, _, _, _, _, rfl⟩ := ht'
  simp [setBlock]
set_option maxRecDepth 100000 in
/-- 'v, ok := m[k]', 'm[k]'. -/
theorem SMap.look (h : SMap w m N f) {t e : TypeId} (ht : Tryz.prog.underlying t = some (.map 9 e)) {z : Value} (hz : (zeroValue e).run Tryz.prog w = .ok z w) {k : ByteArray} (hk : k.size ≤ maxLen) :
    (Instr.lookup t (.map (some m)) (.string k) true).run Tryz.prog w = .ok (.tuple #[(f k).getD z, .bool (f k).isSome]) w ∧
    (Instr.lookup t (.map (some m)) (.string k) false).run Tryz.prog w = .ok ((f k).getD z) w := by
  obtain ⟨n, D, hn, ho, hs⟩ := h
  have hkey := keyOf_string_mk (P := Tryz.prog) Tryz.underlying9 hk
  have h1 := ho.look_ok (t := t) Tryz.strKeyed ht hz (zd := .held z) (zp := []) rfl hkey
  have h2 := ho.lookup (t := t) Tryz.strKeyed ht hz (zd := .held z) (zp := []) rfl hkey
  obtain ⟨v, ps, r1, e1⟩ := h1
  obtain ⟨v', ps', r2, e2⟩ := h2
  have := hs k
  simp only [heldR, Option.some.injEq, Prod.mk.injEq] at e1 e2
  cases hf : f k with
  | none =>
    rw [hf] at this
    simp only [keyS] at this
    rw [atKey_of_not_has this] at e1 e2
    obtain ⟨e1, _⟩ := e1
    obtain ⟨e2, _⟩ := e2
    injection e1 with e1
    injection e2 with e2
    simp only [Option.getD_none, Option.isSome_none]
    exact ⟨by rw [r1, this, e1], by rw [r2, e2]⟩
  | some u =>
    rw [hf] at this
    simp only [keyS] at this
    rw [this.2] at e1 e2
    obtain ⟨e1, _⟩ := e1
    obtain ⟨e2, _⟩ := e2
    injection e1 with e1
    injection e2 with e2
    simp only [Option.getD_some, Option.isSome_some]
    exact ⟨by rw [r1, this.1, e1], by rw [r2, e2]⟩
theorem SaysS.del {D : DataW Value} (h : SaysS D f) (k : ByteArray) : SaysS (D.del (keyS k)) (fun j => if j = k then none else f j) := fun j => by
  by_cases e : j = k
  · subst e
    simp only [if_true]
    exact has_del_same
  · simp only [if_neg e]
    have hne : keyS j ≠ keyS k := fun h => e (keyS_inj h)
    have := h j
    cases hf : f j with
    | none => rw [hf] at this; simp only at this ⊢; rw [has_del_other hne]; exact this
    | some u => rw [hf] at this; simp only at this ⊢; rw [has_del_other hne]; exact ⟨this.1, fun z => by rw [atKey_del_other hne]; exact this.2 z⟩
/-- 'delete(m, k)'. -/
theorem SMap.drop (h : SMap w m N f) {t e : TypeId} (ht : Tryz.prog.underlying t = some (.map 9 e)) {k : ByteArray} (hk : k.size ≤ maxLen) :
    ∃ w', (∀ ty, (Builtin.delete_ #[t, 9] ty #[.map (some m), .string k]).run Tryz.prog w = .ok (.tuple #[]) w') ∧ SMap w' m N (fun j => if j = k then none else f j) ∧ w.grownBy w' (some m) ∧ w'.heap.size = w.heap.size := by
  obtain ⟨n, D, hn, ho, hs⟩ := h
  have hkey := keyOf_string_mk (P := Tryz.prog) Tryz.underlying9 hk
  obtain ⟨w', hrun, ho', ht'⟩ := ho.drop (t := t) Tryz.strKeyed ht hkey 0
  have hall : ∀ ty, (Builtin.delete_ #[t, 9] ty #[.map (some m), .string k]).run Tryz.prog w = .ok (.tuple #[]) w' := fun ty => hrun
  refine ⟨w', hall, ⟨_, _, hn, ho', hs.del k⟩, ht'.grown, ?_⟩
  obtain ⟨_, _, _, _, _, rfl⟩ := ht'
  simp [setBlock]
end
end Go.Proofs.YtelglbblgkhcmaaGreat
namespace Go.Proofs.YtelglbblgkhcmaaGreat
open Go.RowKit Go.Deep

theorem flatMap_at {α : Type} {f : α → List Value} {C : Nat} : ∀ (l : List α) (_ : ∀ x ∈ l, (f x).length = C) {k : Nat} (hk : k < l.length) {r : Nat} {v : Value}, (f l[k])[r]? = some v → (l.flatMap f)[k * C + r]? = some v
  | [], _, k, hk, _, _, _ => absurd hk (by simp)
  | a :: l, hl, k, hk, r, v, h => by
    have hc := hl a (List.mem_cons_self ..)
    rw [List.flatMap_cons]
    cases k with
    | zero =>
      have hr : r < (f a).length := (List.getElem?_eq_some_iff.1 h).1
      rw [Nat.zero_mul, Nat.zero_add, List.getElem?_append_left hr]
      exact h
    | succ k =>
      rw [List.getElem?_append_right (by rw [Nat.add_mul]; omega), hc]
      have := flatMap_at l (fun x hx => hl x (List.mem_cons_of_mem _ hx)) (k := k) (by simpa using hk) (r := r) (v := v) (by simpa using h)
      rw [← this]
      congr 1
      rw [Nat.add_mul]
      omega
/-- The cells of the k-th element. -/
theorem Row.elem {α : Type} {f : α → List Value} {C : Nat} {w : World} {B : Nat} {A : Option Addr} {l : List α} (h : Row w B A (l.flatMap f)) (hC : ∀ x ∈ l, (f x).length = C) (hC0 : 0 < C) {k : Nat} (hk : k < l.length) :
    ∃ b off, A = some ⟨b, off, none⟩ ∧ b < B ∧ l.flatMap f ≠ [] ∧ ∀ r v, (f l[k])[r]? = some v → w.cell? ⟨b, off + k * C + r, none⟩ = some v := by
  have hne : l.flatMap f ≠ [] := fun e => by
    have h0 : (f l[k])[0]? = some ((f l[k])[0]'(by rw [hC _ (List.getElem_mem hk)]; exact hC0)) := List.getElem?_eq_getElem _
    have := flatMap_at l hC hk h0
    rw [e] at this
    cases this
  obtain ⟨b, off, e, hb, hc⟩ := h hne
  exact ⟨b, off, e, hb, hne, fun r v hv => by rw [Nat.add_assoc]; exact hc _ v (flatMap_at l hC hk hv)⟩
def PairR.cells (p : PairR) : List Value := [.string p.k, .string p.v, .bool p.gone]
/-- What a change leaves. -/
def chg (F : ByteArray → Option ByteArray) (p : PairR) : ByteArray → Option ByteArray := fun j => if j = p.k then (if p.gone = true then none else some p.v) else F j
def entV (v : ByteArray) : Value := .agg #[.string v]
/-- Block m is the map of a store. -/
def SMapE (w : World) (m N : Nat) (F : ByteArray → Option ByteArray) : Prop := SMap w m N (fun k => (F k).map entV)
theorem Tryz.strZero : ∀ w, (zeroValue 82).run Tryz.prog w = .ok (.agg #[.string ⟨#[]⟩]) w := fun w => by kernel_rfl
/-- No cell of a map's block. -/
theorem SMap.nocell {w : World} {m N : Nat} {f : ByteArray → Option Value} (h : SMap w m N f) (o : Nat) : w.cell? ⟨m, o, none⟩ = none := by
  obtain ⟨n, D, _, ⟨es, clock, hb, _⟩, _⟩ := h
  unfold World.cell?
  simp [hb]
theorem SMap.noblk {w : World} {m N : Nat} {f : ByteArray → Option Value} (h : SMap w m N f) {b o : Nat} {v : Value} (hc : w.cell? ⟨b, o, none⟩ = some v) : b ≠ m := by
  rintro rfl
  rw [h.nocell] at hc
  cases hc
theorem SMapE.put {w : World} {m N : Nat} {F : ByteArray → Option ByteArray} (h : SMapE w m N F) (p : PairR) (hp : p.ok) (hN : N ≤ 1000000) (hg : p.gone = false) :
    ∃ w', (Instr.mapUpdate 56 (.map (some m)) (.string p.k) (.agg #[.string p.v])).run Tryz.prog w = .ok () w' ∧ SMapE w' m (N + 1) (chg F p) ∧ Writes [some m] w w' := by
  obtain ⟨w', h1, h2, h3, h4⟩ := SMap.store h Tryz.underlying56 (k := p.k) (by have := hp.1; unfold maxLen; omega) hN (entV p.v)
  refine ⟨w', h1, ?_, Writes.of_grown h3 (by simp)⟩
  have e : (fun j => if j = p.k then some (entV p.v) else (F j).map entV) = fun j => (chg F p j).map entV := by
    funext j
    unfold chg
    by_cases e : j = p.k
    · rw [if_pos e, if_pos e, hg]; rfl
    · rw [if_neg e, if_neg e]
  rw [e] at h2
  exact h2
theorem SMapE.del {w : World} {m N : Nat} {F : ByteArray → Option ByteArray} (h : SMapE w m N F) (p : PairR) (hp : p.ok) (hg : p.gone = true) :
    ∃ w', (∀ ty, (Builtin.delete_ #[56, 9] ty #[.map (some m), .string p.k]).run Tryz.prog w = .ok (.tuple #[]) w') ∧ SMapE w' m (N + 1) (chg F p) ∧ Writes [some m] w w' := by
  obtain ⟨w', h1, h2, h3, h4⟩ := SMap.drop h Tryz.underlying56 (k := p.k) (by have := hp.1; unfold maxLen; omega)
  refine ⟨w', h1, ?_, Writes.of_grown h3 (by simp)⟩
  have e : (fun j => if j = p.k then none else (F j).map entV) = fun j => (chg F p j).map entV := by
    funext j
    unfold chg
    by_cases e : j = p.k
    · rw [if_pos e, if_pos e, hg]; rfl
    · rw [if_neg e, if_neg e]
  rw [e] at h2
  exact h2.more (by omega)
theorem SMapE.look {w : World} {m N : Nat} {F : ByteArray → Option ByteArray} (h : SMapE w m N F) {k : ByteArray} (hk : k.size ≤ 100000000) :
    (Instr.lookup 56 (.map (some m)) (.string k) true).run Tryz.prog w = .ok (.tuple #[.agg #[.string ((F k).getD ⟨#[]⟩)], .bool (F k).isSome]) w ∧
    (Instr.lookup 56 (.map (some m)) (.string k) false).run Tryz.prog w = .ok (.agg #[.string ((F k).getD ⟨#[]⟩)]) w := by
  obtain ⟨h1, h2⟩ := SMap.look h Tryz.underlying56 (Tryz.strZero w) (k := k) (by unfold maxLen; omega)
  have e1 : ((F k).map entV).getD (.agg #[.string ⟨#[]⟩]) = .agg #[.string ((F k).getD ⟨#[]⟩)] := by cases F k <;> rfl
  have e2 : ((F k).map entV).isSome = (F k).isSome := by cases F k <;> rfl
  simp only [e1, e2] at h1 h2
  exact ⟨h1, h2⟩
set_option maxRecDepth 100000 in
set_option maxHeartbeats 4000000 in
theorem change_any (w : World) (m N : Nat) (F : ByteArray → Option ByteArray) (hm : SMapE w m N F) (A : Option Addr) (n c : Nat) (ps : List PairR) (hn : ps.length = n) (hr : Row w w.heap.size A (ps.flatMap PairR.cells)) (hok : ∀ p ∈ ps, p.ok) (hN : N + n ≤ 100000) :
    Calls Tryz.prog 29 #[.map (some m), .slice A n c] w fun e w' => e = .returned (.tuple #[]) ∧ SMapE w' m (N + n) (ps.foldl chg F) ∧ Writes [some m] w w' := by
  have hr := Lib.hid hr
  have hok := Lib.hid hok
  have hm0 := Lib.hid hm
  have hn' := Lib.hid hn
  clear hm hn
  go_enter Tryz.func29, Tryz.ntmps29
  go_wp2_with fail
  obtain ⟨wb, hwb⟩ : ∃ x, x = w := ⟨_, rfl⟩
  have hM0 : Hid (Writes [some m] w wb) := Lib.hid (by rw [hwb]; exact Writes.refl _ _)
  have hm1 : Hid (SMapE wb m (N + 0) ((ps.take 0).foldl chg F)) := Lib.hid (by rw [hwb]; exact hm0.out)
  rw [← hwb]
  clear hwb
  go_loopw [8] (fun i wl => ∃ k : Nat, k ≤ n ∧ i = .int .i64 k ∧ Hid (SMapE wl m (N + k) ((ps.take k).foldl chg F)) ∧ Hid (Writes [some m] w wl)) (fun i _ => n - (intOf i).toNat)
  case atStart => exact ⟨0, by omega, rfl, hm1, hM0⟩
  clear hm1 hM0
  obtain ⟨k, hk, rfl, hm, hM⟩ := hrel
  by_cases hlt : k < n
  · have hlt2 : k < ps.length := by rw [hn'.out]; exact hlt
    obtain ⟨b, off, rfl, hbl, hne, hcell⟩ := Row.elem (C := 3) hr.out (fun _ _ => rfl) (by omega) (k := k) hlt2
    have hbm : b ≠ m := SMap.noblk hm0.out (hcell 0 _ rfl)
    have hkeep : ∀ o, wr.cell? ⟨b, o, none⟩ = w.cell? ⟨b, o, none⟩ := fun o => World.cell?_of_block (hM.out.block b hbl (by simp; exact hbm))
    have q0 : wr.cell? ⟨b, off + k * 3, none⟩ = some (.string ps[k].k) := (hkeep _).trans (hcell 0 _ rfl)
    have q1 : wr.cell? ⟨b, off + k * 3 + 1, none⟩ = some (.string ps[k].v) := (hkeep _).trans (hcell 1 _ rfl)
    have q2 : wr.cell? ⟨b, off + k * 3 + 2, none⟩ = some (.bool ps[k].gone) := (hkeep _).trans (hcell 2 _ rfl)
    have hpo := Lib.hid (hok.out ps[k] (List.getElem_mem hlt2))
    have hft : Hid ((ps.take (k + 1)).foldl chg F = chg ((ps.take k).foldl chg F) ps[k]) := Lib.hid (by rw [List.take_add_one, List.getElem?_eq_getElem hlt2, Option.toList_some, List.foldl_append]; rfl)
    clear hcell hne hkeep hbl hbm
    generalize ps[k] = p at *
    obtain ⟨pk, pv, pg⟩ := p
    simp only at q0 q1 q2
    have hlit : Hid (wr.heap.size < (wr.alloc (.cells #[.string pk, .string pv, .bool pg] 41)).heap.size) := Lib.hid (by simp)
    have hmx : SMapE (wr.alloc (.cells #[.string pk, .string pv, .bool pg] 41)) m (N + k) ((ps.take k).foldl chg F) := hm.out.loc (by
      have := hm.out.lt
      exact (below_new wr _).block m this)
    have hMx : Hid (Writes [some m] w (wr.alloc (.cells #[.string pk, .string pv, .bool pg] 41))) := Lib.hid (hM.out.trans (Writes.of_below (below_new _ _) _))
    clear hm hM
    cases pg
    · obtain ⟨w2, hrun, hm2, hM2⟩ := hmx.put ⟨pk, pv, false⟩ hpo.out (by omega) rfl
      simp only at hrun
      have hfin : Hid (SMapE w2 m (N + (k + 1)) ((ps.take (k + 1)).foldl chg F) ∧ Writes [some m] w w2) := Lib.hid ⟨by rw [hft.out]; exact hm2, hMx.out.trans hM2⟩
      clear hmx hm2 hM2 hMx hft
      go_wp2_with fail
      exact ⟨⟨k + 1, by omega, by simp, Lib.hid hfin.out.1, Lib.hid hfin.out.2⟩, by simp [intOf]; omega⟩
    · obtain ⟨w2, hrun, hm2, hM2⟩ := hmx.del ⟨pk, pv, true⟩ hpo.out rfl
      simp only at hrun
      have hfin : Hid (SMapE w2 m (N + (k + 1)) ((ps.take (k + 1)).foldl chg F) ∧ Writes [some m] w w2) := Lib.hid ⟨by rw [hft.out]; exact hm2, hMx.out.trans hM2⟩
      clear hmx hm2 hM2 hMx hft
      go_wp2_with fail
      exact ⟨⟨k + 1, by omega, by simp, Lib.hid hfin.out.1, Lib.hid hfin.out.2⟩, by simp [intOf]; omega⟩
  · obtain rfl : k = n := by omega
    have hfin : Hid (SMapE wr m (N + k) (ps.foldl chg F) ∧ Writes [some m] w wr) := Lib.hid ⟨by have := hm.out; rw [List.take_of_length_le (by rw [hn'.out]; omega)] at this; exact this, hM.out⟩
    clear hm hM
    go_wp2_with fail
    go_end0
    exact ⟨rfl, hfin.out⟩
end Go.Proofs.YtelglbblgkhcmaaGreat
namespace Go.Proofs.YtelglbblgkhcmaaGreat
open Go.RowKit Go.Deep

theorem Rdr.writes {w w' : World} {g : Nat} {st : Option (List UInt8)} {M : List (Option Nat)} (h : Rdr w g st) (hM : Writes M w w') (hg : ∀ k, k ≤ g → some k ∉ M) : Rdr w' g st := by
  obtain ⟨A, n, c, hh, hn, hl⟩ := h
  refine ⟨A, n, c, hM.holds hh (hg g (Nat.le_refl _)), hn, fun l hs => ?_⟩
  obtain ⟨h1, h2, h3, h4⟩ := hl l hs
  refine ⟨h1, h2, fun hne => ?_, h4⟩
  obtain ⟨b, off, e, hlt, hc⟩ := h3 hne
  have hbg : b < g := h4 _ e
  exact ⟨b, off, e, Nat.lt_of_lt_of_le hlt hM.size, fun j u hu => (World.cell?_of_block (hM.block b hlt (hg b (by omega)))).trans (hc j u hu)⟩
theorem Rdr.done {w w' : World} {g : Nat} {M : List (Option Nat)} (h : Rdr w g (some [])) (hM : Writes M w w') (hg : some g ∉ M) : Rdr w' g (some []) := by
  obtain ⟨A, n, c, hh, hn, hl⟩ := h
  refine ⟨A, n, c, hM.holds hh hg, hn, fun l hs => ?_⟩
  obtain ⟨h1, h2, h3, h4⟩ := hl l hs
  injection hs with hs
  subst hs
  exact ⟨h1, h2, fun hne => absurd rfl hne, h4⟩
theorem strV_bytes (s : ByteArray) : strV s.data.toList = s := rfl
theorem textE_txt (s : ByteArray) : txtE s = textE s.data.toList := rfl
theorem packE_eq (p : PairR) : packE p = textE markB.data.toList ++ (boolE p.gone ++ (textE p.k.data.toList ++ textE p.v.data.toList)) := by
  unfold packE
  rw [textE_txt, textE_txt, textE_txt]
  simp only [List.append_assoc]
theorem Took.bool {w w' : World} {g : Nat} {b : Bool} {l : List UInt8} {e : Ending} (h : Took w g (fun b : Bool => .bool b) boolR false (some (boolE b ++ l)) e w') :
    e = .returned (.bool b) ∧ Rdr w' g (some l) ∧ Writes [some g] w w' := by
  obtain ⟨rfl, hR, hM⟩ := h
  have hb := boolR_back b l
  refine ⟨?_, ?_, hM⟩
  · simp [valOf, hb]
  · simpa [nextOf, hb] using hR
theorem Took.textB {w w' : World} {g : Nat} {s : ByteArray} {l : List UInt8} {e : Ending} (h : Took w g (fun s : List UInt8 => .string (strV s)) textR [] (some (textE s.data.toList ++ l)) e w') (h1 : s.size ≤ 4000000) :
    e = .returned (.string s) ∧ Rdr w' g (some l) ∧ Writes [some g] w w' := Took.text h (Nat.lt_of_le_of_lt (show s.data.toList.length ≤ 4000000 from h1) (by decide))
theorem Took.textE' {w w' : World} {g : Nat} {s : ByteArray} {e : Ending} (h : Took w g (fun s : List UInt8 => .string (strV s)) textR [] (some (textE s.data.toList)) e w') (h1 : s.size ≤ 4000000) :
    e = .returned (.string s) ∧ Rdr w' g (some []) ∧ Writes [some g] w w' := Took.textB (by rw [List.append_nil]; exact h) h1
set_option maxRecDepth 100000 in
set_option maxHeartbeats 4000000 in
theorem unpack_any (w : World) (p : PairR) (hp : p.ok) (A : Option Addr) (n c : Nat) (hn : (packE p).length = n) (hb : Bytes w w.heap.size A (packE p)) :
    Calls Tryz.prog 28 #[.slice A n c] w fun e w' => e = .returned (.tuple #[p.val, .bool true]) ∧ Below w.heap.size w w' := by
  have hpl := packE_len p hp
  subst hn
  obtain ⟨wa, hwa⟩ : ∃ x, x = w.alloc (.cells #[.string ⟨#[]⟩, .string ⟨#[]⟩, .bool false] 41) := ⟨_, rfl⟩
  have hz0 := Holds.new w 41 #[.string ⟨#[]⟩, .string ⟨#[]⟩, .bool false]
  have hb0 := below_new w (.cells #[.string ⟨#[]⟩, .string ⟨#[]⟩, .bool false] 41)
  unfold PairR.val
  go_enter Tryz.func28, Tryz.ntmps28
  go_wp2_with fail
  rw [← hwa] at hz0 hb0 ⊢
  clear hwa
  obtain ⟨r, hr⟩ : ∃ x, x = w.heap.size := ⟨_, rfl⟩
  have hr' := Lib.hid hr
  rw [← hr] at hz0
  rw [← hr]
  have hz0 := Lib.hid hz0
  clear hr
  refine (newReader_any wa A c (packE p) (Row.below hb hb0 |>.more hb0.size) (by omega)).mono ?_
  have hb0 := Lib.hid hb0
  rintro e w2 ⟨g, rfl, hg, hR, hB⟩
  have hrg : r < g := by have := hz0.out.lt; omega
  have hz2 := Lib.hid (hz0.out.below hB hz0.out.lt)
  have hB2 := Lib.hid (hb0.out.trans (hB.mono hb0.out.size))
  have hR := Lib.hid hR
  have hrg := Lib.hid hrg
  clear hg hB hb0 hz0 hb
  go_wp2_with fail
  refine (rText_any w2 g _ hR.out).mono ?_
  intro e w3 hT
  rw [packE_eq] at hT
  obtain ⟨rfl, hR3, hM3⟩ := Took.textB hT (by decide)
  have hz3 := Lib.hid (hM3.holds hz2.out (by have := hrg.out; simp; omega))
  have hM3' := hM3.below (B := w.heap.size) hB2.out.size (by have := hrg.out; have := hr'.out; simp; omega)
  have hB3 := Lib.hid (hB2.out.trans hM3')
  have hgl3 := Lib.hid (show g < w3.heap.size from hR3.choose_spec.choose_spec.choose_spec.1.lt)
  have hR3 := Lib.hid hR3
  clear hT hM3 hM3' hR hz2 hB2
  -- the pair, and whether it goes
  have hpp := Holds.new w3 41 #[.string ⟨#[]⟩, .string ⟨#[]⟩, .bool false]
  have hb4 := below_new w3 (.cells #[.string ⟨#[]⟩, .string ⟨#[]⟩, .bool false] 41)
  obtain ⟨w4, hw4⟩ : ∃ x, x = w3.alloc (.cells #[.string ⟨#[]⟩, .string ⟨#[]⟩, .bool false] 41) := ⟨_, rfl⟩
  obtain ⟨gp, hgp⟩ : ∃ x, x = w3.heap.size := ⟨_, rfl⟩
  go_wp2_with fail
  rw [← hw4, ← hgp]
  rw [← hgp] at hpp
  rw [← hw4] at hpp hb4
  have hgg : Hid (g < gp) := Lib.hid (by have := hgl3.out; omega)
  have hrp : Hid (r ≠ gp) := Lib.hid (by have := hgg.out; have := hrg.out; omega)
  have hwg : Hid (w.heap.size ≤ gp) := Lib.hid (by have := hB3.out.size; omega)
  have hz4 := Lib.hid (hz3.out.below hb4 (by have := hrg.out; have := hgg.out; omega))
  have hB4 := Lib.hid (hB3.out.trans (hb4.mono hB3.out.size))
  have hR4 := Lib.hid (hR3.out.below hb4)
  have hpp := Lib.hid hpp
  clear hw4 hgp hb4 hz3 hB3 hR3 hgl3
  refine (rBool_any w4 g _ hR4.out).mono ?_
  intro e w5 hT
  obtain ⟨rfl, hR5, hM5⟩ := Took.bool hT
  have hz5 := hM5.holds hz4.out (by have := hrg.out; simp; omega)
  have hp5 := hM5.holds hpp.out (by have := hgg.out; simp; omega)
  have hB5 := hB4.out.trans (hM5.below (B := w.heap.size) hB4.out.size (by have := hrg.out; have := hr'.out; simp; omega))
  have zp := hp5.frozen 2
  have cp := hp5.cell 2
  obtain ⟨w6, hw6⟩ : ∃ x, x = w5.setCell ⟨gp, 2, none⟩ (.bool p.gone) := ⟨_, rfl⟩
  have hM6 : Writes [some gp] w5 w6 := by rw [hw6]; exact Writes.store w5 (p := ⟨gp, 2, none⟩) (by simp) _
  have hp6 := Lib.hid (show Holds w6 gp 41 #[.string ⟨#[]⟩, .string ⟨#[]⟩, .bool p.gone] by rw [hw6]; exact hp5.store 2 _)
  have hz6 := Lib.hid (hM6.holds hz5 (by have := hrp.out; simp; omega))
  have hB6 := Lib.hid (hB5.trans (hM6.below (B := w.heap.size) hB5.size (by have := hwg.out; simp; omega)))
  have hR6 := Lib.hid (hR5.writes hM6 (by have := hgg.out; simp; omega))
  clear hT hM5 hz5 hp5 hB5 hM6 hR5 hz4 hpp hB4 hR4
  go_wp2_with fail
  rw [← hw6]
  clear hw6 zp cp
  -- its key
  refine (rText_any w6 g _ hR6.out).mono ?_
  intro e w7 hT
  obtain ⟨rfl, hR7, hM7⟩ := Took.textB hT (by have := hp.1; omega)
  have hz7 := hM7.holds hz6.out (by have := hrg.out; simp; omega)
  have hp7 := hM7.holds hp6.out (by have := hgg.out; simp; omega)
  have hB7 := hB6.out.trans (hM7.below (B := w.heap.size) hB6.out.size (by have := hrg.out; have := hr'.out; simp; omega))
  have zp := hp7.frozen 0
  have cp := hp7.cell 0
  obtain ⟨w8, hw8⟩ : ∃ x, x = w7.setCell ⟨gp, 0, none⟩ (.string p.k) := ⟨_, rfl⟩
  have hM8 : Writes [some gp] w7 w8 := by rw [hw8]; exact Writes.store w7 (p := ⟨gp, 0, none⟩) (by simp) _
  have hp8 := Lib.hid (show Holds w8 gp 41 #[.string p.k, .string ⟨#[]⟩, .bool p.gone] by rw [hw8]; exact hp7.store 0 _)
  have hz8 := Lib.hid (hM8.holds hz7 (by have := hrp.out; simp; omega))
  have hB8 := Lib.hid (hB7.trans (hM8.below (B := w.heap.size) hB7.size (by have := hwg.out; simp; omega)))
  have hR8 := Lib.hid (hR7.writes hM8 (by have := hgg.out; simp; omega))
  clear hT hM7 hz7 hp7 hB7 hM8 hR7 hz6 hp6 hB6 hR6
  go_wp2_with fail
  rw [← hw8]
  clear hw8 zp cp
  -- its value
  refine (rText_any w8 g _ hR8.out).mono ?_
  intro e w9 hT
  obtain ⟨rfl, hR9, hM9⟩ := Took.textE' hT (by have := hp.2; omega)
  have hz9 := hM9.holds hz8.out (by have := hrg.out; simp; omega)
  have hp9 := hM9.holds hp8.out (by have := hgg.out; simp; omega)
  have hB9 := hB8.out.trans (hM9.below (B := w.heap.size) hB8.out.size (by have := hrg.out; have := hr'.out; simp; omega))
  have zp := hp9.frozen 1
  have cp := hp9.cell 1
  obtain ⟨wq, hwq⟩ : ∃ x, x = w9.setCell ⟨gp, 1, none⟩ (.string p.v) := ⟨_, rfl⟩
  have hM10 : Writes [some gp] w9 wq := by rw [hwq]; exact Writes.store w9 (p := ⟨gp, 1, none⟩) (by simp) _
  have hpp := Lib.hid (show Holds wq gp 41 #[.string p.k, .string p.v, .bool p.gone] by rw [hwq]; exact hp9.store 1 _)
  have hz := Lib.hid (hM10.holds hz9 (by have := hrp.out; simp; omega))
  have hB := Lib.hid (hB9.trans (hM10.below (B := w.heap.size) hB9.size (by have := hwg.out; simp; omega)))
  have hR5 := Lib.hid (hR9.writes hM10 (by have := hgg.out; simp; omega))
  clear hT hM9 hz9 hp9 hB9 hM10 hR9 hz8 hp8 hB8 hR8
  go_wp2_with fail
  rw [← hwq]
  clear hwq zp cp
  have hrp' : Hid (some gp ∉ [some r]) := Lib.hid (by have := hrp.out; simp; omega)
  have hrg' : Hid (some g ∉ [some r]) := Lib.hid (by have := hrg.out; simp; omega)
  -- THE REGION THAT DRAWS ITS ORDER, BY ONE LEXICAL WALK OVER GENERIC VALUES (written by relgen.py)
  refine wp_region_tabL ((fun _ _ v => v = .agg #[.string p.k, .string p.v, .bool p.gone]) ::
    (fun _ _ v => v = .string ⟨#[97, 117, 103, 117, 114, 46, 112, 97, 105, 114]⟩) ::
    (fun _ _ v => v = .bool true) ::
    (fun _ _ v => v = .bool true) ::
    (fun _ _ v => v = .pointer (some ⟨g, 0, none⟩)) ::
    (fun _ _ v => v = .int .i64 0) ::
    (fun _ _ v => v = .bool true) ::
    (fun _ _ v => v = .bool true) ::
    (fun _ _ _ => True) ::
    (fun _ _ v => v = .bool true) :: [])
    (⟨[(6, none)], 0, []⟩ :: ⟨[(5, none)], 0, []⟩ :: ⟨[(21, some 1)], 0, []⟩ :: ⟨[(22, some 2)], 0, []⟩ :: ⟨[(4, none), (23, some 3)], 23, []⟩ :: ⟨[(24, some 4), (23, some 3)], 23, []⟩ :: ⟨[(25, some 5), (23, some 3)], 23, []⟩ :: ⟨[(23, some 3), (26, some 6)], 0, []⟩ :: ⟨[(2, none), (20, some 0)], 0, []⟩ :: ⟨[(27, some 7)], 0, []⟩ :: [])
    (none :: none :: none :: some 9 :: none :: none :: none :: none :: none :: none :: none :: none :: none :: none :: none :: none :: none :: none :: none :: none :: some 0 :: some 1 :: some 2 :: some 3 :: some 4 :: some 5 :: some 6 :: some 7 :: [])
    (fun L w' => Writes [some r] wq w' ∧ (L 8 = false → Holds w' r 41 #[.string ⟨#[]⟩, .string ⟨#[]⟩, .bool false]) ∧ (L 8 = true → Holds w' r 41 #[.string p.k, .string p.v, .bool p.gone])) (fun _ _ _ => True) ?mixK7unpack7 ?okK7unpack7 ?tabK7unpack7 ?frK7unpack7 ?inK7unpack7 ?keptK7unpack7 ?startK7unpack7 ?eachK7unpack7 ?finK7unpack7
  case mixK7unpack7 => kernel_rfl
  case okK7unpack7 => kernel_rfl
  case tabK7unpack7 => kernel_rfl
  case frK7unpack7 => kernel_rfl
  case inK7unpack7 => rfl
  case keptK7unpack7 => exact ⟨fun _ _ _ _ _ _ _ _ _ _ _ h => h, fun _ _ _ _ _ _ _ _ _ _ _ h => h, fun _ _ _ _ _ _ _ _ _ _ _ h => h, fun _ _ _ _ _ _ _ _ _ _ _ h => h, fun _ _ _ _ _ _ _ _ _ _ _ h => h, fun _ _ _ _ _ _ _ _ _ _ _ h => h, fun _ _ _ _ _ _ _ _ _ _ _ h => h, fun _ _ _ _ _ _ _ _ _ _ _ h => h, fun _ _ _ _ _ _ _ _ _ _ _ h => h, fun _ _ _ _ _ _ _ _ _ _ _ h => h, trivial⟩
  case startK7unpack7 => exact ⟨Writes.of_below (Below.refl _ _).drew _, fun _ => hz.out.below (Below.refl _ _).drew hz.out.lt, fun h => by simp at h⟩
  case eachK7unpack7 =>
    refine ⟨?_, ?_, ?_, ?_, ?_, ?_, ?_, ?_, ?_, ?_, trivial⟩
    -- 0: slot 20 := load 41 t6
    · intro w L f hC hLi hLd hLn hF
      obtain ⟨d6, _⟩ := hF
      have d6 : f 6 = .pointer (some ⟨gp, 0, none⟩) := d6
      refine Step2.live rfl ?_
      have hh := hC.1.holds hpp.out hrp'.out
      have c0 := hh.cell 0
      have c1 := hh.cell 1
      have c2 := hh.cell 2
      have ev : ∀ t, evalOf f (.tmp t) = f t := fun _ => rfl
      have ec : ∀ c, evalOf f (.const c) = c := fun _ => rfl
      have ef : ∀ g, evalOf f (.func g) = .func (.func g) #[] #[] := fun _ => rfl
      refine relUpon_value ?_ hC trivial rfl
      go_simp
    -- 1: slot 21 := move t5
    · intro w L f hC hLi hLd hLn hF
      obtain ⟨d5, _⟩ := hF
      have d5 : f 5 = .string ⟨#[97, 117, 103, 117, 114, 46, 112, 97, 105, 114]⟩ := d5
      refine Step2.live rfl ?_
      exact relUpon_value (v := f 5) rfl (hC) (trivial) d5
    -- 2: slot 22 := binOp BinOp.eql 9 t21 (const (Value.string { data := #[97, 117, 103, 117, 114, 46, 112, 97
    · intro w L f hC hLi hLd hLn hF
      obtain ⟨d21, _⟩ := hF
      have d21 : f 21 = .string ⟨#[97, 117, 103, 117, 114, 46, 112, 97, 105, 114]⟩ := d21
      refine Step2.live rfl ?_
      have ev : ∀ t, evalOf f (.tmp t) = f t := fun _ => rfl
      have ec : ∀ c, evalOf f (.const c) = c := fun _ => rfl
      have ef : ∀ g, evalOf f (.func g) = .func (.func g) #[] #[] := fun _ => rfl
      refine relUpon_value ?_ hC trivial rfl
      go_simp
    -- 3: slot 23 := move t22
    · intro w L f hC hLi hLd hLn hF
      obtain ⟨d22, _⟩ := hF
      have d22 : f 22 = .bool true := d22
      refine Step2.live rfl ?_
      exact relUpon_value (v := f 22) rfl (hC) (trivial) d22
    -- 4: slot 24 := move t4
    · intro w L f hC hLi hLd hLn hF
      obtain ⟨d4, d23, _⟩ := hF
      have d4 : f 4 = .pointer (some ⟨g, 0, none⟩) := d4
      have d23 : f 23 = .bool true := d23
      refine Step2.live (show wantedBy _ (f 23) = true by rw [d23]; rfl) ?_
      exact relUpon_value (v := f 4) rfl (hC) (trivial) d4
    -- 5: slot 25 := call { value (Operand.func 50), args := #[t24], argTypes := #[109] }
    · intro w L f hC hLi hLd hLn hF
      obtain ⟨d24, d23, _⟩ := hF
      have d24 : f 24 = .pointer (some ⟨g, 0, none⟩) := d24
      have d23 : f 23 = .bool true := d23
      refine Step2.live (show wantedBy _ (f 23) = true by rw [d23]; rfl) ?_
      have ev : ∀ t, evalOf f (.tmp t) = f t := fun _ => rfl
      have ec : ∀ c, evalOf f (.const c) = c := fun _ => rfl
      have ef : ∀ g, evalOf f (.func g) = .func (.func g) #[] #[] := fun _ => rfl
      refine relUpon_call (f := 50) (args := #[.pointer (some ⟨g, 0, none⟩)]) (w := w) (by go_simp) (done_any w g (some []) (hR5.out.done hC.1 hrg'.out)) ?_
      rintro e w1 ⟨he, rfl⟩
      exact ⟨_, he, hC, trivial, rfl⟩
    -- 6: slot 26 := binOp BinOp.eql 27 t25 (const (0:i64)) 27
    · intro w L f hC hLi hLd hLn hF
      obtain ⟨d25, d23, _⟩ := hF
      have d25 : f 25 = .int .i64 0 := d25
      have d23 : f 23 = .bool true := d23
      refine Step2.live (show wantedBy _ (f 23) = true by rw [d23]; rfl) ?_
      have ev : ∀ t, evalOf f (.tmp t) = f t := fun _ => rfl
      have ec : ∀ c, evalOf f (.const c) = c := fun _ => rfl
      have ef : ∀ g, evalOf f (.func g) = .func (.func g) #[] #[] := fun _ => rfl
      refine relUpon_value ?_ hC trivial rfl
      go_simp
    -- 7: slot 27 := pick t23 t26 (const (Value.bool false))
    · intro w L f hC hLi hLd hLn hF
      obtain ⟨d23, d26, _⟩ := hF
      have d23 : f 23 = .bool true := d23
      have d26 : f 26 = .bool true := d26
      refine Step2.live rfl ?_
      have ev : ∀ t, evalOf f (.tmp t) = f t := fun _ => rfl
      have ec : ∀ c, evalOf f (.const c) = c := fun _ => rfl
      have ef : ∀ g, evalOf f (.func g) = .func (.func g) #[] #[] := fun _ => rfl
      refine relUpon_value ?_ hC trivial rfl
      go_simp
    -- 8: slot None := store 41 t2 t20
    · intro w L f hC hLi hLd hLn hF
      obtain ⟨d2, d20, _⟩ := hF
      have d2 : f 2 = .pointer (some ⟨r, 0, none⟩) := d2
      have d20 : f 20 = .agg #[.string p.k, .string p.v, .bool p.gone] := d20
      refine Step2.live rfl ?_
      have hz := hC.2.1 hLi
      have z0 := hz.frozen 0
      have z1 := hz.frozen 1
      have z2 := hz.frozen 2
      have c0 := hz.cell 0
      have c1 := hz.cell 1
      have c2 := hz.cell 2
      have ev : ∀ t, evalOf f (.tmp t) = f t := fun _ => rfl
      have ec : ∀ c, evalOf f (.const c) = c := fun _ => rfl
      have ef : ∀ g, evalOf f (.func g) = .func (.func g) #[] #[] := fun _ => rfl
      refine relUpon_skip (w' := ((w.setCell ⟨r, 0, none⟩ (.string p.k)).setCell ⟨r, 1, none⟩ (.string p.v)).setCell ⟨r, 2, none⟩ (.bool p.gone)) ?_ ⟨hC.1.trans ((Writes.store w (p := ⟨r, 0, none⟩) (by simp) _).trans ((Writes.store _ (p := ⟨r, 1, none⟩) (by simp) _).trans (Writes.store _ (p := ⟨r, 2, none⟩) (by simp) _))), fun h => by simp at h, fun _ => ((hz.store 0 _).store 1 _).store 2 _⟩ trivial trivial
      go_simp
    -- 9: slot 3 := assign t27
    · intro w L f hC hLi hLd hLn hF
      obtain ⟨d27, _⟩ := hF
      have d27 : f 27 = .bool true := d27
      refine Step2.live rfl ?_
      exact relUpon_value (v := f 27) rfl (hC) (trivial) d27
  intro x w' hC hV

  have hfin := hC.2.2 rfl
  have hB' : Hid (Below w.heap.size w w') := Lib.hid (hB.out.trans (hC.1.below hB.out.size (by have := hr'.out; simp; omega)))
  have c0 := hfin.cell 0
  have c1 := hfin.cell 1
  have c2 := hfin.cell 2
  have e8 := hV 9 _ rfl rfl
  clear hV hC hfin
  simp only [framed]
  go_wp2_with fail
  rw [e8]
  try simp only [Exit.inBlock, Exit.then]
  refine bodyPost_ret (v := .tuple #[.agg #[.string p.k, .string p.v, .bool p.gone], .bool true]) (w := w') ?_ rfl ⟨rfl, hB'.out⟩
  simp [results, Tryz.results28, go_sem, c0, c1, c2]
end Go.Proofs.YtelglbblgkhcmaaGreat
namespace Go.Proofs.YtelglbblgkhcmaaGreat
open Go.RowKit Go.Maps Go.Sort Go.Shelf

theorem Tryz.sortsB (m : Nat) : AnyZ.SortsIn Tryz.prog Tryz.sortedB_ren Fence.wide m :=
  ⟨fun blk off cap ss W hH hblk hsz => callsIn_wide.2 (AnyM.slices_Sort_string Tryz.sortB blk off cap ss W hH hblk hsz),
   fun p cap W => callsIn_wide.2 (AnyM.slices_Sort_string_none Tryz.sortB p cap W)⟩
/-- The keys of a map, rising. -/
def KeysL (f : ByteArray → Option Value) (ss : List (List UInt8)) : Prop := ss.Pairwise (· < ·) ∧ ∀ x, x ∈ ss ↔ f (strV x) ≠ none
theorem strV_list (x : List UInt8) : (strV x).data.toList = x := by simp [strV]
theorem SaysS.has {D : DataW Value} {f : ByteArray → Option Value} (h : SaysS D f) (x : List UInt8) : Maps.has D (.string x) = true ↔ f (strV x) ≠ none := by
  have := h (strV x)
  unfold keyS at this
  rw [strV_list] at this
  cases hf : f (strV x) with
  | none => rw [hf] at this; simp only at this; rw [this]; simp
  | some v => rw [hf] at this; simp only at this; rw [this.1]; simp
theorem keys_nodup {w : World} {m n : Nat} {D : DataW Value} (ho : w.ownsMap Tryz.prog 9 heldR m n D) : (strKeys D).Nodup ∧ ∀ x, x ∈ strKeys D ↔ Maps.has D (.string x) = true := by
  obtain ⟨es, hD, hpw, _⟩ := ho.entries Tryz.strKeyed
  obtain ⟨es', hD', hko⟩ := ho.keysOf
  obtain rfl : es = es' := by rw [hD] at hD'; simpa using hD'
  subst hD
  have hk : ∀ p ∈ es, ∃ x, p.1 = .string x := fun p hp => by obtain ⟨v, hv⟩ := hko p hp; obtain ⟨x, _, hx, _⟩ := Maps.keyOf_str Tryz.underlying9 hv; exact ⟨x, hx⟩
  constructor
  · show (es.map fun p => strOf p.1).Nodup
    refine List.pairwise_map.2 (hpw.imp_of_mem fun {p q} hp' hq' hne e => hne ?_)
    obtain ⟨a, ha⟩ := hk p hp'
    obtain ⟨b, hb⟩ := hk q hq'
    rw [ha, hb] at e ⊢
    exact congrArg _ e
  · intro x
    rw [has_eq, List.any_eq_true]
    show x ∈ es.map (fun p => strOf p.1) ↔ _
    rw [List.mem_map]
    constructor
    · rintro ⟨p, hp', rfl⟩
      obtain ⟨a, ha⟩ := hk p hp'
      exact ⟨p, hp', by rw [ha]; simp [Lit.sameKey, strOf]⟩
    · rintro ⟨p, hp', hs⟩
      obtain ⟨a, ha⟩ := hk p hp'
      rw [ha] at hs
      exact ⟨p, hp', by rw [ha]; simpa [Lit.sameKey, strOf] using hs⟩
/-- Sorted keys, each once. -/
theorem keysL_of {f : ByteArray → Option Value} {ss : List (List UInt8)} (hnd : ss.Nodup) (hm : ∀ x, x ∈ ss ↔ f (strV x) ≠ none) : KeysL f (ss.mergeSort leB) := by
  have hperm := List.mergeSort_perm ss leB
  refine ⟨?_, fun x => (hperm.mem_iff).trans (hm x)⟩
  have h1 : (ss.mergeSort leB).Pairwise (fun a b => leB a b = true) := List.pairwise_mergeSort (fun a b c h1 h2 => by simp only [leB, decide_eq_true_eq] at *; exact List.le_trans h1 h2) (fun a b => by simp only [leB, Bool.or_eq_true, decide_eq_true_eq]; exact List.le_total a b) ss
  have h2 : (ss.mergeSort leB).Nodup := hperm.nodup_iff.2 hnd
  exact (List.pairwise_and_iff.2 ⟨h1, h2⟩).imp fun {a b} ⟨h3, h4⟩ => by
    simp only [leB, decide_eq_true_eq] at h3
    rcases Decidable.em (a < b) with h5 | h5
    · exact h5
    · exact absurd (List.le_antisymm h3 h5) h4
theorem keyS_list (w : World) (mb : Nat) : Calls Tryz.prog 60 #[.map (some mb)] w fun e w' => e = .returned (.func (.func 84) #[] #[.pointer (some ⟨w.heap.size, 0, none⟩)]) ∧ w' = w.alloc (.cells #[.map (some mb)] 56) :=
  (callsIn_wide (n := 5)).1 (AnyZ.keys_in Tryz.keysB Fence.wide 5 trivial rfl (some mb) w)
set_option maxHeartbeats 1000000 in
theorem sortedS_any (w : World) (mb N : Nat) (f : ByteArray → Option Value) (h : SMap w mb N f) (hN : N ≤ 1000000) :
    Calls Tryz.prog 59 #[.func (.func 84) #[] #[.pointer (some ⟨w.heap.size, 0, none⟩)]] (w.alloc (.cells #[.map (some mb)] 56)) fun e w' =>
      (∃ v ks, e = .returned v ∧ KeysL f ks ∧ ks.length ≤ N ∧ w'.ownsRow w.heap.size 9 1 v ks.length (ks.map encStr)) ∧ Below w.heap.size w w' := by
  obtain ⟨nn, D0, hn, hown, hs⟩ := h
  have hbl := hown.lt
  have hsz := hown.size_le
  have hmax : Maps.size D0 ≤ maxLen := by unfold maxLen; omega
  have hbytes : Maps.size D0 * 16 ≤ 140737488355328 := by omega
  have hseq : SeqGives Fence.wide 2 Tryz.prog 84 #[.pointer (some ⟨w.heap.size, 0, none⟩)] encStr (fun ss => ss.Perm (strKeys D0)) (Maps.size D0) (w.alloc (.cells #[.map (some mb)] 56)) :=
    AnyZ.keys_gives (ρ := Tryz.keysB_ren) { Tryz.keysB with } Fence.wide _ trivial rfl (by omega) w.heap.size mb nn D0 _ (by simp) (by simp) (by
      obtain ⟨es, clock, hb, Ft, hs, hD⟩ := hown
      exact ⟨es, clock, (Below.heap_alloc _ _ mb hbl).trans hb, Ft, hs, hD⟩)
  have cS := AnyZ.sorted_in Tryz.sortedB Fence.wide 5 trivial trivial trivial trivial rfl (by omega) (Tryz.sortsB _) (enters_of Tryz.func36 (by kernel_rfl) rfl) 84 #[.pointer (some ⟨w.heap.size, 0, none⟩)] trivial (enters_of Tryz.func84 (by kernel_rfl) rfl) _ _ hmax hbytes _ hseq
  refine ((callsIn_wide (n := 5)).1 cS).mono ?_
  rintro e w' ⟨v, ss, rfl, hS, hrow, _, hb⟩
  obtain ⟨k1, k2⟩ := keys_nodup hown
  have hsz2 : (w.alloc (.cells #[.map (some mb)] 56)).heap.size = w.heap.size + 1 := by simp
  have hlen : ss.length = Maps.size D0 := by
    rw [hS.length_eq]
    obtain ⟨es, hD, _⟩ := hown.keysOf
    rw [hD]
    simp [strKeys, Maps.size]
  refine ⟨⟨v, ss.mergeSort leB, rfl, keysL_of (hS.nodup_iff.2 k1) (fun x => (hS.mem_iff.trans (k2 x)).trans (hs.has x)), ?_, ?_⟩, (below_new w _).trans (hb.mono (by rw [hsz2]; omega))⟩
  · rw [List.length_mergeSort]; omega
  · rw [List.length_mergeSort]
    have hB : w.heap.size ≤ (w.alloc (.cells #[.map (some mb)] 56)).heap.size := by rw [hsz2]; omega
    exact own_base hrow hB
theorem cloneS_any (w : World) (m N : Nat) (f : ByteArray → Option Value) (h : SMap w m N f) :
    Calls Tryz.prog 32 #[.map (some m)] w fun e w' => e = .returned (.map (some w.heap.size)) ∧ SMap w' w.heap.size N f ∧ Below w.heap.size w w' ∧ w'.heap.size = w.heap.size + 1 := by
  have hh := h
  obtain ⟨nn, D0, hn, ⟨es, clock, hb, F, hs, hD⟩, hsay⟩ := hh
  refine (AnyW.maps_Clone Tryz.cloneB m es clock w hb).mono ?_
  rintro e w' ⟨rfl, rfl⟩
  exact ⟨rfl, ⟨nn, D0, hn, ⟨es, clock, heap_alloc_new w _, F, hs, hD⟩, hsay⟩, below_new w _, by simp⟩
end Go.Proofs.YtelglbblgkhcmaaGreat
namespace Go.Proofs.YtelglbblgkhcmaaGreat
open Go.RowKit Go.Deep

theorem Tryz.fieldEnt (v : ByteArray) (w : World) : (Instr.field 82 (.agg #[.string v]) 0).run Tryz.prog w = .ok (.string v) w := by kernel_rfl
/-- The record of a key. -/
def recOf (F : ByteArray → Option ByteArray) (x : List UInt8) : PairR := ⟨strV x, (F (strV x)).getD ⟨#[]⟩, false⟩
def snapF (F : ByteArray → Option ByteArray) (ks : List (List UInt8)) : List (List UInt8) := ks.map fun x => packE (recOf F x)
/-- Keys and values that may be packed. -/
def FOk (F : ByteArray → Option ByteArray) : Prop := ∀ k v, F k = some v → k.size ≤ 2000000 ∧ v.size ≤ 2000000
theorem snapF_take (F : ByteArray → Option ByteArray) (ks : List (List UInt8)) {k : Nat} (h : k < ks.length) : (snapF F ks).take (k + 1) = (snapF F ks).take k ++ [packE (recOf F ks[k])] := by
  unfold snapF
  rw [List.take_add_one, List.getElem?_eq_getElem (by simpa using h)]
  simp
set_option maxRecDepth 100000 in
set_option maxHeartbeats 4000000 in
theorem snapshot_any (w : World) (mb N : Nat) (F : ByteArray → Option ByteArray) (hm : SMapE w mb N F) (hN : N ≤ 100000) (hok : FOk F) :
    Calls Tryz.prog 34 #[.map (some mb)] w fun e w' => ∃ v ps ks, e = .returned v ∧ KeysL (fun k => (F k).map entV) ks ∧ ks.length ≤ N ∧ RecsAt w.heap.size w' v ps ∧ ps.map (·.l) = snapF F ks ∧ Below w.heap.size w w' := by
  obtain ⟨iS, hiS, hzS0, hzS1, hzS2⟩ := info_parts Tryz.rSl
  have hm := Lib.hid hm
  go_enter Tryz.func34, Tryz.ntmps34
  go_wp2_with fail
  refine (keyS_list w mb).mono ?_
  rintro e w1 ⟨rfl, rfl⟩
  go_wp2_with fail
  refine (sortedS_any w mb N _ hm.out (by omega)).mono ?_
  rintro e w2 ⟨⟨v, ks, rfl, hks, hkN, hro⟩, hB⟩
  obtain ⟨A, c, rfl, hr, _, _⟩ := own_row hro
  have hks := Lib.hid hks
  have hr := Lib.hid hr
  have hB := Lib.hid hB
  clear hro
  obtain ⟨n, hn⟩ : ∃ n, n = ks.length := ⟨_, rfl⟩
  rw [← hn] at hkN ⊢
  have hn' := Lib.hid hn
  clear hn
  go_wp2_with fail
  go_loopw [3, 10] (fun v kv wr => ∃ (k : Nat) (ps : List Pay), k ≤ n ∧ kv = .int .i64 k ∧ Hid (RecsAt w2.heap.size wr v ps) ∧ Hid (ps.map (·.l) = (snapF F ks).take k) ∧ Hid (Below w2.heap.size w2 wr)) (fun _ kv _ => n - (intOf kv).toNat)
  case atStart => exact ⟨0, [], by omega, rfl, Lib.hid (.nil_ _ _), Lib.hid (by simp), Lib.hid (Below.refl _ _)⟩
  obtain ⟨k, ps, hk, rfl, hR, hps, hBr⟩ := hrel
  rename World => wo
  by_cases hkn : k < n
  · have hkl : k < ks.length := by rw [← hn'.out]; exact hkn
    have hpk : Hid (ps.length = k) := Lib.hid (by
      have := congrArg List.length hps.out
      simp only [List.length_map, List.length_take, snapF] at this
      omega)
    obtain ⟨b, off, rfl, _, hcell0⟩ := (hr.out.below hBr.out).at_ (k := k) (by simpa using hkl)
    have hcell : wo.cell? ⟨b, off + k, none⟩ = some (.string (strV ks[k])) := by rw [hcell0]; simp [encStr, strV]
    clear hcell0
    have hkm : F (strV ks[k]) ≠ none := fun e => by
      refine (hks.out.2 ks[k]).1 (List.getElem_mem hkl) ?_
      show (F (strV ks[k])).map entV = none
      rw [e]
      rfl
    obtain ⟨fv, hfv⟩ := Option.ne_none_iff_exists'.1 hkm
    have hst : Hid ((snapF F ks).take (k + 1) = (snapF F ks).take k ++ [packE ⟨strV ks[k], fv, false⟩]) := Lib.hid (by rw [snapF_take F ks hkl]; unfold recOf; rw [hfv]; rfl)
    have hpo : Hid (PairR.ok ⟨strV ks[k], fv, false⟩) := Lib.hid (hok _ _ hfv)
    have hmo : SMapE wo mb N F := hm.out.loc ((hBr.out.block mb (Nat.lt_of_lt_of_le hm.out.lt hB.out.size)).trans (hB.out.block mb hm.out.lt))
    obtain ⟨_, hlk⟩ := SMapE.look hmo (k := strV ks[k]) (Nat.le_trans hpo.out.1 (by omega))
    rw [hfv, Option.getD_some] at hlk
    clear hkm hfv hmo
    generalize strV ks[k] = kk at *
    obtain ⟨Av, cv, rfl, _⟩ := own_row hR.out.1
    have hfl := Tryz.fieldEnt fv
    go_wp2_with fail
    clear hlk hfl
    refine (pack_any wo ⟨kk, fv, false⟩ hpo.out).mono ?_
    rintro e w3 ⟨y, rfl, hyl0, hyo, hyb⟩
    have hsz : Hid (w2.heap.size ≤ wo.heap.size) := Lib.hid hBr.out.size
    have hR2 : Hid (RecsAt w2.heap.size w3 (.slice Av ps.length cv) ps) := Lib.hid (hR.out.below hyb)
    have hy2 : Hid (w3.ownsRow w2.heap.size 5 1 y.val y.l.length (y.l.map byteV)) := Lib.hid (own_base hyo hsz.out)
    have hB3 : Hid (Below w2.heap.size w2 w3) := Lib.hid (hBr.out.trans (hyb.mono hsz.out))
    have hyl := Lib.hid hyl0
    clear hyl0 hyo hyb hR hBr
    have hb3 := below_new w3 (.cells #[y.val] 37)
    have hR3 : Hid (RecsAt w2.heap.size (w3.alloc (.cells #[y.val] 37)) (.slice Av ps.length cv) ps) := Lib.hid (hR2.out.below hb3)
    have hp3 : Hid ((w3.alloc (.cells #[y.val] 37)).ownsRow w2.heap.size 5 1 y.val y.l.length (y.l.map byteV)) := Lib.hid (own_below hy2.out hb3)
    have hrow3 : Hid (Row (w3.alloc (.cells #[y.val] 37)) (w3.alloc (.cells #[y.val] 37)).heap.size (some ⟨w3.heap.size, 0, none⟩) [y.val]) := Lib.hid (Row.one w3 37 _)
    have hone : Hid (∀ u ∈ [y.val], u.oneCell' = true) := Lib.hid (fun u hu => by rw [List.mem_singleton.1 hu]; rfl)
    have hBa : Hid (Below w2.heap.size w2 (w3.alloc (.cells #[y.val] 37))) := Lib.hid (hB3.out.trans (hb3.mono hB3.out.size))
    have hpl : ps.length ≤ 100000 := by have := hpk.out; omega
    clear hb3 hR2 hy2 hB3
    unfold Pay.val at hrow3 hone hR3 hp3 hBa ⊢
    go_wp2_with
      (with_reducible refine at_slot 23 ?_
       go_loud (refine wpList_append_row _ rfl (.tmp 14) (.tmp 22) 72 rfl w2.heap.size 37 iS (.slice none 0 0) 24 Tryz.underlying72 hiS hzS0 hzS1 hzS2 rfl (.slice Av ps.length cv) ps.length (ps.map Pay.val) rfl hR3.out.1 _ (some ⟨w3.heap.size, 0, none⟩) 1 1 [.slice y.A y.l.length y.c] rfl rfl hrow3.out hone.out (by unfold maxLen; omega) (by omega) hBa.out.size ?_)
       intro v4 w4 ho4 hg4 _
       have hR4 : Hid (RecsAt w2.heap.size w4 v4 (ps ++ [y])) := Lib.hid (hR3.out.snoc (p := y) hp3.out ho4 hg4)
       have hB4 : Hid (Below w2.heap.size w2 w4) := Lib.hid (hBa.out.trans ((Writes.of_grown hg4 (M := [(Value.slice Av ps.length cv).ownBlock]) (by simp)).below hBa.out.size (fun j hj => own_ge hR3.out.1 (List.mem_singleton.1 hj).symm)))
       clear ho4 hg4)
    refine ⟨⟨k + 1, _, by omega, by simp, hR4, Lib.hid (by rw [List.map_append, hps.out, hst.out, List.map_singleton, hyl.out]), hB4⟩, by simp [intOf]; omega⟩
  · obtain rfl : n = k := by omega
    have hfin : Hid (ps.map (·.l) = snapF F ks) := Lib.hid (by rw [hps.out]; exact List.take_of_length_le (by unfold snapF; rw [List.length_map, ← hn'.out]; exact Nat.le_refl _))
    go_wp2_with fail
    go_ret
    exact ⟨_, ps, ks, rfl, hks.out, by rw [← hn'.out]; exact hkN, hR.out.base hB.out.size, hfin.out, hB.out.trans (hBr.out.mono hB.out.size)⟩
end Go.Proofs.YtelglbblgkhcmaaGreat
