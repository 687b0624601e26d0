/-
  The walk of req.Bytes.
-/
import Derived.Test.YtimhghmnnibajaaRqC
namespace Go.Proofs.Ytimhghmnnibajaa
open Go.RowKit

theorem Wrote.below2 {w w' : World} {B g : Nat} {t : TypeId} {v : Value} {l l' : List UInt8} {e : Ending} (hw : Wrt w B g t v l) (hB : B ≤ w.heap.size) (h : Wrote w B g t v l' e w') : Below B w w' := h.below hw hB
set_option maxRecDepth 100000 in
set_option maxHeartbeats 4000000 in
theorem bytesQ_any (w0 : World) (kind : Int) (name text : ByteArray) (n : Int) (hk : i64ok kind) (hnm : name.size ≤ 20000) (htx : text.size ≤ 20000) (hn : i64ok n) :
    Calls Try.prog 50 #[.agg #[.int .i64 kind, .string name, .string text, .int .i64 n]] w0 fun e w' => ∃ A c, e = .returned (.slice A (rqE ⟨kind, name, text, n⟩).length c) ∧ Bytes w' w'.heap.size A (rqE ⟨kind, name, text, n⟩) ∧ (rqE ⟨kind, name, text, n⟩).length ≤ c ∧ Below w0.heap.size w0 w' := by
  have hnm := Lib.hid hnm
  rename_i hnm'
  have htx := Lib.hid htx
  rename_i htx'
  have hn := Lib.hid hn
  rename_i hn'
  clear hnm' htx' hn'
  obtain ⟨kk, hkke⟩ : ∃ x : Nat, x = (max 0 kind).toNat := ⟨_, rfl⟩
  have hkv : Hid (max 0 kind = (kk : Int)) := Lib.hid (by omega)
  have hkk : Hid (kk < 18446744073709551616) := Lib.hid (by unfold i64ok at hk; omega)
  have hrq : Hid (rqE ⟨kind, name, text, n⟩ = [] ++ numE kk ++ (txtE name ++ txtE text) ++ intE n) := Lib.hid (by unfold rqE; rw [← hkke]; simp)
  clear hkke
  have hb1 := Lib.hid (below_new w0 (.cells #[.int .i64 kind, .string name, .string text, .int .i64 n] 78))
  have hbx := Lib.hid (Holds.new w0 78 #[.int .i64 kind, .string name, .string text, .int .i64 n])
  go_enter Try.func50, Try.ntmps50
  go_wp2_with fail
  refine (newWriter_any _).mono ?_
  rintro e w2 ⟨rfl, rfl⟩
  have hb2 := below_new (w0.alloc (.cells #[.int .i64 kind, .string name, .string text, .int .i64 n] 78)) (.cells #[.slice none 0 0] 30)
  have hw : Hid (Wrt ((w0.alloc (.cells #[.int .i64 kind, .string name, .string text, .int .i64 n] 78)).alloc (.cells #[.slice none 0 0] 30)) (w0.alloc (.cells #[.int .i64 kind, .string name, .string text, .int .i64 n] 78)).heap.size (w0.alloc (.cells #[.int .i64 kind, .string name, .string text, .int .i64 n] 78)).heap.size 30 (.slice none 0 0) []) := Lib.hid (newWriter_wrt _)
  have hbx2 := Lib.hid (hbx.out.below hb2 hbx.out.lt)
  have hBb := Lib.hid (hb1.out.trans (hb2.mono hb1.out.size))
  have hB := hb2.size
  have hB := Lib.hid hB
  rename_i hB'
  clear hb2 hB' hb1 hbx
  go_wp2_with fail
  generalize (w0.alloc (.cells #[.int .i64 kind, .string name, .string text, .int .i64 n] 78)).alloc (.cells #[.slice none 0 0] 30) = wr at hw hbx2 hBb hB ⊢
  obtain ⟨bx, hbxe⟩ : ∃ x, w0.heap.size = x := ⟨_, rfl⟩
  have hge : (w0.alloc (.cells #[.int .i64 kind, .string name, .string text, .int .i64 n] 78)).heap.size = bx + 1 := by simp [hbxe]
  rw [hge] at hw hB
  have hwx : w0.heap.size ≤ bx := by omega
  rw [hbxe] at hbx2 ⊢
  clear hbxe hge
  obtain ⟨g, hg⟩ : ∃ x, bx + 1 = x := ⟨_, rfl⟩
  obtain ⟨W, hW⟩ : ∃ x, x = g := ⟨_, rfl⟩
  rw [hg] at hw hB ⊢
  have hWg : Hid (W = g) := Lib.hid hW
  have hw : Hid (Wrt wr W g 30 (.slice none 0 0) []) := Lib.hid (by rw [hW]; exact hw.out)
  have hB : Hid (W ≤ wr.heap.size) := Lib.hid (by rw [hW]; exact hB.out)
  obtain ⟨u, hu⟩ : ∃ u : Value, u = .slice none 0 0 := ⟨_, rfl⟩
  rw [← hu] at hw
  have hgx : bx < W := by omega
  clear hu hg hW
  have f0 := Lib.hid (hbx2.out.fact 0 rfl)
  -- THE REGION THAT DRAWS ITS ORDER, BY ONE LEXICAL WALK OVER GENERIC VALUES (written by relgen.py)
  refine wp_region_tabL ((fun _ _ v => v = .pointer (some ⟨g, 0, none⟩)) ::
    (fun _ _ v => v = .pointer (some ⟨g, 0, none⟩)) ::
    (fun _ _ v => v = .pointer (some ⟨g, 0, none⟩)) ::
    (fun _ _ v => v = .pointer (some ⟨bx, 0, none⟩)) ::
    (fun _ _ v => v = .int .i64 kind) ::
    (fun _ _ v => v = .int .i64 (max 0 kind)) ::
    (fun _ _ v => v = .int .u64 (kk : Nat)) ::
    (fun L w v => Till 8 (fun w v => NewCells wr.heap.size 37 #[.int .u64 (kk : Nat)] 1 w v) L w v) ::
    (fun _ _ _ => True) :: [])
    (⟨[(3, none)], 0, [8]⟩ :: ⟨[(5, some 0)], 0, [8]⟩ :: ⟨[(6, some 1)], 0, [8]⟩ :: ⟨[(1, none)], 0, [8]⟩ :: ⟨[(8, some 3)], 0, [8]⟩ :: ⟨[(9, some 4)], 0, [8]⟩ :: ⟨[(10, some 5)], 0, [8]⟩ :: ⟨[(11, some 6)], 0, [8]⟩ :: ⟨[(7, some 2), (12, some 7)], 0, []⟩ :: [])
    (none :: none :: none :: none :: none :: some 0 :: some 1 :: some 2 :: some 3 :: some 4 :: some 5 :: some 6 :: some 7 :: some 8 :: [])
    (fun L w' => PutAt wr W g 30 u ([] ++ numE kk) (L 8) w') (fun i w w' => i ≠ 8 → Below w.heap.size w w') ?mixK2 ?okK2 ?tabK2 ?frK2 ?inK2 ?keptK2 ?startK2 ?eachK2 ?finK2
  case mixK2 => kernel_rfl
  case okK2 => kernel_rfl
  case tabK2 => kernel_rfl
  case frK2 => kernel_rfl
  case inK2 => rfl
  case keptK2 => exact ⟨fun _ _ _ _ _ _ _ _ _ _ _ h => h, fun _ _ _ _ _ _ _ _ _ _ _ h => h, fun _ _ _ _ _ _ _ _ _ _ _ h => h, fun _ _ _ _ _ _ _ _ _ _ _ h => h, fun _ _ _ _ _ _ _ _ _ _ _ h => h, fun _ _ _ _ _ _ _ _ _ _ _ h => h, fun _ _ _ _ _ _ _ _ _ _ _ h => h, fun _ _ _ _ _ _ _ _ _ _ hG h => Till.keep h fun hne h => h.keep (hG hne), fun _ _ _ _ _ _ _ _ _ _ _ h => h, trivial⟩
  case startK2 => exact ⟨fun _ => (Below.refl _ _).drew, fun h => by simp at h⟩
  case eachK2 =>
    refine ⟨?_, ?_, ?_, ?_, ?_, ?_, ?_, ?_, ?_, trivial⟩
    -- 0: slot 5 := move t3
    · intro w L f hC hLi hLd hLn hF
      obtain ⟨d3, _⟩ := hF
      have d3 : f 3 = .pointer (some ⟨g, 0, none⟩) := d3
      refine Step2.live rfl ?_
      exact relUpon_value (v := f 3) rfl (hC) (fun _ => Below.refl _ _) d3
    -- 1: slot 6 := nilCheck t5
    · intro w L f hC hLi hLd hLn hF
      obtain ⟨d5, _⟩ := hF
      have d5 : f 5 = .pointer (some ⟨g, 0, none⟩) := d5
      refine Step2.live rfl ?_
      have ev : ∀ t, evalOf f (.tmp t) = f t := fun _ => rfl
      have ec : ∀ c, evalOf f (.const c) = c := fun _ => rfl
      have ef : ∀ g, evalOf f (.func g) = .func (.func g) #[] #[] := fun _ => rfl
      refine relUpon_value ?_ hC (fun _ => Below.refl _ _) rfl
      go_simp
    -- 2: slot 7 := fieldAddr 30 t6 0
    · intro w L f hC hLi hLd hLn hF
      obtain ⟨d6, _⟩ := hF
      have d6 : f 6 = .pointer (some ⟨g, 0, none⟩) := d6
      refine Step2.live rfl ?_
      have ev : ∀ t, evalOf f (.tmp t) = f t := fun _ => rfl
      have ec : ∀ c, evalOf f (.const c) = c := fun _ => rfl
      have ef : ∀ g, evalOf f (.func g) = .func (.func g) #[] #[] := fun _ => rfl
      refine relUpon_value ?_ hC (fun _ => Below.refl _ _) rfl
      go_simp
    -- 3: slot 8 := fieldAddr 78 t1 0
    · intro w L f hC hLi hLd hLn hF
      obtain ⟨d1, _⟩ := hF
      have d1 : f 1 = .pointer (some ⟨bx, 0, none⟩) := d1
      refine Step2.live rfl ?_
      have ev : ∀ t, evalOf f (.tmp t) = f t := fun _ => rfl
      have ec : ∀ c, evalOf f (.const c) = c := fun _ => rfl
      have ef : ∀ g, evalOf f (.func g) = .func (.func g) #[] #[] := fun _ => rfl
      refine relUpon_value ?_ hC (fun _ => Below.refl _ _) rfl
      go_simp
    -- 4: slot 9 := load 3 t8
    · intro w L f hC hLi hLd hLn hF
      obtain ⟨d8, _⟩ := hF
      have d8 : f 8 = .pointer (some ⟨bx, 0, none⟩) := d8
      refine Step2.live rfl ?_
      have hcell0 := ((hC.m (hLn 8 (by simp))).cell f0.out.1).trans f0.out.2
      have ev : ∀ t, evalOf f (.tmp t) = f t := fun _ => rfl
      have ec : ∀ c, evalOf f (.const c) = c := fun _ => rfl
      have ef : ∀ g, evalOf f (.func g) = .func (.func g) #[] #[] := fun _ => rfl
      refine relUpon_value ?_ hC (fun _ => Below.refl _ _) rfl
      go_simp
    -- 5: slot 10 := call { builtin max, args := #[const (0:i64), t9], argTypes := #[3, 3] }
    · intro w L f hC hLi hLd hLn hF
      obtain ⟨d9, _⟩ := hF
      have d9 : f 9 = .int .i64 kind := d9
      refine Step2.live rfl ?_
      have ev : ∀ t, evalOf f (.tmp t) = f t := fun _ => rfl
      have ec : ∀ c, evalOf f (.const c) = c := fun _ => rfl
      have ef : ∀ g, evalOf f (.func g) = .func (.func g) #[] #[] := fun _ => rfl
      refine relUpon_value ?_ hC (fun _ => Below.refl _ _) rfl
      go_simp
      split <;> omega
    -- 6: slot 11 := convert 3 37 t10
    · intro w L f hC hLi hLd hLn hF
      obtain ⟨d10, _⟩ := hF
      have d10 : f 10 = .int .i64 (max 0 kind) := d10
      refine Step2.live rfl ?_
      have ev : ∀ t, evalOf f (.tmp t) = f t := fun _ => rfl
      have ec : ∀ c, evalOf f (.const c) = c := fun _ => rfl
      have ef : ∀ g, evalOf f (.func g) = .func (.func g) #[] #[] := fun _ => rfl
      refine relUpon_value ?_ hC (fun _ => Below.refl _ _) rfl
      go_simp
      rw [hkv.out]
      exact IntWalk.u64_in _ (by have := hkk.out; omega)
    -- 7: slot 12 := buildSlice 47 1 #[(0, t11)]
    · intro w L f hC hLi hLd hLn hF
      obtain ⟨d11, _⟩ := hF
      have d11 : f 11 = .int .u64 (kk : Nat) := d11
      refine Step2.live rfl ?_
      have ev : ∀ t, evalOf f (.tmp t) = f t := fun _ => rfl
      have ec : ∀ c, evalOf f (.const c) = c := fun _ => rfl
      have ef : ∀ g, evalOf f (.func g) = .func (.func g) #[] #[] := fun _ => rfl
      refine relUpon_value (w' := w.alloc (.cells #[.int .u64 (kk : Nat)] 37)) (v := .slice (some ⟨w.heap.size, 0, none⟩) 1 1) (by go_simp) (hC.alloc (hLn 8 (by simp)) _) (fun _ => below_new _ _) (fun _ => ⟨_, rfl, (hC.m (hLn 8 (by simp))).size, Holds.new _ _ _⟩)
    -- 8: slot 13 := call { value (Operand.func 27), args := #[t7, t12], argTypes := #[28, 47] }
    · intro w L f hC hLi hLd hLn hF
      obtain ⟨d7, d12, _⟩ := hF
      have d7 : f 7 = .pointer (some ⟨g, 0, none⟩) := d7
      refine Step2.live rfl ?_
      obtain ⟨kn, e0, hkn, hrow⟩ := d12 hLi
      have ev : ∀ t, evalOf f (.tmp t) = f t := fun _ => rfl
      have ec : ∀ c, evalOf f (.const c) = c := fun _ => rfl
      have ef : ∀ g, evalOf f (.func g) = .func (.func g) #[] #[] := fun _ => rfl
      refine relUpon_call (f := 27) (args := #[.pointer (some ⟨g, 0, none⟩), .slice (some ⟨kn, 0, none⟩) 1 1]) (w := w) (by go_simp) (num_puts (l2 := [] ++ numE kk) (hC.m hLi) hw.out hB.out [kk] 1 hrow hkn rfl rfl (by simpa using hkk.out) (by simp) (by simp)) ?_
      intro e w1 hw1
      exact ⟨_, hw1.1, ⟨fun e => by simp at e, fun _ => by have := hw1.1; subst this; exact hw1⟩, fun h => absurd rfl h, trivial⟩
  intro x w' hC hV

  have hw1 := hC.d rfl
  clear hV hC
  simp only [framed]
  have hbo := Lib.hid (hw1.below hw.out hB.out)
  obtain ⟨-, u1, hu1, hM1, _⟩ := hw1
  have hbxb := Lib.hid (hbx2.out.below hbo.out hgx)
  have hBb2 := Lib.hid (hBb.out.trans (hbo.out.mono (by omega)))
  obtain ⟨wr2, hwr2⟩ : ∃ x, x = w' := ⟨_, rfl⟩
  rw [← hwr2] at hu1 hbxb hBb2 ⊢
  have hB2 : W ≤ wr2.heap.size := by rw [hwr2]; exact Nat.le_trans hB.out hbo.out.size
  clear hwr2 hbo hM1 hw hB hbx2 hBb f0
  have hw := Lib.hid hu1
  have hB := Lib.hid hB2
  clear hu1 hB2
  have f1 := Lib.hid (hbxb.out.fact 1 rfl)
  have f2 := Lib.hid (hbxb.out.fact 2 rfl)
  have hcl : Hid (([] ++ numE kk : List UInt8).length ≤ 100) := Lib.hid (by have := numE_len10 kk hkk.out; simp; omega)
  generalize ([] ++ numE kk : List UInt8) = cur at hw hcl hrq
  obtain ⟨u, hu⟩ : ∃ u : Value, u = u1 := ⟨_, rfl⟩
  rw [← hu] at hw
  obtain ⟨wr, hwr⟩ : ∃ x, x = wr2 := ⟨_, rfl⟩
  rw [← hwr] at hw hB hbxb hBb2 f1 f2 ⊢
  clear hu hwr
  go_wp2_with fail
  -- THE REGION THAT DRAWS ITS ORDER, BY ONE LEXICAL WALK OVER GENERIC VALUES (written by relgen.py)
  refine wp_region_tabL ((fun _ _ v => v = .pointer (some ⟨g, 0, none⟩)) ::
    (fun _ _ v => v = .pointer (some ⟨g, 0, none⟩)) ::
    (fun _ _ v => v = .pointer (some ⟨g, 0, none⟩)) ::
    (fun _ _ v => v = .pointer (some ⟨bx, 1, none⟩)) ::
    (fun _ _ v => v = .string name) ::
    (fun _ _ v => v = .pointer (some ⟨bx, 2, none⟩)) ::
    (fun _ _ v => v = .string text) ::
    (fun L w v => Till 8 (fun w v => NewCells wr.heap.size 9 #[.string name, .string text] 2 w v) L w v) ::
    (fun _ _ _ => True) :: [])
    (⟨[(3, none)], 0, [8]⟩ :: ⟨[(14, some 0)], 0, [8]⟩ :: ⟨[(15, some 1)], 0, [8]⟩ :: ⟨[(1, none)], 0, [8]⟩ :: ⟨[(17, some 3)], 0, [8]⟩ :: ⟨[(1, none)], 0, [8]⟩ :: ⟨[(19, some 5)], 0, [8]⟩ :: ⟨[(18, some 4), (20, some 6)], 0, [8]⟩ :: ⟨[(16, some 2), (21, some 7)], 0, []⟩ :: [])
    (none :: none :: none :: none :: none :: none :: none :: none :: none :: none :: none :: none :: none :: none :: some 0 :: some 1 :: some 2 :: some 3 :: some 4 :: some 5 :: some 6 :: some 7 :: some 8 :: [])
    (fun L w' => PutAt wr W g 30 u (cur ++ (txtE name ++ txtE text)) (L 8) w') (fun i w w' => i ≠ 8 → Below w.heap.size w w') ?mixK3 ?okK3 ?tabK3 ?frK3 ?inK3 ?keptK3 ?startK3 ?eachK3 ?finK3
  case mixK3 => kernel_rfl
  case okK3 => kernel_rfl
  case tabK3 => kernel_rfl
  case frK3 => kernel_rfl
  case inK3 => rfl
  case keptK3 => exact ⟨fun _ _ _ _ _ _ _ _ _ _ _ h => h, fun _ _ _ _ _ _ _ _ _ _ _ h => h, fun _ _ _ _ _ _ _ _ _ _ _ h => h, fun _ _ _ _ _ _ _ _ _ _ _ h => h, fun _ _ _ _ _ _ _ _ _ _ _ h => h, fun _ _ _ _ _ _ _ _ _ _ _ h => h, fun _ _ _ _ _ _ _ _ _ _ _ h => h, fun _ _ _ _ _ _ _ _ _ _ hG h => Till.keep h fun hne h => h.keep (hG hne), fun _ _ _ _ _ _ _ _ _ _ _ h => h, trivial⟩
  case startK3 => exact ⟨fun _ => (Below.refl _ _).drew, fun h => by simp at h⟩
  case eachK3 =>
    refine ⟨?_, ?_, ?_, ?_, ?_, ?_, ?_, ?_, ?_, trivial⟩
    -- 0: slot 14 := move t3
    · intro w L f hC hLi hLd hLn hF
      obtain ⟨d3, _⟩ := hF
      have d3 : f 3 = .pointer (some ⟨g, 0, none⟩) := d3
      refine Step2.live rfl ?_
      exact relUpon_value (v := f 3) rfl (hC) (fun _ => Below.refl _ _) d3
    -- 1: slot 15 := nilCheck t14
    · intro w L f hC hLi hLd hLn hF
      obtain ⟨d14, _⟩ := hF
      have d14 : f 14 = .pointer (some ⟨g, 0, none⟩) := d14
      refine Step2.live rfl ?_
      have ev : ∀ t, evalOf f (.tmp t) = f t := fun _ => rfl
      have ec : ∀ c, evalOf f (.const c) = c := fun _ => rfl
      have ef : ∀ g, evalOf f (.func g) = .func (.func g) #[] #[] := fun _ => rfl
      refine relUpon_value ?_ hC (fun _ => Below.refl _ _) rfl
      go_simp
    -- 2: slot 16 := fieldAddr 30 t15 0
    · intro w L f hC hLi hLd hLn hF
      obtain ⟨d15, _⟩ := hF
      have d15 : f 15 = .pointer (some ⟨g, 0, none⟩) := d15
      refine Step2.live rfl ?_
      have ev : ∀ t, evalOf f (.tmp t) = f t := fun _ => rfl
      have ec : ∀ c, evalOf f (.const c) = c := fun _ => rfl
      have ef : ∀ g, evalOf f (.func g) = .func (.func g) #[] #[] := fun _ => rfl
      refine relUpon_value ?_ hC (fun _ => Below.refl _ _) rfl
      go_simp
    -- 3: slot 17 := fieldAddr 78 t1 1
    · intro w L f hC hLi hLd hLn hF
      obtain ⟨d1, _⟩ := hF
      have d1 : f 1 = .pointer (some ⟨bx, 0, none⟩) := d1
      refine Step2.live rfl ?_
      have ev : ∀ t, evalOf f (.tmp t) = f t := fun _ => rfl
      have ec : ∀ c, evalOf f (.const c) = c := fun _ => rfl
      have ef : ∀ g, evalOf f (.func g) = .func (.func g) #[] #[] := fun _ => rfl
      refine relUpon_value ?_ hC (fun _ => Below.refl _ _) rfl
      go_simp
    -- 4: slot 18 := load 9 t17
    · intro w L f hC hLi hLd hLn hF
      obtain ⟨d17, _⟩ := hF
      have d17 : f 17 = .pointer (some ⟨bx, 1, none⟩) := d17
      refine Step2.live rfl ?_
      have hcell0 := ((hC.m (hLn 8 (by simp))).cell f1.out.1).trans f1.out.2
      have ev : ∀ t, evalOf f (.tmp t) = f t := fun _ => rfl
      have ec : ∀ c, evalOf f (.const c) = c := fun _ => rfl
      have ef : ∀ g, evalOf f (.func g) = .func (.func g) #[] #[] := fun _ => rfl
      refine relUpon_value ?_ hC (fun _ => Below.refl _ _) rfl
      go_simp
    -- 5: slot 19 := fieldAddr 78 t1 2
    · intro w L f hC hLi hLd hLn hF
      obtain ⟨d1, _⟩ := hF
      have d1 : f 1 = .pointer (some ⟨bx, 0, none⟩) := d1
      refine Step2.live rfl ?_
      have ev : ∀ t, evalOf f (.tmp t) = f t := fun _ => rfl
      have ec : ∀ c, evalOf f (.const c) = c := fun _ => rfl
      have ef : ∀ g, evalOf f (.func g) = .func (.func g) #[] #[] := fun _ => rfl
      refine relUpon_value ?_ hC (fun _ => Below.refl _ _) rfl
      go_simp
    -- 6: slot 20 := load 9 t19
    · intro w L f hC hLi hLd hLn hF
      obtain ⟨d19, _⟩ := hF
      have d19 : f 19 = .pointer (some ⟨bx, 2, none⟩) := d19
      refine Step2.live rfl ?_
      have hcell0 := ((hC.m (hLn 8 (by simp))).cell f2.out.1).trans f2.out.2
      have ev : ∀ t, evalOf f (.tmp t) = f t := fun _ => rfl
      have ec : ∀ c, evalOf f (.const c) = c := fun _ => rfl
      have ef : ∀ g, evalOf f (.func g) = .func (.func g) #[] #[] := fun _ => rfl
      refine relUpon_value ?_ hC (fun _ => Below.refl _ _) rfl
      go_simp
    -- 7: slot 21 := buildSlice 40 2 #[(0, t18), (1, t20)]
    · intro w L f hC hLi hLd hLn hF
      obtain ⟨d18, d20, _⟩ := hF
      have d18 : f 18 = .string name := d18
      have d20 : f 20 = .string text := d20
      refine Step2.live rfl ?_
      have ev : ∀ t, evalOf f (.tmp t) = f t := fun _ => rfl
      have ec : ∀ c, evalOf f (.const c) = c := fun _ => rfl
      have ef : ∀ g, evalOf f (.func g) = .func (.func g) #[] #[] := fun _ => rfl
      refine relUpon_value (w' := w.alloc (.cells #[.string name, .string text] 9)) (v := .slice (some ⟨w.heap.size, 0, none⟩) 2 2) (by go_simp) (hC.alloc (hLn 8 (by simp)) _) (fun _ => below_new _ _) (fun _ => ⟨_, rfl, (hC.m (hLn 8 (by simp))).size, Holds.new _ _ _⟩)
    -- 8: slot 22 := call { value (Operand.func 22), args := #[t16, t21], argTypes := #[28, 40] }
    · intro w L f hC hLi hLd hLn hF
      obtain ⟨d16, d21, _⟩ := hF
      have d16 : f 16 = .pointer (some ⟨g, 0, none⟩) := d16
      refine Step2.live rfl ?_
      obtain ⟨kn, e0, hkn, hrow⟩ := d21 hLi
      have ev : ∀ t, evalOf f (.tmp t) = f t := fun _ => rfl
      have ec : ∀ c, evalOf f (.const c) = c := fun _ => rfl
      have ef : ∀ g, evalOf f (.func g) = .func (.func g) #[] #[] := fun _ => rfl
      refine relUpon_call (f := 22) (args := #[.pointer (some ⟨g, 0, none⟩), .slice (some ⟨kn, 0, none⟩) 2 2]) (w := w) (by go_simp) (text_puts (l2 := cur ++ (txtE name ++ txtE text)) (hC.m hLi) hw.out hB.out [name, text] 2 20000 hrow hkn rfl rfl (by simpa using ⟨hnm.out, htx.out⟩) (by omega) (by have := hcl.out; omega) (by simp)) ?_
      intro e w1 hw1
      exact ⟨_, hw1.1, ⟨fun e => by simp at e, fun _ => by have := hw1.1; subst this; exact hw1⟩, fun h => absurd rfl h, trivial⟩
  intro x w' hC hV

  have hw1 := hC.d rfl
  clear hV hC
  simp only [framed]
  have hbo := Lib.hid (hw1.below hw.out hB.out)
  obtain ⟨-, u3, hu3, _, _⟩ := hw1
  have hbxc := Lib.hid (hbxb.out.below hbo.out hgx)
  have hBb3 := Lib.hid (hBb2.out.trans (hbo.out.mono (by omega)))
  obtain ⟨wr3, hwr3⟩ : ∃ x, x = w' := ⟨_, rfl⟩
  rw [← hwr3] at hu3 hbxc hBb3 ⊢
  have hB3 : W ≤ wr3.heap.size := by rw [hwr3]; exact Nat.le_trans hB.out hbo.out.size
  clear hwr3 hbo hw hB hbxb hBb2 f1 f2
  have hw := Lib.hid hu3
  have hB := Lib.hid hB3
  clear hu3 hB3
  have f3 := Lib.hid (hbxc.out.fact 3 rfl)
  have hcl2 : Hid ((cur ++ (txtE name ++ txtE text)).length ≤ 41000) := Lib.hid (by have := hcl.out; have := txtE_len 20000 name hnm.out (by omega); have := txtE_len 20000 text htx.out (by omega); simp; omega)
  generalize cur ++ (txtE name ++ txtE text) = cur2 at hw hcl2 hrq
  obtain ⟨cur, hcur⟩ : ∃ x, x = cur2 := ⟨_, rfl⟩
  rw [← hcur] at hw hcl2 hrq
  have hcl := hcl2
  obtain ⟨u, hu⟩ : ∃ u : Value, u = u3 := ⟨_, rfl⟩
  rw [← hu] at hw
  obtain ⟨wr, hwr⟩ : ∃ x, x = wr3 := ⟨_, rfl⟩
  rw [← hwr] at hw hB hbxc hBb3 f3 ⊢
  clear hu hwr hcur
  go_wp2_with fail
  -- THE REGION THAT DRAWS ITS ORDER, BY ONE LEXICAL WALK OVER GENERIC VALUES (written by relgen.py)
  refine wp_region_tabL ((fun _ _ v => v = .pointer (some ⟨g, 0, none⟩)) ::
    (fun _ _ v => v = .pointer (some ⟨g, 0, none⟩)) ::
    (fun _ _ v => v = .pointer (some ⟨g, 0, none⟩)) ::
    (fun _ _ v => v = .pointer (some ⟨bx, 3, none⟩)) ::
    (fun _ _ v => v = .int .i64 n) ::
    (fun L w v => Till 6 (fun w v => NewCells wr.heap.size 2 #[.int .i64 n] 1 w v) L w v) ::
    (fun _ _ _ => True) :: [])
    (⟨[(3, none)], 0, [6]⟩ :: ⟨[(23, some 0)], 0, [6]⟩ :: ⟨[(24, some 1)], 0, [6]⟩ :: ⟨[(1, none)], 0, [6]⟩ :: ⟨[(26, some 3)], 0, [6]⟩ :: ⟨[(27, some 4)], 0, [6]⟩ :: ⟨[(25, some 2), (28, some 5)], 0, []⟩ :: [])
    (none :: none :: none :: none :: none :: none :: none :: none :: none :: none :: none :: none :: none :: none :: none :: none :: none :: none :: none :: none :: none :: none :: none :: some 0 :: some 1 :: some 2 :: some 3 :: some 4 :: some 5 :: some 6 :: [])
    (fun L w' => PutAt wr W g 30 u (cur ++ intE n) (L 6) w') (fun i w w' => i ≠ 6 → Below w.heap.size w w') ?mixK4 ?okK4 ?tabK4 ?frK4 ?inK4 ?keptK4 ?startK4 ?eachK4 ?finK4
  case mixK4 => kernel_rfl
  case okK4 => kernel_rfl
  case tabK4 => kernel_rfl
  case frK4 => kernel_rfl
  case inK4 => rfl
  case keptK4 => exact ⟨fun _ _ _ _ _ _ _ _ _ _ _ h => h, fun _ _ _ _ _ _ _ _ _ _ _ h => h, fun _ _ _ _ _ _ _ _ _ _ _ h => h, fun _ _ _ _ _ _ _ _ _ _ _ h => h, fun _ _ _ _ _ _ _ _ _ _ _ h => h, fun _ _ _ _ _ _ _ _ _ _ hG h => Till.keep h fun hne h => h.keep (hG hne), fun _ _ _ _ _ _ _ _ _ _ _ h => h, trivial⟩
  case startK4 => exact ⟨fun _ => (Below.refl _ _).drew, fun h => by simp at h⟩
  case eachK4 =>
    refine ⟨?_, ?_, ?_, ?_, ?_, ?_, ?_, trivial⟩
    -- 0: slot 23 := move t3
    · intro w L f hC hLi hLd hLn hF
      obtain ⟨d3, _⟩ := hF
      have d3 : f 3 = .pointer (some ⟨g, 0, none⟩) := d3
      refine Step2.live rfl ?_
      exact relUpon_value (v := f 3) rfl (hC) (fun _ => Below.refl _ _) d3
    -- 1: slot 24 := nilCheck t23
    · intro w L f hC hLi hLd hLn hF
      obtain ⟨d23, _⟩ := hF
      have d23 : f 23 = .pointer (some ⟨g, 0, none⟩) := d23
      refine Step2.live rfl ?_
      have ev : ∀ t, evalOf f (.tmp t) = f t := fun _ => rfl
      have ec : ∀ c, evalOf f (.const c) = c := fun _ => rfl
      have ef : ∀ g, evalOf f (.func g) = .func (.func g) #[] #[] := fun _ => rfl
      refine relUpon_value ?_ hC (fun _ => Below.refl _ _) rfl
      go_simp
    -- 2: slot 25 := fieldAddr 30 t24 0
    · intro w L f hC hLi hLd hLn hF
      obtain ⟨d24, _⟩ := hF
      have d24 : f 24 = .pointer (some ⟨g, 0, none⟩) := d24
      refine Step2.live rfl ?_
      have ev : ∀ t, evalOf f (.tmp t) = f t := fun _ => rfl
      have ec : ∀ c, evalOf f (.const c) = c := fun _ => rfl
      have ef : ∀ g, evalOf f (.func g) = .func (.func g) #[] #[] := fun _ => rfl
      refine relUpon_value ?_ hC (fun _ => Below.refl _ _) rfl
      go_simp
    -- 3: slot 26 := fieldAddr 78 t1 3
    · intro w L f hC hLi hLd hLn hF
      obtain ⟨d1, _⟩ := hF
      have d1 : f 1 = .pointer (some ⟨bx, 0, none⟩) := d1
      refine Step2.live rfl ?_
      have ev : ∀ t, evalOf f (.tmp t) = f t := fun _ => rfl
      have ec : ∀ c, evalOf f (.const c) = c := fun _ => rfl
      have ef : ∀ g, evalOf f (.func g) = .func (.func g) #[] #[] := fun _ => rfl
      refine relUpon_value ?_ hC (fun _ => Below.refl _ _) rfl
      go_simp
    -- 4: slot 27 := load 3 t26
    · intro w L f hC hLi hLd hLn hF
      obtain ⟨d26, _⟩ := hF
      have d26 : f 26 = .pointer (some ⟨bx, 3, none⟩) := d26
      refine Step2.live rfl ?_
      have hcell0 := ((hC.m (hLn 6 (by simp))).cell f3.out.1).trans f3.out.2
      have ev : ∀ t, evalOf f (.tmp t) = f t := fun _ => rfl
      have ec : ∀ c, evalOf f (.const c) = c := fun _ => rfl
      have ef : ∀ g, evalOf f (.func g) = .func (.func g) #[] #[] := fun _ => rfl
      refine relUpon_value ?_ hC (fun _ => Below.refl _ _) rfl
      go_simp
    -- 5: slot 28 := buildSlice 48 1 #[(0, t27)]
    · intro w L f hC hLi hLd hLn hF
      obtain ⟨d27, _⟩ := hF
      have d27 : f 27 = .int .i64 n := d27
      refine Step2.live rfl ?_
      have ev : ∀ t, evalOf f (.tmp t) = f t := fun _ => rfl
      have ec : ∀ c, evalOf f (.const c) = c := fun _ => rfl
      have ef : ∀ g, evalOf f (.func g) = .func (.func g) #[] #[] := fun _ => rfl
      refine relUpon_value (w' := w.alloc (.cells #[.int .i64 n] 2)) (v := .slice (some ⟨w.heap.size, 0, none⟩) 1 1) (by go_simp) (hC.alloc (hLn 6 (by simp)) _) (fun _ => below_new _ _) (fun _ => ⟨_, rfl, (hC.m (hLn 6 (by simp))).size, Holds.new _ _ _⟩)
    -- 6: slot 29 := call { value (Operand.func 16), args := #[t25, t28], argTypes := #[28, 48] }
    · intro w L f hC hLi hLd hLn hF
      obtain ⟨d25, d28, _⟩ := hF
      have d25 : f 25 = .pointer (some ⟨g, 0, none⟩) := d25
      refine Step2.live rfl ?_
      obtain ⟨kn, e0, hkn, hrow⟩ := d28 hLi
      have ev : ∀ t, evalOf f (.tmp t) = f t := fun _ => rfl
      have ec : ∀ c, evalOf f (.const c) = c := fun _ => rfl
      have ef : ∀ g, evalOf f (.func g) = .func (.func g) #[] #[] := fun _ => rfl
      refine relUpon_call (f := 16) (args := #[.pointer (some ⟨g, 0, none⟩), .slice (some ⟨kn, 0, none⟩) 1 1]) (w := w) (by go_simp) (int_puts (l2 := cur ++ intE n) (hC.m hLi) hw.out hB.out [n] 1 hrow hkn rfl rfl (by simpa [i64ok] using hn.out) (by have := hcl.out; omega) (by simp)) ?_
      intro e w1 hw1
      exact ⟨_, hw1.1, ⟨fun e => by simp at e, fun _ => by have := hw1.1; subst this; exact hw1⟩, fun h => absurd rfl h, trivial⟩
  intro x w' hC hV

  have hw1 := hC.d rfl
  clear hV hC
  simp only [framed]
  have hbo := Lib.hid (hw1.below hw.out hB.out)
  obtain ⟨-, u5, hu5, _, _⟩ := hw1
  have hBb4 := Lib.hid (hBb3.out.trans (hbo.out.mono (by omega)))
  have hu5 := Lib.hid hu5
  have hcl3 : Hid ((cur ++ intE n).length ≤ 100000000000) := Lib.hid (by have := hcl.out; have := intE_len hn.out; simp; omega)
  generalize cur ++ intE n = cur3 at hu5 hcl3 hrq
  clear hbo hw hB hbxc hBb3 f3
  go_wp2_with fail
  refine (bytes_any w' W g _ u5 cur3 hu5.out hcl3.out).mono ?_
  rintro e w9 ⟨A, c, rfl, h1, h2, h3, h4⟩
  go_wp2_with fail
  go_ret
  rw [hrq.out]
  exact ⟨A, c, rfl, h1, h4, hBb4.out.trans (h2.mono hBb4.out.size)⟩
end Go.Proofs.Ytimhghmnnibajaa
