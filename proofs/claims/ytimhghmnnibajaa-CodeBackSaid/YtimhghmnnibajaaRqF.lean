/-
  The walk of req.ReplyBytes.
-/
import Derived.Test.YtimhghmnnibajaaRqE
namespace Go.Proofs.Ytimhghmnnibajaa
open Go.RowKit

set_option maxRecDepth 100000 in
set_option maxHeartbeats 8000000 in
theorem bytesP_any (w0 : World) (kind err pos : Int) (A1 : Option Addr) (n1 c1 : Nat) (al : List Al) (text : ByteArray) (n : Int) (hk : i64ok kind) (herr : i64ok err) (hpos : i64ok pos) (hal : al.length = n1) (hn1 : n1 ≤ 1000) (halo : ∀ a ∈ al, a.ok) (hrw : Row w0 w0.heap.size A1 (al.flatMap Al.cells)) (htx : text.size ≤ 20000) (hn : i64ok n) :
    Calls Try.prog 51 #[.agg #[.int .i64 kind, .int .i64 err, .int .i64 pos, .slice A1 n1 c1, .string text, .int .i64 n]] w0 fun e w' => ∃ A c, e = .returned (.slice A (rpE ⟨kind, err, pos, al, text, n⟩).length c) ∧ Bytes w' w'.heap.size A (rpE ⟨kind, err, pos, al, text, n⟩) ∧ (rpE ⟨kind, err, pos, al, text, n⟩).length ≤ c ∧ Below w0.heap.size w0 w' := by
  have herr := Lib.hid herr
  rename_i h1
  have hpos := Lib.hid hpos
  rename_i h2
  have hal := Lib.hid hal
  rename_i h3
  have halo := Lib.hid halo
  rename_i h4
  have htx := Lib.hid htx
  rename_i h5
  have hn := Lib.hid hn
  rename_i h6
  have hrw0 := Lib.hid hrw
  have hn1b : n1 ≤ 1000 := hn1
  have hn1 := Lib.hid hn1
  rename_i h7
  clear h1 h2 h3 h4 h5 h6 h7 hrw
  obtain ⟨kk, hkke⟩ : ∃ x : Nat, x = (max 0 kind).toNat := ⟨_, rfl⟩
  have hkv : Hid (max 0 kind = (kk : Int)) := Lib.hid (by omega)
  have hkk : Hid (kk < 18446744073709551616) := Lib.hid (by unfold i64ok at hk; omega)
  have hrq : Hid (rpE ⟨kind, err, pos, al, text, n⟩ = [] ++ numE kk ++ (intE err ++ intE pos) ++ numE n1 ++ al.flatMap alE ++ txtE text ++ intE n) := Lib.hid (by unfold rpE alsE; rw [← hkke, hal.out]; simp)
  clear hkke
  have hb1 := Lib.hid (below_new w0 (.cells #[.int .i64 kind, .int .i64 err, .int .i64 pos, .slice A1 n1 c1, .string text, .int .i64 n] 86))
  have hbx := Lib.hid (Holds.new w0 86 #[.int .i64 kind, .int .i64 err, .int .i64 pos, .slice A1 n1 c1, .string text, .int .i64 n])
  go_enter Try.func51, Try.ntmps51
  go_wp2_with fail
  refine (newWriter_any _).mono ?_
  rintro e w2 ⟨rfl, rfl⟩
  have hb2 := below_new (w0.alloc (.cells #[.int .i64 kind, .int .i64 err, .int .i64 pos, .slice A1 n1 c1, .string text, .int .i64 n] 86)) (.cells #[.slice none 0 0] 30)
  have hw : Hid (Wrt ((w0.alloc (.cells #[.int .i64 kind, .int .i64 err, .int .i64 pos, .slice A1 n1 c1, .string text, .int .i64 n] 86)).alloc (.cells #[.slice none 0 0] 30)) (w0.alloc (.cells #[.int .i64 kind, .int .i64 err, .int .i64 pos, .slice A1 n1 c1, .string text, .int .i64 n] 86)).heap.size (w0.alloc (.cells #[.int .i64 kind, .int .i64 err, .int .i64 pos, .slice A1 n1 c1, .string text, .int .i64 n] 86)).heap.size 30 (.slice none 0 0) []) := Lib.hid (newWriter_wrt _)
  have hbx2 := Lib.hid (hbx.out.below hb2 hbx.out.lt)
  have hBb := Lib.hid (hb1.out.trans (hb2.mono hb1.out.size))
  have hB0 := Lib.hid hb2.size
  clear hb2 hb1 hbx
  go_wp2_with fail
  generalize (w0.alloc (.cells #[.int .i64 kind, .int .i64 err, .int .i64 pos, .slice A1 n1 c1, .string text, .int .i64 n] 86)).alloc (.cells #[.slice none 0 0] 30) = wr0 at hw hbx2 hBb hB0 ⊢
  obtain ⟨bx, hbxe⟩ : ∃ x, w0.heap.size = x := ⟨_, rfl⟩
  have hge : (w0.alloc (.cells #[.int .i64 kind, .int .i64 err, .int .i64 pos, .slice A1 n1 c1, .string text, .int .i64 n] 86)).heap.size = bx + 1 := by simp [hbxe]
  rw [hge] at hw hB0
  have hwx : w0.heap.size ≤ bx := by omega
  rw [hbxe] at hbx2 ⊢
  clear hbxe hge
  obtain ⟨g, hg⟩ : ∃ x, bx + 1 = x := ⟨_, rfl⟩
  obtain ⟨W, hW⟩ : ∃ x, x = g := ⟨_, rfl⟩
  rw [hg] at hw hB0 ⊢
  have hw : Hid (Wrt wr0 W g 30 (.slice none 0 0) []) := Lib.hid (by rw [hW]; exact hw.out)
  have hB0 : Hid (W ≤ wr0.heap.size) := Lib.hid (by rw [hW]; exact hB0.out)
  obtain ⟨u, hu⟩ : ∃ u : Value, u = .slice none 0 0 := ⟨_, rfl⟩
  rw [← hu] at hw
  have hgx : bx < W := by omega
  clear hu hg hW
  have hrow0 : Hid (Row wr0 W A1 (al.flatMap Al.cells)) := Lib.hid ((Row.below hrw0.out hBb.out).more (by omega))
  have hbw : Hid (Below W wr0 wr0) := Lib.hid (Below.refl _ _)
  have hwW : w0.heap.size ≤ W := by omega
  clear hrw0
  have hcl : Hid (([] : List UInt8).length ≤ 0) := Lib.hid (by simp)
  obtain ⟨wr, hwr⟩ : ∃ x, x = wr0 := ⟨_, rfl⟩
  have hB : Hid (W ≤ wr.heap.size) := Lib.hid (by rw [hwr]; exact hB0.out)
  have hw : Hid (Wrt wr W g 30 u []) := Lib.hid (by rw [hwr]; exact hw.out)
  have hbw : Hid (Below W wr0 wr) := Lib.hid (by rw [hwr]; exact hbw.out)
  rw [← hwr]
  clear hwr
  have f0 := Lib.hid ((hbx2.out.below hbw.out hgx).fact 0 rfl)
  -- THE REGION THAT DRAWS ITS ORDER, BY ONE LEXICAL WALK OVER GENERIC VALUES (written by relgen.py)
  refine wp_region_tabL ((fun _ _ v => v = .pointer (some ⟨g, 0, none⟩)) ::
    (fun _ _ v => v = .pointer (some ⟨g, 0, none⟩)) ::
    (fun _ _ v => v = .pointer (some ⟨g, 0, none⟩)) ::
    (fun _ _ v => v = .pointer (some ⟨bx, 0, none⟩)) ::
    (fun _ _ v => v = .int .i64 kind) ::
    (fun _ _ v => v = .int .i64 (max 0 kind)) ::
    (fun _ _ v => v = .int .u64 (kk : Nat)) ::
    (fun L w v => Till 8 (fun w v => NewCells wr.heap.size 37 #[.int .u64 (kk : Nat)] 1 w v) L w v) ::
    (fun _ _ _ => True) :: [])
    (⟨[(3, none)], 0, [8]⟩ :: ⟨[(7, some 0)], 0, [8]⟩ :: ⟨[(8, some 1)], 0, [8]⟩ :: ⟨[(1, none)], 0, [8]⟩ :: ⟨[(10, some 3)], 0, [8]⟩ :: ⟨[(11, some 4)], 0, [8]⟩ :: ⟨[(12, some 5)], 0, [8]⟩ :: ⟨[(13, some 6)], 0, [8]⟩ :: ⟨[(9, some 2), (14, some 7)], 0, []⟩ :: [])
    (none :: none :: none :: none :: none :: none :: none :: some 0 :: some 1 :: some 2 :: some 3 :: some 4 :: some 5 :: some 6 :: some 7 :: some 8 :: [])
    (fun L w' => PutAt wr W g 30 u ([] ++ numE kk) (L 8) w') (fun i w w' => i ≠ 8 → Below w.heap.size w w') ?mixK2 ?okK2 ?tabK2 ?frK2 ?inK2 ?keptK2 ?startK2 ?eachK2 ?finK2
  case mixK2 => kernel_rfl
  case okK2 => kernel_rfl
  case tabK2 => kernel_rfl
  case frK2 => kernel_rfl
  case inK2 => rfl
  case keptK2 => exact ⟨fun _ _ _ _ _ _ _ _ _ _ _ h => h, fun _ _ _ _ _ _ _ _ _ _ _ h => h, fun _ _ _ _ _ _ _ _ _ _ _ h => h, fun _ _ _ _ _ _ _ _ _ _ _ h => h, fun _ _ _ _ _ _ _ _ _ _ _ h => h, fun _ _ _ _ _ _ _ _ _ _ _ h => h, fun _ _ _ _ _ _ _ _ _ _ _ h => h, fun _ _ _ _ _ _ _ _ _ _ hG h => Till.keep h fun hne h => h.keep (hG hne), fun _ _ _ _ _ _ _ _ _ _ _ h => h, trivial⟩
  case startK2 => exact ⟨fun _ => (Below.refl _ _).drew, fun h => by simp at h⟩
  case eachK2 =>
    refine ⟨?_, ?_, ?_, ?_, ?_, ?_, ?_, ?_, ?_, trivial⟩
    -- 0: slot 7 := move t3
    · intro w L f hC hLi hLd hLn hF
      obtain ⟨d3, _⟩ := hF
      have d3 : f 3 = .pointer (some ⟨g, 0, none⟩) := d3
      refine Step2.live rfl ?_
      exact relUpon_value (v := f 3) rfl (hC) (fun _ => Below.refl _ _) d3
    -- 1: slot 8 := nilCheck t7
    · intro w L f hC hLi hLd hLn hF
      obtain ⟨d7, _⟩ := hF
      have d7 : f 7 = .pointer (some ⟨g, 0, none⟩) := d7
      refine Step2.live rfl ?_
      have ev : ∀ t, evalOf f (.tmp t) = f t := fun _ => rfl
      have ec : ∀ c, evalOf f (.const c) = c := fun _ => rfl
      have ef : ∀ g, evalOf f (.func g) = .func (.func g) #[] #[] := fun _ => rfl
      refine relUpon_value ?_ hC (fun _ => Below.refl _ _) rfl
      go_simp
    -- 2: slot 9 := fieldAddr 30 t8 0
    · intro w L f hC hLi hLd hLn hF
      obtain ⟨d8, _⟩ := hF
      have d8 : f 8 = .pointer (some ⟨g, 0, none⟩) := d8
      refine Step2.live rfl ?_
      have ev : ∀ t, evalOf f (.tmp t) = f t := fun _ => rfl
      have ec : ∀ c, evalOf f (.const c) = c := fun _ => rfl
      have ef : ∀ g, evalOf f (.func g) = .func (.func g) #[] #[] := fun _ => rfl
      refine relUpon_value ?_ hC (fun _ => Below.refl _ _) rfl
      go_simp
    -- 3: slot 10 := fieldAddr 86 t1 0
    · intro w L f hC hLi hLd hLn hF
      obtain ⟨d1, _⟩ := hF
      have d1 : f 1 = .pointer (some ⟨bx, 0, none⟩) := d1
      refine Step2.live rfl ?_
      have ev : ∀ t, evalOf f (.tmp t) = f t := fun _ => rfl
      have ec : ∀ c, evalOf f (.const c) = c := fun _ => rfl
      have ef : ∀ g, evalOf f (.func g) = .func (.func g) #[] #[] := fun _ => rfl
      refine relUpon_value ?_ hC (fun _ => Below.refl _ _) rfl
      go_simp
    -- 4: slot 11 := load 3 t10
    · intro w L f hC hLi hLd hLn hF
      obtain ⟨d10, _⟩ := hF
      have d10 : f 10 = .pointer (some ⟨bx, 0, none⟩) := d10
      refine Step2.live rfl ?_
      have hcell0 := ((hC.m (hLn 8 (by simp))).cell f0.out.1).trans f0.out.2
      have ev : ∀ t, evalOf f (.tmp t) = f t := fun _ => rfl
      have ec : ∀ c, evalOf f (.const c) = c := fun _ => rfl
      have ef : ∀ g, evalOf f (.func g) = .func (.func g) #[] #[] := fun _ => rfl
      refine relUpon_value ?_ hC (fun _ => Below.refl _ _) rfl
      go_simp
    -- 5: slot 12 := call { builtin max, args := #[const (0:i64), t11], argTypes := #[3, 3] }
    · intro w L f hC hLi hLd hLn hF
      obtain ⟨d11, _⟩ := hF
      have d11 : f 11 = .int .i64 kind := d11
      refine Step2.live rfl ?_
      have ev : ∀ t, evalOf f (.tmp t) = f t := fun _ => rfl
      have ec : ∀ c, evalOf f (.const c) = c := fun _ => rfl
      have ef : ∀ g, evalOf f (.func g) = .func (.func g) #[] #[] := fun _ => rfl
      refine relUpon_value ?_ hC (fun _ => Below.refl _ _) rfl
      go_simp
      split <;> omega
    -- 6: slot 13 := convert 3 37 t12
    · intro w L f hC hLi hLd hLn hF
      obtain ⟨d12, _⟩ := hF
      have d12 : f 12 = .int .i64 (max 0 kind) := d12
      refine Step2.live rfl ?_
      have ev : ∀ t, evalOf f (.tmp t) = f t := fun _ => rfl
      have ec : ∀ c, evalOf f (.const c) = c := fun _ => rfl
      have ef : ∀ g, evalOf f (.func g) = .func (.func g) #[] #[] := fun _ => rfl
      refine relUpon_value ?_ hC (fun _ => Below.refl _ _) rfl
      go_simp
      rw [hkv.out]
      exact IntWalk.u64_in _ (by have := hkk.out; omega)
    -- 7: slot 14 := buildSlice 47 1 #[(0, t13)]
    · intro w L f hC hLi hLd hLn hF
      obtain ⟨d13, _⟩ := hF
      have d13 : f 13 = .int .u64 (kk : Nat) := d13
      refine Step2.live rfl ?_
      have ev : ∀ t, evalOf f (.tmp t) = f t := fun _ => rfl
      have ec : ∀ c, evalOf f (.const c) = c := fun _ => rfl
      have ef : ∀ g, evalOf f (.func g) = .func (.func g) #[] #[] := fun _ => rfl
      refine relUpon_value (w' := w.alloc (.cells #[.int .u64 (kk : Nat)] 37)) (v := .slice (some ⟨w.heap.size, 0, none⟩) 1 1) (by go_simp) (hC.alloc (hLn 8 (by simp)) _) (fun _ => below_new _ _) (fun _ => ⟨_, rfl, (hC.m (hLn 8 (by simp))).size, Holds.new _ _ _⟩)
    -- 8: slot 15 := call { value (Operand.func 27), args := #[t9, t14], argTypes := #[28, 47] }
    · intro w L f hC hLi hLd hLn hF
      obtain ⟨d9, d14, _⟩ := hF
      have d9 : f 9 = .pointer (some ⟨g, 0, none⟩) := d9
      refine Step2.live rfl ?_
      obtain ⟨kn, e0, hkn, hrow⟩ := d14 hLi
      have ev : ∀ t, evalOf f (.tmp t) = f t := fun _ => rfl
      have ec : ∀ c, evalOf f (.const c) = c := fun _ => rfl
      have ef : ∀ g, evalOf f (.func g) = .func (.func g) #[] #[] := fun _ => rfl
      refine relUpon_call (f := 27) (args := #[.pointer (some ⟨g, 0, none⟩), .slice (some ⟨kn, 0, none⟩) 1 1]) (w := w) (by go_simp) (num_puts (l2 := [] ++ numE kk) (hC.m hLi) hw.out hB.out [kk] 1 hrow hkn rfl rfl (by simpa using hkk.out) (by simp) (by simp)) ?_
      intro e w1 hw1
      exact ⟨_, hw1.1, ⟨fun e => by simp at e, fun _ => by have := hw1.1; subst this; exact hw1⟩, fun h => absurd rfl h, trivial⟩
  intro x w' hC hV

  have hw1 := hC.d rfl
  clear hV hC
  simp only [framed]
  have hbo := hw1.below hw.out hB.out
  obtain ⟨-, ua, hua, _, _⟩ := hw1
  have hbwa := hbw.out.trans hbo
  have hBa := Nat.le_trans hB.out hbo.size
  have hcla : Hid ((([] ++ numE kk : List UInt8)).length ≤ 100) := Lib.hid (by have := numE_len10 kk hkk.out; simp; omega)
  obtain ⟨wr, hwr⟩ : ∃ x, x = w' := ⟨_, rfl⟩
  rw [← hwr] at hua hbwa hBa ⊢
  clear hwr hbo hw hbw hB hcl f0
  have hw := Lib.hid hua
  have hbw := Lib.hid hbwa
  have hB := Lib.hid hBa
  have hcl := hcla
  clear hua hbwa hBa hcla
  generalize ([] ++ numE kk : List UInt8) = cur at hw hcl hrq
  obtain ⟨u, hu⟩ : ∃ x : Value, x = ua := ⟨_, rfl⟩
  rw [← hu] at hw
  clear hu
  go_wp2_with fail
  have f1 := Lib.hid ((hbx2.out.below hbw.out hgx).fact 1 rfl)
  have f2 := Lib.hid ((hbx2.out.below hbw.out hgx).fact 2 rfl)
  -- THE REGION THAT DRAWS ITS ORDER, BY ONE LEXICAL WALK OVER GENERIC VALUES (written by relgen.py)
  refine wp_region_tabL ((fun _ _ v => v = .pointer (some ⟨g, 0, none⟩)) ::
    (fun _ _ v => v = .pointer (some ⟨g, 0, none⟩)) ::
    (fun _ _ v => v = .pointer (some ⟨g, 0, none⟩)) ::
    (fun _ _ v => v = .pointer (some ⟨bx, 1, none⟩)) ::
    (fun _ _ v => v = .int .i64 err) ::
    (fun _ _ v => v = .pointer (some ⟨bx, 2, none⟩)) ::
    (fun _ _ v => v = .int .i64 pos) ::
    (fun L w v => Till 8 (fun w v => NewCells wr.heap.size 2 #[.int .i64 err, .int .i64 pos] 2 w v) L w v) ::
    (fun _ _ _ => True) :: [])
    (⟨[(3, none)], 0, [8]⟩ :: ⟨[(16, some 0)], 0, [8]⟩ :: ⟨[(17, some 1)], 0, [8]⟩ :: ⟨[(1, none)], 0, [8]⟩ :: ⟨[(19, some 3)], 0, [8]⟩ :: ⟨[(1, none)], 0, [8]⟩ :: ⟨[(21, some 5)], 0, [8]⟩ :: ⟨[(20, some 4), (22, some 6)], 0, [8]⟩ :: ⟨[(18, some 2), (23, some 7)], 0, []⟩ :: [])
    (none :: none :: none :: none :: none :: none :: none :: none :: none :: none :: none :: none :: none :: none :: none :: none :: some 0 :: some 1 :: some 2 :: some 3 :: some 4 :: some 5 :: some 6 :: some 7 :: some 8 :: [])
    (fun L w' => PutAt wr W g 30 u (cur ++ (intE err ++ intE pos)) (L 8) w') (fun i w w' => i ≠ 8 → Below w.heap.size w w') ?mixK3 ?okK3 ?tabK3 ?frK3 ?inK3 ?keptK3 ?startK3 ?eachK3 ?finK3
  case mixK3 => kernel_rfl
  case okK3 => kernel_rfl
  case tabK3 => kernel_rfl
  case frK3 => kernel_rfl
  case inK3 => rfl
  case keptK3 => exact ⟨fun _ _ _ _ _ _ _ _ _ _ _ h => h, fun _ _ _ _ _ _ _ _ _ _ _ h => h, fun _ _ _ _ _ _ _ _ _ _ _ h => h, fun _ _ _ _ _ _ _ _ _ _ _ h => h, fun _ _ _ _ _ _ _ _ _ _ _ h => h, fun _ _ _ _ _ _ _ _ _ _ _ h => h, fun _ _ _ _ _ _ _ _ _ _ _ h => h, fun _ _ _ _ _ _ _ _ _ _ hG h => Till.keep h fun hne h => h.keep (hG hne), fun _ _ _ _ _ _ _ _ _ _ _ h => h, trivial⟩
  case startK3 => exact ⟨fun _ => (Below.refl _ _).drew, fun h => by simp at h⟩
  case eachK3 =>
    refine ⟨?_, ?_, ?_, ?_, ?_, ?_, ?_, ?_, ?_, trivial⟩
    -- 0: slot 16 := move t3
    · intro w L f hC hLi hLd hLn hF
      obtain ⟨d3, _⟩ := hF
      have d3 : f 3 = .pointer (some ⟨g, 0, none⟩) := d3
      refine Step2.live rfl ?_
      exact relUpon_value (v := f 3) rfl (hC) (fun _ => Below.refl _ _) d3
    -- 1: slot 17 := nilCheck t16
    · intro w L f hC hLi hLd hLn hF
      obtain ⟨d16, _⟩ := hF
      have d16 : f 16 = .pointer (some ⟨g, 0, none⟩) := d16
      refine Step2.live rfl ?_
      have ev : ∀ t, evalOf f (.tmp t) = f t := fun _ => rfl
      have ec : ∀ c, evalOf f (.const c) = c := fun _ => rfl
      have ef : ∀ g, evalOf f (.func g) = .func (.func g) #[] #[] := fun _ => rfl
      refine relUpon_value ?_ hC (fun _ => Below.refl _ _) rfl
      go_simp
    -- 2: slot 18 := fieldAddr 30 t17 0
    · intro w L f hC hLi hLd hLn hF
      obtain ⟨d17, _⟩ := hF
      have d17 : f 17 = .pointer (some ⟨g, 0, none⟩) := d17
      refine Step2.live rfl ?_
      have ev : ∀ t, evalOf f (.tmp t) = f t := fun _ => rfl
      have ec : ∀ c, evalOf f (.const c) = c := fun _ => rfl
      have ef : ∀ g, evalOf f (.func g) = .func (.func g) #[] #[] := fun _ => rfl
      refine relUpon_value ?_ hC (fun _ => Below.refl _ _) rfl
      go_simp
    -- 3: slot 19 := fieldAddr 86 t1 1
    · intro w L f hC hLi hLd hLn hF
      obtain ⟨d1, _⟩ := hF
      have d1 : f 1 = .pointer (some ⟨bx, 0, none⟩) := d1
      refine Step2.live rfl ?_
      have ev : ∀ t, evalOf f (.tmp t) = f t := fun _ => rfl
      have ec : ∀ c, evalOf f (.const c) = c := fun _ => rfl
      have ef : ∀ g, evalOf f (.func g) = .func (.func g) #[] #[] := fun _ => rfl
      refine relUpon_value ?_ hC (fun _ => Below.refl _ _) rfl
      go_simp
    -- 4: slot 20 := load 35 t19
    · intro w L f hC hLi hLd hLn hF
      obtain ⟨d19, _⟩ := hF
      have d19 : f 19 = .pointer (some ⟨bx, 1, none⟩) := d19
      refine Step2.live rfl ?_
      have hcell0 := ((hC.m (hLn 8 (by simp))).cell f1.out.1).trans f1.out.2
      have ev : ∀ t, evalOf f (.tmp t) = f t := fun _ => rfl
      have ec : ∀ c, evalOf f (.const c) = c := fun _ => rfl
      have ef : ∀ g, evalOf f (.func g) = .func (.func g) #[] #[] := fun _ => rfl
      refine relUpon_value ?_ hC (fun _ => Below.refl _ _) rfl
      go_simp
    -- 5: slot 21 := fieldAddr 86 t1 2
    · intro w L f hC hLi hLd hLn hF
      obtain ⟨d1, _⟩ := hF
      have d1 : f 1 = .pointer (some ⟨bx, 0, none⟩) := d1
      refine Step2.live rfl ?_
      have ev : ∀ t, evalOf f (.tmp t) = f t := fun _ => rfl
      have ec : ∀ c, evalOf f (.const c) = c := fun _ => rfl
      have ef : ∀ g, evalOf f (.func g) = .func (.func g) #[] #[] := fun _ => rfl
      refine relUpon_value ?_ hC (fun _ => Below.refl _ _) rfl
      go_simp
    -- 6: slot 22 := load 3 t21
    · intro w L f hC hLi hLd hLn hF
      obtain ⟨d21, _⟩ := hF
      have d21 : f 21 = .pointer (some ⟨bx, 2, none⟩) := d21
      refine Step2.live rfl ?_
      have hcell0 := ((hC.m (hLn 8 (by simp))).cell f2.out.1).trans f2.out.2
      have ev : ∀ t, evalOf f (.tmp t) = f t := fun _ => rfl
      have ec : ∀ c, evalOf f (.const c) = c := fun _ => rfl
      have ef : ∀ g, evalOf f (.func g) = .func (.func g) #[] #[] := fun _ => rfl
      refine relUpon_value ?_ hC (fun _ => Below.refl _ _) rfl
      go_simp
    -- 7: slot 23 := buildSlice 48 2 #[(0, t20), (1, t22)]
    · intro w L f hC hLi hLd hLn hF
      obtain ⟨d20, d22, _⟩ := hF
      have d20 : f 20 = .int .i64 err := d20
      have d22 : f 22 = .int .i64 pos := d22
      refine Step2.live rfl ?_
      have ev : ∀ t, evalOf f (.tmp t) = f t := fun _ => rfl
      have ec : ∀ c, evalOf f (.const c) = c := fun _ => rfl
      have ef : ∀ g, evalOf f (.func g) = .func (.func g) #[] #[] := fun _ => rfl
      refine relUpon_value (w' := w.alloc (.cells #[.int .i64 err, .int .i64 pos] 2)) (v := .slice (some ⟨w.heap.size, 0, none⟩) 2 2) (by go_simp) (hC.alloc (hLn 8 (by simp)) _) (fun _ => below_new _ _) (fun _ => ⟨_, rfl, (hC.m (hLn 8 (by simp))).size, Holds.new _ _ _⟩)
    -- 8: slot 24 := call { value (Operand.func 16), args := #[t18, t23], argTypes := #[28, 48] }
    · intro w L f hC hLi hLd hLn hF
      obtain ⟨d18, d23, _⟩ := hF
      have d18 : f 18 = .pointer (some ⟨g, 0, none⟩) := d18
      refine Step2.live rfl ?_
      obtain ⟨kn, e0, hkn, hrow⟩ := d23 hLi
      have ev : ∀ t, evalOf f (.tmp t) = f t := fun _ => rfl
      have ec : ∀ c, evalOf f (.const c) = c := fun _ => rfl
      have ef : ∀ g, evalOf f (.func g) = .func (.func g) #[] #[] := fun _ => rfl
      refine relUpon_call (f := 16) (args := #[.pointer (some ⟨g, 0, none⟩), .slice (some ⟨kn, 0, none⟩) 2 2]) (w := w) (by go_simp) (int_puts (l2 := cur ++ (intE err ++ intE pos)) (hC.m hLi) hw.out hB.out [err, pos] 2 hrow hkn rfl rfl (by simpa [i64ok] using ⟨herr.out, hpos.out⟩) (by have := hcl.out; omega) (by simp)) ?_
      intro e w1 hw1
      exact ⟨_, hw1.1, ⟨fun e => by simp at e, fun _ => by have := hw1.1; subst this; exact hw1⟩, fun h => absurd rfl h, trivial⟩
  intro x w' hC hV

  have hw1 := hC.d rfl
  clear hV hC
  simp only [framed]
  have hbo := hw1.below hw.out hB.out
  obtain ⟨-, ub, hub, _, _⟩ := hw1
  have hbwb := hbw.out.trans hbo
  have hBb := Nat.le_trans hB.out hbo.size
  have hclb : Hid ((cur ++ (intE err ++ intE pos)).length ≤ 200) := Lib.hid (by have := hcl.out; have := intE_len herr.out; have := intE_len hpos.out; simp only [List.length_append]; omega)
  obtain ⟨wr, hwr⟩ : ∃ x, x = w' := ⟨_, rfl⟩
  rw [← hwr] at hub hbwb hBb ⊢
  clear hwr hbo hw hbw hB hcl f1 f2
  have hw := Lib.hid hub
  have hbw := Lib.hid hbwb
  have hB := Lib.hid hBb
  have hcl := hclb
  clear hub hbwb hBb hclb
  generalize cur ++ (intE err ++ intE pos) = cur at hw hcl hrq
  obtain ⟨u, hu⟩ : ∃ x : Value, x = ub := ⟨_, rfl⟩
  rw [← hu] at hw
  clear hu
  go_wp2_with fail
  have f3 := Lib.hid ((hbx2.out.below hbw.out hgx).fact 3 rfl)
  -- THE REGION THAT DRAWS ITS ORDER, BY ONE LEXICAL WALK OVER GENERIC VALUES (written by relgen.py)
  refine wp_region_tabL ((fun _ _ v => v = .pointer (some ⟨g, 0, none⟩)) ::
    (fun _ _ v => v = .pointer (some ⟨g, 0, none⟩)) ::
    (fun _ _ v => v = .pointer (some ⟨g, 0, none⟩)) ::
    (fun _ _ v => v = .pointer (some ⟨bx, 3, none⟩)) ::
    (fun _ _ v => v = .slice A1 n1 c1) ::
    (fun _ _ v => v = .int .i64 n1) ::
    (fun _ _ v => v = .int .u64 n1) ::
    (fun L w v => Till 8 (fun w v => NewCells wr.heap.size 37 #[.int .u64 n1] 1 w v) L w v) ::
    (fun _ _ _ => True) :: [])
    (⟨[(3, none)], 0, [8]⟩ :: ⟨[(25, some 0)], 0, [8]⟩ :: ⟨[(26, some 1)], 0, [8]⟩ :: ⟨[(1, none)], 0, [8]⟩ :: ⟨[(28, some 3)], 0, [8]⟩ :: ⟨[(29, some 4)], 0, [8]⟩ :: ⟨[(30, some 5)], 0, [8]⟩ :: ⟨[(31, some 6)], 0, [8]⟩ :: ⟨[(27, some 2), (32, some 7)], 0, []⟩ :: [])
    (none :: none :: none :: none :: none :: none :: none :: none :: none :: none :: none :: none :: none :: none :: none :: none :: none :: none :: none :: none :: none :: none :: none :: none :: none :: some 0 :: some 1 :: some 2 :: some 3 :: some 4 :: some 5 :: some 6 :: some 7 :: some 8 :: [])
    (fun L w' => PutAt wr W g 30 u (cur ++ numE n1) (L 8) w') (fun i w w' => i ≠ 8 → Below w.heap.size w w') ?mixK4 ?okK4 ?tabK4 ?frK4 ?inK4 ?keptK4 ?startK4 ?eachK4 ?finK4
  case mixK4 => kernel_rfl
  case okK4 => kernel_rfl
  case tabK4 => kernel_rfl
  case frK4 => kernel_rfl
  case inK4 => rfl
  case keptK4 => exact ⟨fun _ _ _ _ _ _ _ _ _ _ _ h => h, fun _ _ _ _ _ _ _ _ _ _ _ h => h, fun _ _ _ _ _ _ _ _ _ _ _ h => h, fun _ _ _ _ _ _ _ _ _ _ _ h => h, fun _ _ _ _ _ _ _ _ _ _ _ h => h, fun _ _ _ _ _ _ _ _ _ _ _ h => h, fun _ _ _ _ _ _ _ _ _ _ _ h => h, fun _ _ _ _ _ _ _ _ _ _ hG h => Till.keep h fun hne h => h.keep (hG hne), fun _ _ _ _ _ _ _ _ _ _ _ h => h, trivial⟩
  case startK4 => exact ⟨fun _ => (Below.refl _ _).drew, fun h => by simp at h⟩
  case eachK4 =>
    refine ⟨?_, ?_, ?_, ?_, ?_, ?_, ?_, ?_, ?_, trivial⟩
    -- 0: slot 25 := move t3
    · intro w L f hC hLi hLd hLn hF
      obtain ⟨d3, _⟩ := hF
      have d3 : f 3 = .pointer (some ⟨g, 0, none⟩) := d3
      refine Step2.live rfl ?_
      exact relUpon_value (v := f 3) rfl (hC) (fun _ => Below.refl _ _) d3
    -- 1: slot 26 := nilCheck t25
    · intro w L f hC hLi hLd hLn hF
      obtain ⟨d25, _⟩ := hF
      have d25 : f 25 = .pointer (some ⟨g, 0, none⟩) := d25
      refine Step2.live rfl ?_
      have ev : ∀ t, evalOf f (.tmp t) = f t := fun _ => rfl
      have ec : ∀ c, evalOf f (.const c) = c := fun _ => rfl
      have ef : ∀ g, evalOf f (.func g) = .func (.func g) #[] #[] := fun _ => rfl
      refine relUpon_value ?_ hC (fun _ => Below.refl _ _) rfl
      go_simp
    -- 2: slot 27 := fieldAddr 30 t26 0
    · intro w L f hC hLi hLd hLn hF
      obtain ⟨d26, _⟩ := hF
      have d26 : f 26 = .pointer (some ⟨g, 0, none⟩) := d26
      refine Step2.live rfl ?_
      have ev : ∀ t, evalOf f (.tmp t) = f t := fun _ => rfl
      have ec : ∀ c, evalOf f (.const c) = c := fun _ => rfl
      have ef : ∀ g, evalOf f (.func g) = .func (.func g) #[] #[] := fun _ => rfl
      refine relUpon_value ?_ hC (fun _ => Below.refl _ _) rfl
      go_simp
    -- 3: slot 28 := fieldAddr 86 t1 3
    · intro w L f hC hLi hLd hLn hF
      obtain ⟨d1, _⟩ := hF
      have d1 : f 1 = .pointer (some ⟨bx, 0, none⟩) := d1
      refine Step2.live rfl ?_
      have ev : ∀ t, evalOf f (.tmp t) = f t := fun _ => rfl
      have ec : ∀ c, evalOf f (.const c) = c := fun _ => rfl
      have ef : ∀ g, evalOf f (.func g) = .func (.func g) #[] #[] := fun _ => rfl
      refine relUpon_value ?_ hC (fun _ => Below.refl _ _) rfl
      go_simp
    -- 4: slot 29 := load 56 t28
    · intro w L f hC hLi hLd hLn hF
      obtain ⟨d28, _⟩ := hF
      have d28 : f 28 = .pointer (some ⟨bx, 3, none⟩) := d28
      refine Step2.live rfl ?_
      have hcell0 := ((hC.m (hLn 8 (by simp))).cell f3.out.1).trans f3.out.2
      have ev : ∀ t, evalOf f (.tmp t) = f t := fun _ => rfl
      have ec : ∀ c, evalOf f (.const c) = c := fun _ => rfl
      have ef : ∀ g, evalOf f (.func g) = .func (.func g) #[] #[] := fun _ => rfl
      refine relUpon_value ?_ hC (fun _ => Below.refl _ _) rfl
      go_simp
    -- 5: slot 30 := call { builtin len, args := #[t29], argTypes := #[56] }
    · intro w L f hC hLi hLd hLn hF
      obtain ⟨d29, _⟩ := hF
      have d29 : f 29 = .slice A1 n1 c1 := d29
      refine Step2.live rfl ?_
      have ev : ∀ t, evalOf f (.tmp t) = f t := fun _ => rfl
      have ec : ∀ c, evalOf f (.const c) = c := fun _ => rfl
      have ef : ∀ g, evalOf f (.func g) = .func (.func g) #[] #[] := fun _ => rfl
      refine relUpon_value ?_ hC (fun _ => Below.refl _ _) rfl
      go_simp
    -- 6: slot 31 := convert 3 37 t30
    · intro w L f hC hLi hLd hLn hF
      obtain ⟨d30, _⟩ := hF
      have d30 : f 30 = .int .i64 n1 := d30
      refine Step2.live rfl ?_
      have ev : ∀ t, evalOf f (.tmp t) = f t := fun _ => rfl
      have ec : ∀ c, evalOf f (.const c) = c := fun _ => rfl
      have ef : ∀ g, evalOf f (.func g) = .func (.func g) #[] #[] := fun _ => rfl
      refine relUpon_value ?_ hC (fun _ => Below.refl _ _) rfl
      go_simp
      exact IntWalk.u64_in _ (by have := hn1.out; omega)
    -- 7: slot 32 := buildSlice 47 1 #[(0, t31)]
    · intro w L f hC hLi hLd hLn hF
      obtain ⟨d31, _⟩ := hF
      have d31 : f 31 = .int .u64 n1 := d31
      refine Step2.live rfl ?_
      have ev : ∀ t, evalOf f (.tmp t) = f t := fun _ => rfl
      have ec : ∀ c, evalOf f (.const c) = c := fun _ => rfl
      have ef : ∀ g, evalOf f (.func g) = .func (.func g) #[] #[] := fun _ => rfl
      refine relUpon_value (w' := w.alloc (.cells #[.int .u64 n1] 37)) (v := .slice (some ⟨w.heap.size, 0, none⟩) 1 1) (by go_simp) (hC.alloc (hLn 8 (by simp)) _) (fun _ => below_new _ _) (fun _ => ⟨_, rfl, (hC.m (hLn 8 (by simp))).size, Holds.new _ _ _⟩)
    -- 8: slot 33 := call { value (Operand.func 27), args := #[t27, t32], argTypes := #[28, 47] }
    · intro w L f hC hLi hLd hLn hF
      obtain ⟨d27, d32, _⟩ := hF
      have d27 : f 27 = .pointer (some ⟨g, 0, none⟩) := d27
      refine Step2.live rfl ?_
      obtain ⟨kn, e0, hkn, hrow⟩ := d32 hLi
      have ev : ∀ t, evalOf f (.tmp t) = f t := fun _ => rfl
      have ec : ∀ c, evalOf f (.const c) = c := fun _ => rfl
      have ef : ∀ g, evalOf f (.func g) = .func (.func g) #[] #[] := fun _ => rfl
      refine relUpon_call (f := 27) (args := #[.pointer (some ⟨g, 0, none⟩), .slice (some ⟨kn, 0, none⟩) 1 1]) (w := w) (by go_simp) (num_puts (l2 := cur ++ numE n1) (hC.m hLi) hw.out hB.out [n1] 1 hrow hkn rfl (by simp [u64V]) (by have := hn1.out; simp; omega) (by have := hcl.out; omega) (by simp)) ?_
      intro e w1 hw1
      exact ⟨_, hw1.1, ⟨fun e => by simp at e, fun _ => by have := hw1.1; subst this; exact hw1⟩, fun h => absurd rfl h, trivial⟩
  intro x w' hC hV

  have hw1 := hC.d rfl
  clear hV hC
  simp only [framed]
  have hbo := hw1.below hw.out hB.out
  obtain ⟨-, uc, huc, _, _⟩ := hw1
  have hbwc := hbw.out.trans hbo
  have hBc := Nat.le_trans hB.out hbo.size
  have hclc : Hid ((cur ++ numE n1).length ≤ 300) := Lib.hid (by have := hcl.out; have := numE_len10 n1 (by have := hn1.out; omega); simp only [List.length_append]; omega)
  obtain ⟨wr, hwr⟩ : ∃ x, x = w' := ⟨_, rfl⟩
  rw [← hwr] at huc hbwc hBc ⊢
  clear hwr hbo hw hbw hB hcl f3
  have hw := Lib.hid huc
  have hbw := Lib.hid hbwc
  have hB := Lib.hid hBc
  have hcl := hclc
  clear huc hbwc hBc hclc
  generalize cur ++ numE n1 = cur at hw hcl hrq
  obtain ⟨u, hu⟩ : ∃ x : Value, x = uc := ⟨_, rfl⟩
  rw [← hu] at hw
  clear hu
  have g0 := ((hbx2.out.below hbw.out hgx).fact 3 rfl).2
  go_wp2_with fail
  clear g0
  go_loopw [37] (fun i wl => ∃ k : Nat, k ≤ n1 ∧ i = .int .i64 k ∧ ∃ u, Wrt wl W g 30 u (cur ++ (al.take k).flatMap alE) ∧ Below W wr0 wl ∧ W ≤ wl.heap.size) (fun i _ => n1 - (intOf i).toNat)
  case atStart => exact ⟨0, by omega, rfl, u, by simpa using hw.out, hbw.out, hB.out⟩
  clear hw hbw hB
  obtain ⟨k, hk, rfl, u, hw0, hbw0, hB0b⟩ := hrel
  have hw := Lib.hid hw0
  have hbw := Lib.hid hbw0
  have hB := Lib.hid hB0b
  clear hw0 hbw0 hB0b
  have hlc0 : ((cur ++ (al.take k).flatMap alE : List UInt8)).length ≤ 30000 := by
    have h2 := flat_len' alE 20 al (fun a ha => alE_len (halo.out a ha)) k
    have := hcl.out
    simp only [List.length_append]
    omega
  have hlc := Lib.hid hlc0
  clear hlc0
  by_cases hlt : k < n1
  case pos =>
    have hlt2 : k < al.length := by rw [hal.out]; exact hlt
    obtain ⟨b, off, rfl, hbl, hne, hcell⟩ := Row.elem (C := 2) (hrow0.out.below hbw.out) (fun _ _ => rfl) (by omega) (k := k) hlt2
    have q0 : wr.cell? ⟨b, off + k * 2, none⟩ = some (.int .i64 al[k].pos) := hcell 0 _ rfl
    have q1 : wr.cell? ⟨b, off + k * 2 + 1, none⟩ = some (.int .i64 al[k].kind) := hcell 1 _ rfl
    have hao := Lib.hid (halo.out _ (List.getElem_mem hlt2))
    have hft := Lib.hid (flat_take alE al k hlt2)
    clear hcell hne
    generalize al[k] = a at *
    have hnx : Hid (∀ w2 u2, Wrt w2 W g 30 u2 (cur ++ (al.take k).flatMap alE ++ (intE a.pos ++ intE a.kind)) → Wrt w2 W g 30 u2 (cur ++ (al.take (k + 1)).flatMap alE)) := Lib.hid fun w2 u2 h => by
      rw [hft.out, ← List.append_assoc]
      exact h
    generalize cur ++ (al.take k).flatMap alE = cur9 at hnx hw hlc
    have hox := Lib.hid (Holds.new wr 75 #[.int .i64 a.pos, .int .i64 a.kind])
    have hbn := Lib.hid (below_new wr (.cells #[.int .i64 a.pos, .int .i64 a.kind] 75))
    have hw2 := Lib.hid (hw.out.below hbn.out)
    have hB2 := Lib.hid (Nat.le_trans hB.out hbn.out.size)
    have hbw2 := Lib.hid (hbw.out.trans (hbn.out.mono hB.out))
    clear hw hft hbl hbn hbw
    go_wp2_with fail
    generalize wr.alloc (.cells #[.int .i64 a.pos, .int .i64 a.kind] 75) = wx at hox hw2 hB2 hbw2 ⊢
    clear q0 q1
    generalize wr.heap.size = bx2 at hox ⊢
    have f1 := Lib.hid (hox.out.fact 0 rfl)
    have f2 := Lib.hid (hox.out.fact 1 rfl)
    -- THE REGION THAT DRAWS ITS ORDER, BY ONE LEXICAL WALK OVER GENERIC VALUES (written by relgen.py)
    refine wp_region_tabL ((fun _ _ v => v = .pointer (some ⟨g, 0, none⟩)) ::
      (fun _ _ v => v = .pointer (some ⟨g, 0, none⟩)) ::
      (fun _ _ v => v = .pointer (some ⟨g, 0, none⟩)) ::
      (fun _ _ v => v = .pointer (some ⟨bx2, 0, none⟩)) ::
      (fun _ _ v => v = .int .i64 a.pos) ::
      (fun _ _ v => v = .pointer (some ⟨bx2, 1, none⟩)) ::
      (fun _ _ v => v = .int .i64 a.kind) ::
      (fun L w v => Till 8 (fun w v => NewCells wx.heap.size 2 #[.int .i64 a.pos, .int .i64 a.kind] 2 w v) L w v) ::
      (fun _ _ _ => True) :: [])
      (⟨[(3, none)], 0, [8]⟩ :: ⟨[(41, some 0)], 0, [8]⟩ :: ⟨[(42, some 1)], 0, [8]⟩ :: ⟨[(5, none)], 0, [8]⟩ :: ⟨[(44, some 3)], 0, [8]⟩ :: ⟨[(5, none)], 0, [8]⟩ :: ⟨[(46, some 5)], 0, [8]⟩ :: ⟨[(45, some 4), (47, some 6)], 0, [8]⟩ :: ⟨[(43, some 2), (48, some 7)], 0, []⟩ :: [])
      (none :: none :: none :: none :: none :: none :: none :: none :: none :: none :: none :: none :: none :: none :: none :: none :: none :: none :: none :: none :: none :: none :: none :: none :: none :: none :: none :: none :: none :: none :: none :: none :: none :: none :: none :: none :: none :: none :: none :: none :: none :: some 0 :: some 1 :: some 2 :: some 3 :: some 4 :: some 5 :: some 6 :: some 7 :: some 8 :: [])
      (fun L w' => PutAt wx W g 30 u (cur9 ++ (intE a.pos ++ intE a.kind)) (L 8) w') (fun i w w' => i ≠ 8 → Below w.heap.size w w') ?mixK8 ?okK8 ?tabK8 ?frK8 ?inK8 ?keptK8 ?startK8 ?eachK8 ?finK8
    case mixK8 => kernel_rfl
    case okK8 => kernel_rfl
    case tabK8 => kernel_rfl
    case frK8 => kernel_rfl
    case inK8 => rfl
    case keptK8 => exact ⟨fun _ _ _ _ _ _ _ _ _ _ _ h => h, fun _ _ _ _ _ _ _ _ _ _ _ h => h, fun _ _ _ _ _ _ _ _ _ _ _ h => h, fun _ _ _ _ _ _ _ _ _ _ _ h => h, fun _ _ _ _ _ _ _ _ _ _ _ h => h, fun _ _ _ _ _ _ _ _ _ _ _ h => h, fun _ _ _ _ _ _ _ _ _ _ _ h => h, fun _ _ _ _ _ _ _ _ _ _ hG h => Till.keep h fun hne h => h.keep (hG hne), fun _ _ _ _ _ _ _ _ _ _ _ h => h, trivial⟩
    case startK8 => exact ⟨fun _ => (Below.refl _ _).drew, fun h => by simp at h⟩
    case eachK8 =>
      refine ⟨?_, ?_, ?_, ?_, ?_, ?_, ?_, ?_, ?_, trivial⟩
      -- 0: slot 41 := move t3
      · intro w L f hC hLi hLd hLn hF
        obtain ⟨d3, _⟩ := hF
        have d3 : f 3 = .pointer (some ⟨g, 0, none⟩) := d3
        refine Step2.live rfl ?_
        exact relUpon_value (v := f 3) rfl (hC) (fun _ => Below.refl _ _) d3
      -- 1: slot 42 := nilCheck t41
      · intro w L f hC hLi hLd hLn hF
        obtain ⟨d41, _⟩ := hF
        have d41 : f 41 = .pointer (some ⟨g, 0, none⟩) := d41
        refine Step2.live rfl ?_
        have ev : ∀ t, evalOf f (.tmp t) = f t := fun _ => rfl
        have ec : ∀ c, evalOf f (.const c) = c := fun _ => rfl
        have ef : ∀ g, evalOf f (.func g) = .func (.func g) #[] #[] := fun _ => rfl
        refine relUpon_value ?_ hC (fun _ => Below.refl _ _) rfl
        go_simp
      -- 2: slot 43 := fieldAddr 30 t42 0
      · intro w L f hC hLi hLd hLn hF
        obtain ⟨d42, _⟩ := hF
        have d42 : f 42 = .pointer (some ⟨g, 0, none⟩) := d42
        refine Step2.live rfl ?_
        have ev : ∀ t, evalOf f (.tmp t) = f t := fun _ => rfl
        have ec : ∀ c, evalOf f (.const c) = c := fun _ => rfl
        have ef : ∀ g, evalOf f (.func g) = .func (.func g) #[] #[] := fun _ => rfl
        refine relUpon_value ?_ hC (fun _ => Below.refl _ _) rfl
        go_simp
      -- 3: slot 44 := fieldAddr 75 t5 0
      · intro w L f hC hLi hLd hLn hF
        obtain ⟨d5, _⟩ := hF
        have d5 : f 5 = .pointer (some ⟨bx2, 0, none⟩) := d5
        refine Step2.live rfl ?_
        have ev : ∀ t, evalOf f (.tmp t) = f t := fun _ => rfl
        have ec : ∀ c, evalOf f (.const c) = c := fun _ => rfl
        have ef : ∀ g, evalOf f (.func g) = .func (.func g) #[] #[] := fun _ => rfl
        refine relUpon_value ?_ hC (fun _ => Below.refl _ _) rfl
        go_simp
      -- 4: slot 45 := load 3 t44
      · intro w L f hC hLi hLd hLn hF
        obtain ⟨d44, _⟩ := hF
        have d44 : f 44 = .pointer (some ⟨bx2, 0, none⟩) := d44
        refine Step2.live rfl ?_
        have hcell0 := ((hC.m (hLn 8 (by simp))).cell f1.out.1).trans f1.out.2
        have ev : ∀ t, evalOf f (.tmp t) = f t := fun _ => rfl
        have ec : ∀ c, evalOf f (.const c) = c := fun _ => rfl
        have ef : ∀ g, evalOf f (.func g) = .func (.func g) #[] #[] := fun _ => rfl
        refine relUpon_value ?_ hC (fun _ => Below.refl _ _) rfl
        go_simp
      -- 5: slot 46 := fieldAddr 75 t5 1
      · intro w L f hC hLi hLd hLn hF
        obtain ⟨d5, _⟩ := hF
        have d5 : f 5 = .pointer (some ⟨bx2, 0, none⟩) := d5
        refine Step2.live rfl ?_
        have ev : ∀ t, evalOf f (.tmp t) = f t := fun _ => rfl
        have ec : ∀ c, evalOf f (.const c) = c := fun _ => rfl
        have ef : ∀ g, evalOf f (.func g) = .func (.func g) #[] #[] := fun _ => rfl
        refine relUpon_value ?_ hC (fun _ => Below.refl _ _) rfl
        go_simp
      -- 6: slot 47 := load 3 t46
      · intro w L f hC hLi hLd hLn hF
        obtain ⟨d46, _⟩ := hF
        have d46 : f 46 = .pointer (some ⟨bx2, 1, none⟩) := d46
        refine Step2.live rfl ?_
        have hcell0 := ((hC.m (hLn 8 (by simp))).cell f2.out.1).trans f2.out.2
        have ev : ∀ t, evalOf f (.tmp t) = f t := fun _ => rfl
        have ec : ∀ c, evalOf f (.const c) = c := fun _ => rfl
        have ef : ∀ g, evalOf f (.func g) = .func (.func g) #[] #[] := fun _ => rfl
        refine relUpon_value ?_ hC (fun _ => Below.refl _ _) rfl
        go_simp
      -- 7: slot 48 := buildSlice 48 2 #[(0, t45), (1, t47)]
      · intro w L f hC hLi hLd hLn hF
        obtain ⟨d45, d47, _⟩ := hF
        have d45 : f 45 = .int .i64 a.pos := d45
        have d47 : f 47 = .int .i64 a.kind := d47
        refine Step2.live rfl ?_
        have ev : ∀ t, evalOf f (.tmp t) = f t := fun _ => rfl
        have ec : ∀ c, evalOf f (.const c) = c := fun _ => rfl
        have ef : ∀ g, evalOf f (.func g) = .func (.func g) #[] #[] := fun _ => rfl
        refine relUpon_value (w' := w.alloc (.cells #[.int .i64 a.pos, .int .i64 a.kind] 2)) (v := .slice (some ⟨w.heap.size, 0, none⟩) 2 2) (by go_simp) (hC.alloc (hLn 8 (by simp)) _) (fun _ => below_new _ _) (fun _ => ⟨_, rfl, (hC.m (hLn 8 (by simp))).size, Holds.new _ _ _⟩)
      -- 8: slot 49 := call { value (Operand.func 16), args := #[t43, t48], argTypes := #[28, 48] }
      · intro w L f hC hLi hLd hLn hF
        obtain ⟨d43, d48, _⟩ := hF
        have d43 : f 43 = .pointer (some ⟨g, 0, none⟩) := d43
        refine Step2.live rfl ?_
        obtain ⟨kn, e0, hkn, hrow⟩ := d48 hLi
        have ev : ∀ t, evalOf f (.tmp t) = f t := fun _ => rfl
        have ec : ∀ c, evalOf f (.const c) = c := fun _ => rfl
        have ef : ∀ g, evalOf f (.func g) = .func (.func g) #[] #[] := fun _ => rfl
        refine relUpon_call (f := 16) (args := #[.pointer (some ⟨g, 0, none⟩), .slice (some ⟨kn, 0, none⟩) 2 2]) (w := w) (by go_simp) (int_puts (l2 := cur9 ++ (intE a.pos ++ intE a.kind)) (hC.m hLi) hw2.out hB2.out [a.pos, a.kind] 2 hrow hkn rfl rfl (by simpa [Al.ok, i64ok] using hao.out) (by have := hlc.out; omega) (by simp)) ?_
        intro e w1 hw1
        exact ⟨_, hw1.1, ⟨fun e => by simp at e, fun _ => by have := hw1.1; subst this; exact hw1⟩, fun h => absurd rfl h, trivial⟩
    intro x w' hC hV

    have hw1 := hC.d rfl
    clear hV hC
    simp only [framed]
    have hbo := hw1.below hw2.out hB2.out
    obtain ⟨-, u2, hu2, _, _⟩ := hw1
    have hd := hnx.out _ _ hu2
    have hbw3 := hbw2.out.trans hbo
    have hB3 := Nat.le_trans hB2.out hbo.size
    clear hbo hu2
    go_wp2_with fail
    go_roundw
    case rel => exact ⟨k + 1, by omega, by go_num, u2, hd, hbw3, hB3⟩
    case measure => simp [intOf]; omega
  obtain rfl : k = n1 := by omega
  rw [show al.take k = al from by rw [← hal.out, List.take_length]] at hw hlc
  generalize cur ++ al.flatMap alE = cur2 at hw hlc hrq
  clear hcl hlt
  obtain ⟨cur, hcur⟩ : ∃ x, x = cur2 := ⟨_, rfl⟩
  rw [← hcur] at hw hlc hrq
  have hcl := hlc
  clear hcur hlc
  go_wp2_with fail
  have f4 := Lib.hid ((hbx2.out.below hbw.out hgx).fact 4 rfl)
  -- THE REGION THAT DRAWS ITS ORDER, BY ONE LEXICAL WALK OVER GENERIC VALUES (written by relgen.py)
  refine wp_region_tabL ((fun _ _ v => v = .pointer (some ⟨g, 0, none⟩)) ::
    (fun _ _ v => v = .pointer (some ⟨g, 0, none⟩)) ::
    (fun _ _ v => v = .pointer (some ⟨g, 0, none⟩)) ::
    (fun _ _ v => v = .pointer (some ⟨bx, 4, none⟩)) ::
    (fun _ _ v => v = .string text) ::
    (fun L w v => Till 6 (fun w v => NewCells wr.heap.size 9 #[.string text] 1 w v) L w v) ::
    (fun _ _ _ => True) :: [])
    (⟨[(3, none)], 0, [6]⟩ :: ⟨[(51, some 0)], 0, [6]⟩ :: ⟨[(52, some 1)], 0, [6]⟩ :: ⟨[(1, none)], 0, [6]⟩ :: ⟨[(54, some 3)], 0, [6]⟩ :: ⟨[(55, some 4)], 0, [6]⟩ :: ⟨[(53, some 2), (56, some 5)], 0, []⟩ :: [])
    (none :: none :: none :: none :: none :: none :: none :: none :: none :: none :: none :: none :: none :: none :: none :: none :: none :: none :: none :: none :: none :: none :: none :: none :: none :: none :: none :: none :: none :: none :: none :: none :: none :: none :: none :: none :: none :: none :: none :: none :: none :: none :: none :: none :: none :: none :: none :: none :: none :: none :: none :: some 0 :: some 1 :: some 2 :: some 3 :: some 4 :: some 5 :: some 6 :: [])
    (fun L w' => PutAt wr W g 30 u (cur ++ txtE text) (L 6) w') (fun i w w' => i ≠ 6 → Below w.heap.size w w') ?mixK10 ?okK10 ?tabK10 ?frK10 ?inK10 ?keptK10 ?startK10 ?eachK10 ?finK10
  case mixK10 => kernel_rfl
  case okK10 => kernel_rfl
  case tabK10 => kernel_rfl
  case frK10 => kernel_rfl
  case inK10 => rfl
  case keptK10 => exact ⟨fun _ _ _ _ _ _ _ _ _ _ _ h => h, fun _ _ _ _ _ _ _ _ _ _ _ h => h, fun _ _ _ _ _ _ _ _ _ _ _ h => h, fun _ _ _ _ _ _ _ _ _ _ _ h => h, fun _ _ _ _ _ _ _ _ _ _ _ h => h, fun _ _ _ _ _ _ _ _ _ _ hG h => Till.keep h fun hne h => h.keep (hG hne), fun _ _ _ _ _ _ _ _ _ _ _ h => h, trivial⟩
  case startK10 => exact ⟨fun _ => (Below.refl _ _).drew, fun h => by simp at h⟩
  case eachK10 =>
    refine ⟨?_, ?_, ?_, ?_, ?_, ?_, ?_, trivial⟩
    -- 0: slot 51 := move t3
    · intro w L f hC hLi hLd hLn hF
      obtain ⟨d3, _⟩ := hF
      have d3 : f 3 = .pointer (some ⟨g, 0, none⟩) := d3
      refine Step2.live rfl ?_
      exact relUpon_value (v := f 3) rfl (hC) (fun _ => Below.refl _ _) d3
    -- 1: slot 52 := nilCheck t51
    · intro w L f hC hLi hLd hLn hF
      obtain ⟨d51, _⟩ := hF
      have d51 : f 51 = .pointer (some ⟨g, 0, none⟩) := d51
      refine Step2.live rfl ?_
      have ev : ∀ t, evalOf f (.tmp t) = f t := fun _ => rfl
      have ec : ∀ c, evalOf f (.const c) = c := fun _ => rfl
      have ef : ∀ g, evalOf f (.func g) = .func (.func g) #[] #[] := fun _ => rfl
      refine relUpon_value ?_ hC (fun _ => Below.refl _ _) rfl
      go_simp
    -- 2: slot 53 := fieldAddr 30 t52 0
    · intro w L f hC hLi hLd hLn hF
      obtain ⟨d52, _⟩ := hF
      have d52 : f 52 = .pointer (some ⟨g, 0, none⟩) := d52
      refine Step2.live rfl ?_
      have ev : ∀ t, evalOf f (.tmp t) = f t := fun _ => rfl
      have ec : ∀ c, evalOf f (.const c) = c := fun _ => rfl
      have ef : ∀ g, evalOf f (.func g) = .func (.func g) #[] #[] := fun _ => rfl
      refine relUpon_value ?_ hC (fun _ => Below.refl _ _) rfl
      go_simp
    -- 3: slot 54 := fieldAddr 86 t1 4
    · intro w L f hC hLi hLd hLn hF
      obtain ⟨d1, _⟩ := hF
      have d1 : f 1 = .pointer (some ⟨bx, 0, none⟩) := d1
      refine Step2.live rfl ?_
      have ev : ∀ t, evalOf f (.tmp t) = f t := fun _ => rfl
      have ec : ∀ c, evalOf f (.const c) = c := fun _ => rfl
      have ef : ∀ g, evalOf f (.func g) = .func (.func g) #[] #[] := fun _ => rfl
      refine relUpon_value ?_ hC (fun _ => Below.refl _ _) rfl
      go_simp
    -- 4: slot 55 := load 9 t54
    · intro w L f hC hLi hLd hLn hF
      obtain ⟨d54, _⟩ := hF
      have d54 : f 54 = .pointer (some ⟨bx, 4, none⟩) := d54
      refine Step2.live rfl ?_
      have hcell0 := ((hC.m (hLn 6 (by simp))).cell f4.out.1).trans f4.out.2
      have ev : ∀ t, evalOf f (.tmp t) = f t := fun _ => rfl
      have ec : ∀ c, evalOf f (.const c) = c := fun _ => rfl
      have ef : ∀ g, evalOf f (.func g) = .func (.func g) #[] #[] := fun _ => rfl
      refine relUpon_value ?_ hC (fun _ => Below.refl _ _) rfl
      go_simp
    -- 5: slot 56 := buildSlice 40 1 #[(0, t55)]
    · intro w L f hC hLi hLd hLn hF
      obtain ⟨d55, _⟩ := hF
      have d55 : f 55 = .string text := d55
      refine Step2.live rfl ?_
      have ev : ∀ t, evalOf f (.tmp t) = f t := fun _ => rfl
      have ec : ∀ c, evalOf f (.const c) = c := fun _ => rfl
      have ef : ∀ g, evalOf f (.func g) = .func (.func g) #[] #[] := fun _ => rfl
      refine relUpon_value (w' := w.alloc (.cells #[.string text] 9)) (v := .slice (some ⟨w.heap.size, 0, none⟩) 1 1) (by go_simp) (hC.alloc (hLn 6 (by simp)) _) (fun _ => below_new _ _) (fun _ => ⟨_, rfl, (hC.m (hLn 6 (by simp))).size, Holds.new _ _ _⟩)
    -- 6: slot 57 := call { value (Operand.func 22), args := #[t53, t56], argTypes := #[28, 40] }
    · intro w L f hC hLi hLd hLn hF
      obtain ⟨d53, d56, _⟩ := hF
      have d53 : f 53 = .pointer (some ⟨g, 0, none⟩) := d53
      refine Step2.live rfl ?_
      obtain ⟨kn, e0, hkn, hrow⟩ := d56 hLi
      have ev : ∀ t, evalOf f (.tmp t) = f t := fun _ => rfl
      have ec : ∀ c, evalOf f (.const c) = c := fun _ => rfl
      have ef : ∀ g, evalOf f (.func g) = .func (.func g) #[] #[] := fun _ => rfl
      refine relUpon_call (f := 22) (args := #[.pointer (some ⟨g, 0, none⟩), .slice (some ⟨kn, 0, none⟩) 1 1]) (w := w) (by go_simp) (text_puts (l2 := cur ++ txtE text) (hC.m hLi) hw.out hB.out [text] 1 20000 hrow hkn rfl rfl (by simpa using htx.out) (by omega) (by have := hcl.out; omega) (by simp)) ?_
      intro e w1 hw1
      exact ⟨_, hw1.1, ⟨fun e => by simp at e, fun _ => by have := hw1.1; subst this; exact hw1⟩, fun h => absurd rfl h, trivial⟩
  intro x w' hC hV

  have hw1 := hC.d rfl
  clear hV hC
  simp only [framed]
  have hbo := hw1.below hw.out hB.out
  obtain ⟨-, ud, hud, _, _⟩ := hw1
  have hbwd := hbw.out.trans hbo
  have hBd := Nat.le_trans hB.out hbo.size
  have hcld : Hid ((cur ++ txtE text).length ≤ 60000) := Lib.hid (by have := hcl.out; have := txtE_len 20000 text htx.out (by omega); simp only [List.length_append]; omega)
  obtain ⟨wr, hwr⟩ : ∃ x, x = w' := ⟨_, rfl⟩
  rw [← hwr] at hud hbwd hBd ⊢
  clear hwr hbo hw hbw hB hcl f4
  have hw := Lib.hid hud
  have hbw := Lib.hid hbwd
  have hB := Lib.hid hBd
  have hcl := hcld
  clear hud hbwd hBd hcld
  generalize cur ++ txtE text = cur at hw hcl hrq
  obtain ⟨u, hu⟩ : ∃ x : Value, x = ud := ⟨_, rfl⟩
  rw [← hu] at hw
  clear hu
  go_wp2_with fail
  have f5 := Lib.hid ((hbx2.out.below hbw.out hgx).fact 5 rfl)
  -- THE REGION THAT DRAWS ITS ORDER, BY ONE LEXICAL WALK OVER GENERIC VALUES (written by relgen.py)
  refine wp_region_tabL ((fun _ _ v => v = .pointer (some ⟨g, 0, none⟩)) ::
    (fun _ _ v => v = .pointer (some ⟨g, 0, none⟩)) ::
    (fun _ _ v => v = .pointer (some ⟨g, 0, none⟩)) ::
    (fun _ _ v => v = .pointer (some ⟨bx, 5, none⟩)) ::
    (fun _ _ v => v = .int .i64 n) ::
    (fun L w v => Till 6 (fun w v => NewCells wr.heap.size 2 #[.int .i64 n] 1 w v) L w v) ::
    (fun _ _ _ => True) :: [])
    (⟨[(3, none)], 0, [6]⟩ :: ⟨[(58, some 0)], 0, [6]⟩ :: ⟨[(59, some 1)], 0, [6]⟩ :: ⟨[(1, none)], 0, [6]⟩ :: ⟨[(61, some 3)], 0, [6]⟩ :: ⟨[(62, some 4)], 0, [6]⟩ :: ⟨[(60, some 2), (63, some 5)], 0, []⟩ :: [])
    (none :: none :: none :: none :: none :: none :: none :: none :: none :: none :: none :: none :: none :: none :: none :: none :: none :: none :: none :: none :: none :: none :: none :: none :: none :: none :: none :: none :: none :: none :: none :: none :: none :: none :: none :: none :: none :: none :: none :: none :: none :: none :: none :: none :: none :: none :: none :: none :: none :: none :: none :: none :: none :: none :: none :: none :: none :: none :: some 0 :: some 1 :: some 2 :: some 3 :: some 4 :: some 5 :: some 6 :: [])
    (fun L w' => PutAt wr W g 30 u (cur ++ intE n) (L 6) w') (fun i w w' => i ≠ 6 → Below w.heap.size w w') ?mixK11 ?okK11 ?tabK11 ?frK11 ?inK11 ?keptK11 ?startK11 ?eachK11 ?finK11
  case mixK11 => kernel_rfl
  case okK11 => kernel_rfl
  case tabK11 => kernel_rfl
  case frK11 => kernel_rfl
  case inK11 => rfl
  case keptK11 => exact ⟨fun _ _ _ _ _ _ _ _ _ _ _ h => h, fun _ _ _ _ _ _ _ _ _ _ _ h => h, fun _ _ _ _ _ _ _ _ _ _ _ h => h, fun _ _ _ _ _ _ _ _ _ _ _ h => h, fun _ _ _ _ _ _ _ _ _ _ _ h => h, fun _ _ _ _ _ _ _ _ _ _ hG h => Till.keep h fun hne h => h.keep (hG hne), fun _ _ _ _ _ _ _ _ _ _ _ h => h, trivial⟩
  case startK11 => exact ⟨fun _ => (Below.refl _ _).drew, fun h => by simp at h⟩
  case eachK11 =>
    refine ⟨?_, ?_, ?_, ?_, ?_, ?_, ?_, trivial⟩
    -- 0: slot 58 := move t3
    · intro w L f hC hLi hLd hLn hF
      obtain ⟨d3, _⟩ := hF
      have d3 : f 3 = .pointer (some ⟨g, 0, none⟩) := d3
      refine Step2.live rfl ?_
      exact relUpon_value (v := f 3) rfl (hC) (fun _ => Below.refl _ _) d3
    -- 1: slot 59 := nilCheck t58
    · intro w L f hC hLi hLd hLn hF
      obtain ⟨d58, _⟩ := hF
      have d58 : f 58 = .pointer (some ⟨g, 0, none⟩) := d58
      refine Step2.live rfl ?_
      have ev : ∀ t, evalOf f (.tmp t) = f t := fun _ => rfl
      have ec : ∀ c, evalOf f (.const c) = c := fun _ => rfl
      have ef : ∀ g, evalOf f (.func g) = .func (.func g) #[] #[] := fun _ => rfl
      refine relUpon_value ?_ hC (fun _ => Below.refl _ _) rfl
      go_simp
    -- 2: slot 60 := fieldAddr 30 t59 0
    · intro w L f hC hLi hLd hLn hF
      obtain ⟨d59, _⟩ := hF
      have d59 : f 59 = .pointer (some ⟨g, 0, none⟩) := d59
      refine Step2.live rfl ?_
      have ev : ∀ t, evalOf f (.tmp t) = f t := fun _ => rfl
      have ec : ∀ c, evalOf f (.const c) = c := fun _ => rfl
      have ef : ∀ g, evalOf f (.func g) = .func (.func g) #[] #[] := fun _ => rfl
      refine relUpon_value ?_ hC (fun _ => Below.refl _ _) rfl
      go_simp
    -- 3: slot 61 := fieldAddr 86 t1 5
    · intro w L f hC hLi hLd hLn hF
      obtain ⟨d1, _⟩ := hF
      have d1 : f 1 = .pointer (some ⟨bx, 0, none⟩) := d1
      refine Step2.live rfl ?_
      have ev : ∀ t, evalOf f (.tmp t) = f t := fun _ => rfl
      have ec : ∀ c, evalOf f (.const c) = c := fun _ => rfl
      have ef : ∀ g, evalOf f (.func g) = .func (.func g) #[] #[] := fun _ => rfl
      refine relUpon_value ?_ hC (fun _ => Below.refl _ _) rfl
      go_simp
    -- 4: slot 62 := load 3 t61
    · intro w L f hC hLi hLd hLn hF
      obtain ⟨d61, _⟩ := hF
      have d61 : f 61 = .pointer (some ⟨bx, 5, none⟩) := d61
      refine Step2.live rfl ?_
      have hcell0 := ((hC.m (hLn 6 (by simp))).cell f5.out.1).trans f5.out.2
      have ev : ∀ t, evalOf f (.tmp t) = f t := fun _ => rfl
      have ec : ∀ c, evalOf f (.const c) = c := fun _ => rfl
      have ef : ∀ g, evalOf f (.func g) = .func (.func g) #[] #[] := fun _ => rfl
      refine relUpon_value ?_ hC (fun _ => Below.refl _ _) rfl
      go_simp
    -- 5: slot 63 := buildSlice 48 1 #[(0, t62)]
    · intro w L f hC hLi hLd hLn hF
      obtain ⟨d62, _⟩ := hF
      have d62 : f 62 = .int .i64 n := d62
      refine Step2.live rfl ?_
      have ev : ∀ t, evalOf f (.tmp t) = f t := fun _ => rfl
      have ec : ∀ c, evalOf f (.const c) = c := fun _ => rfl
      have ef : ∀ g, evalOf f (.func g) = .func (.func g) #[] #[] := fun _ => rfl
      refine relUpon_value (w' := w.alloc (.cells #[.int .i64 n] 2)) (v := .slice (some ⟨w.heap.size, 0, none⟩) 1 1) (by go_simp) (hC.alloc (hLn 6 (by simp)) _) (fun _ => below_new _ _) (fun _ => ⟨_, rfl, (hC.m (hLn 6 (by simp))).size, Holds.new _ _ _⟩)
    -- 6: slot 64 := call { value (Operand.func 16), args := #[t60, t63], argTypes := #[28, 48] }
    · intro w L f hC hLi hLd hLn hF
      obtain ⟨d60, d63, _⟩ := hF
      have d60 : f 60 = .pointer (some ⟨g, 0, none⟩) := d60
      refine Step2.live rfl ?_
      obtain ⟨kn, e0, hkn, hrow⟩ := d63 hLi
      have ev : ∀ t, evalOf f (.tmp t) = f t := fun _ => rfl
      have ec : ∀ c, evalOf f (.const c) = c := fun _ => rfl
      have ef : ∀ g, evalOf f (.func g) = .func (.func g) #[] #[] := fun _ => rfl
      refine relUpon_call (f := 16) (args := #[.pointer (some ⟨g, 0, none⟩), .slice (some ⟨kn, 0, none⟩) 1 1]) (w := w) (by go_simp) (int_puts (l2 := cur ++ intE n) (hC.m hLi) hw.out hB.out [n] 1 hrow hkn rfl rfl (by simpa [i64ok] using hn.out) (by have := hcl.out; omega) (by simp)) ?_
      intro e w1 hw1
      exact ⟨_, hw1.1, ⟨fun e => by simp at e, fun _ => by have := hw1.1; subst this; exact hw1⟩, fun h => absurd rfl h, trivial⟩
  intro x w' hC hV

  have hw1 := hC.d rfl
  clear hV hC
  simp only [framed]
  have hbo := hw1.below hw.out hB.out
  obtain ⟨-, ue, hue, _, _⟩ := hw1
  have hbwe := hbw.out.trans hbo
  have hBe := Nat.le_trans hB.out hbo.size
  have hcle : Hid ((cur ++ intE n).length ≤ 70000) := Lib.hid (by have := hcl.out; have := intE_len hn.out; simp only [List.length_append]; omega)
  obtain ⟨wr, hwr⟩ : ∃ x, x = w' := ⟨_, rfl⟩
  rw [← hwr] at hue hbwe hBe ⊢
  clear hwr hbo hw hbw hB hcl f5
  have hw := Lib.hid hue
  have hbw := Lib.hid hbwe
  have hB := Lib.hid hBe
  have hcl := hcle
  clear hue hbwe hBe hcle
  generalize cur ++ intE n = cur at hw hcl hrq
  obtain ⟨u, hu⟩ : ∃ x : Value, x = ue := ⟨_, rfl⟩
  rw [← hu] at hw
  clear hu
  have hcl3 : Hid (cur.length ≤ 100000000000) := Lib.hid (by have := hcl.out; omega)
  go_wp2_with fail
  refine (bytes_any wr W g _ u cur hw.out hcl3.out).mono ?_
  rintro e w9 ⟨A, c, rfl, h1, h2, h3, h4⟩
  go_wp2_with fail
  go_ret
  rw [hrq.out]
  exact ⟨A, c, rfl, h1, h4, hBb.out.trans ((hbw.out.mono hwW).trans (h2.mono (by have := hB.out; omega)))⟩
end Go.Proofs.Ytimhghmnnibajaa
