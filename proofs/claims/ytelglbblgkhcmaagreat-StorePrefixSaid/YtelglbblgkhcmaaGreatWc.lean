/-
  Package wal: the walks of fill and publish.
-/
import Derived.Test.YtelglbblgkhcmaaGreatWb
import Derived.Deep.DeepCutAuto
namespace Go.Proofs.YtelglbblgkhcmaaGreat
open Go.RowKit Go.Deep

/-- Bytes are laid into sectors, from a place on: what the disk is then, and the error's number. -/
def fillA : Nat → AD → Nat → Nat → List UInt8 → AD × Nat
  | 0, d, _, _, _ => (d, 0)
  | f + 1, d, sec, at_, b =>
    if b = [] then (d, 0)
    else if (d.write sec (splice (d.last sec) at_ (b.take (d.size - at_)))).2 ≠ 0 then d.write sec (splice (d.last sec) at_ (b.take (d.size - at_)))
    else fillA f (d.write sec (splice (d.last sec) at_ (b.take (d.size - at_)))).1 (sec + 1) 0 (b.drop (d.size - at_))
/-- The room of fill's loop. -/
structure FillL (w : World) (l : LR) (q : DR) (r0 : AD × Nat) (A : Option Addr) (b : List UInt8) (sec at_ f : Nat) (q' : DR) (wr : World) : Prop where
  eq : r0 = fillA f q'.abs sec at_ b
  row : RowAt wr A (b.map byteV)
  st : DStep q w q' wr
  log : LogP l q' wr
  dead : q'.dead = false
  n : q'.n = q.n
  size : q'.size = q.size
theorem AD.write_kept {d : AD} {i : Int} {l : List UInt8} (h : (d.write i l).2 = 0) : (d.write i l).1.dead = false ∧ (d.write i l).1.n = d.n ∧ (d.write i l).1.size = d.size := by
  unfold AD.write at h ⊢
  by_cases h1 : d.dead = true
  · rw [if_pos h1] at h; cases h
  rw [if_neg h1] at h ⊢
  by_cases h2 : d.powered.dead = true
  · rw [if_pos h2] at h; cases h
  rw [if_neg h2]
  refine ⟨by simpa [AD.wrote] using h2, ?_, ?_⟩ <;> (unfold AD.wrote AD.powered; simp only; split <;> (try split) <;> rfl)
theorem Left.mk' {q q' : DR} {w w' : World} {r : AD × Nat} {e : Ending} (he : e = .returned (.int .i64 r.2)) (hst : DStep q w q' w') (ha : q'.abs = r.1) : Left q w r e w' := ⟨he, q', hst, ha⟩
set_option maxRecDepth 100000 in
set_option maxHeartbeats 4000000 in
theorem fill_any (w : World) (l : LR) (q : DR) (hl : LogP l q w) (hq : DiskP q w) (hd : q.dead = false) (hn1 : 16 ≤ q.n) (h : Hdr) (ha : h.area ≤ 1) (A : Option Addr) (n c : Nat) (b : List UInt8) (hb : RowAt w A (b.map byteV)) (hn : b.length = n) (hc : n ≤ c) (hu : h.used + n ≤ half q.n * q.size) :
    Calls Tryz.prog 110 #[.pointer (some ⟨l.g, 0, none⟩), h.val, .slice A n c] w (Left q w (fillA n q.abs (2 + h.area * half q.n + h.used / q.size) (h.used % q.size) b)) := by
  have hn2 := hq.n2
  have hs2 := hq.s2
  have hs1 := hq.s1
  have hLg : Hid (LogP l q w) := Lib.hid hl
  have hD := Lib.hid hq
  have hdd := Lib.hid hd
  have hbr := Lib.hid hb
  have hbn := Lib.hid hn
  have hm : half q.n * q.size ≤ 2047 * 4096 := Nat.mul_le_mul (half_le q.n hn2) hs2
  have hb1 := below_new w (.cells #[.int .u64 h.serial, .int .i64 h.area, .int .i64 h.used, .int .i64 h.count] 100)
  have hH1 := Holds.new w 100 #[.int .u64 h.serial, .int .i64 h.area, .int .i64 h.used, .int .i64 h.count]
  have c0 := (hl.below hb1).c0
  have hsz := size_any _ q (hq.below hb1)
  clear hl hq hd hb hn
  unfold Hdr.val
  go_enter Tryz.func110, Tryz.ntmps110
  go_wp2_with fail
  refine hsz.mono ?_
  clear hsz
  rintro e w2 ⟨rfl, rfl⟩
  obtain ⟨g, hg⟩ : ∃ g, g = w.heap.size := ⟨_, rfl⟩
  rw [← hg] at hH1 ⊢
  have hB1 := Lib.hid hb1
  have hg' := Lib.hid hg
  have hH := Lib.hid hH1
  clear hb1 hH1 hg c0
  generalize w.alloc (.cells #[.int .u64 h.serial, .int .i64 h.area, .int .i64 h.used, .int .i64 h.count] 100) = wr at hB1 hH ⊢
  go_wp2_with fail
  have hL2 := Lib.hid (hLg.out.below (by have := hB1.out; exact this))
  have hD2 := Lib.hid (hD.out.below hB1.out)
  have hdv : h.used / q.size ≤ h.used := Nat.div_le_self _ _
  have hah : h.area * half q.n ≤ 1 * 2047 := Nat.mul_le_mul ha (half_le q.n hn2)
  have h00 := Int.natCast_nonneg (h.used / q.size)
  have h01 : ((h.used / q.size : Nat) : Int) ≤ (h.used : Int) := Int.ofNat_le.2 hdv
  have h02 := Int.natCast_nonneg (h.area * half q.n)
  have h03 : ((h.area * half q.n : Nat) : Int) ≤ 2047 := Int.ofNat_le.2 (by omega)
  have hdc : ((h.used / q.size : Nat) : Int) = (h.used : Int) / (q.size : Int) := by simp
  have hac : ((h.area * half q.n : Nat) : Int) = (h.area : Int) * (half q.n : Int) := by simp
  have hq1 : Hid (IntKind.i64.wrap ((h.used : Int) / (q.size : Int)) = (h.used : Int) / (q.size : Int)) := Lib.hid (by rw [← hdc]; exact IntWalk.i64_in _ (by omega))
  have hq2 : Hid (IntKind.i64.wrap (2 + (h.area : Int) * (half q.n : Int) + (h.used : Int) / (q.size : Int)) = 2 + (h.area : Int) * (half q.n : Int) + (h.used : Int) / (q.size : Int)) := Lib.hid (by rw [← hdc, ← hac]; exact IntWalk.i64_in _ (by omega))
  clear hdc hac h00 h01 h02 h03
  -- THE REGION THAT DRAWS ITS ORDER, BY ONE LEXICAL WALK OVER GENERIC VALUES (written by relgen.py)
  refine wp_region_tab ((fun _ v => v = .pointer (some ⟨l.g, 0, none⟩)) ::
    (fun _ v => v = shV q.n q.size) ::
    (fun _ v => v = .pointer (some ⟨g, 1, none⟩)) ::
    (fun _ v => v = .int .i64 h.area) ::
    (fun _ v => v = .int .i64 (2 + h.area * half q.n : Nat)) ::
    (fun _ v => v = .pointer (some ⟨g, 2, none⟩)) ::
    (fun _ v => v = .int .i64 h.used) ::
    (fun _ v => v = .int .i64 q.size) ::
    (fun _ v => v = .int .i64 ((h.used / q.size : Nat) : Int)) ::
    (fun _ v => v = .int .i64 ((2 + h.area * half q.n + h.used / q.size : Nat) : Int)) ::
    (fun _ v => v = .int .i64 ((2 + h.area * half q.n + h.used / q.size : Nat) : Int)) :: [])
    (⟨[(0, none)], 0, []⟩ :: ⟨[(21, some 0)], 0, []⟩ :: ⟨[(4, none)], 0, []⟩ :: ⟨[(23, some 2)], 0, []⟩ :: ⟨[(22, some 1), (24, some 3)], 0, []⟩ :: ⟨[(4, none)], 0, []⟩ :: ⟨[(26, some 5)], 0, []⟩ :: ⟨[(7, none)], 0, []⟩ :: ⟨[(27, some 6), (28, some 7)], 0, []⟩ :: ⟨[(25, some 4), (29, some 8)], 0, []⟩ :: ⟨[(30, some 9)], 0, []⟩ :: [])
    (none :: none :: none :: none :: none :: none :: none :: none :: some 10 :: none :: none :: none :: none :: none :: none :: none :: none :: none :: none :: none :: none :: some 0 :: some 1 :: some 2 :: some 3 :: some 4 :: some 5 :: some 6 :: some 7 :: some 8 :: some 9 :: [])
    (fun _ w' => Below wr.heap.size wr w') (fun _ w w' => Below w.heap.size w w') ?mixK2fill2 ?okK2fill2 ?tabK2fill2 ?frK2fill2 ?inK2fill2 ?keptK2fill2 ?startK2fill2 ?eachK2fill2 ?finK2fill2
  case mixK2fill2 => kernel_rfl
  case okK2fill2 => kernel_rfl
  case tabK2fill2 => kernel_rfl
  case frK2fill2 => kernel_rfl
  case inK2fill2 => rfl
  case keptK2fill2 => exact ⟨fun _ _ _ _ _ _ _ h => h, fun _ _ _ _ _ _ _ h => h, fun _ _ _ _ _ _ _ h => h, fun _ _ _ _ _ _ _ h => h, fun _ _ _ _ _ _ _ h => h, fun _ _ _ _ _ _ _ h => h, fun _ _ _ _ _ _ _ h => h, fun _ _ _ _ _ _ _ h => h, fun _ _ _ _ _ _ _ h => h, fun _ _ _ _ _ _ _ h => h, fun _ _ _ _ _ _ _ h => h, trivial⟩
  case startK2fill2 => exact (Below.refl _ _).drew
  case eachK2fill2 =>
    refine ⟨?_, ?_, ?_, ?_, ?_, ?_, ?_, ?_, ?_, ?_, ?_, trivial⟩
    -- 0: slot 21 := move t0
    · intro w L f hC hLi hLd hLn hF
      obtain ⟨d0, _⟩ := hF
      have d0 : f 0 = .pointer (some ⟨l.g, 0, none⟩) := d0
      refine Step2.live rfl ?_
      exact relUpon_value (v := f 0) rfl (hC) (Below.refl _ _) d0
    -- 1: slot 22 := call { value (Operand.func 72), args := #[t21], argTypes := #[53] }
    · intro w L f hC hLi hLd hLn hF
      obtain ⟨d21, _⟩ := hF
      have d21 : f 21 = .pointer (some ⟨l.g, 0, none⟩) := d21
      refine Step2.live rfl ?_
      have ev : ∀ t, evalOf f (.tmp t) = f t := fun _ => rfl
      have ec : ∀ c, evalOf f (.const c) = c := fun _ => rfl
      have ef : ∀ g, evalOf f (.func g) = .func (.func g) #[] #[] := fun _ => rfl
      refine relUpon_call (f := 72) (args := #[.pointer (some ⟨l.g, 0, none⟩)]) (w := w) (by go_simp) (lshape_any w l q (hL2.out.below hC) (hD2.out.below hC)) ?_
      rintro e w1 ⟨he, hB⟩
      exact ⟨_, he, hC.trans (hB.mono hC.size), hB, rfl⟩
    -- 2: slot 23 := fieldAddr 100 t4 1
    · intro w L f hC hLi hLd hLn hF
      obtain ⟨d4, _⟩ := hF
      have d4 : f 4 = .pointer (some ⟨g, 0, none⟩) := d4
      refine Step2.live rfl ?_
      have ev : ∀ t, evalOf f (.tmp t) = f t := fun _ => rfl
      have ec : ∀ c, evalOf f (.const c) = c := fun _ => rfl
      have ef : ∀ g, evalOf f (.func g) = .func (.func g) #[] #[] := fun _ => rfl
      refine relUpon_value ?_ hC (Below.refl _ _) rfl
      go_simp
    -- 3: slot 24 := load 3 t23
    · intro w L f hC hLi hLd hLn hF
      obtain ⟨d23, _⟩ := hF
      have d23 : f 23 = .pointer (some ⟨g, 1, none⟩) := d23
      refine Step2.live rfl ?_
      have f0 := (hC.cell (p := ⟨g, 1, none⟩) hH.out.lt).trans (hH.out.cell 1)
      have ev : ∀ t, evalOf f (.tmp t) = f t := fun _ => rfl
      have ec : ∀ c, evalOf f (.const c) = c := fun _ => rfl
      have ef : ∀ g, evalOf f (.func g) = .func (.func g) #[] #[] := fun _ => rfl
      refine relUpon_value ?_ hC (Below.refl _ _) rfl
      go_simp
    -- 4: slot 25 := call { value (Operand.func 73), args := #[t22, t24], argTypes := #[139, 3] }
    · intro w L f hC hLi hLd hLn hF
      obtain ⟨d22, d24, _⟩ := hF
      have d22 : f 22 = shV q.n q.size := d22
      have d24 : f 24 = .int .i64 h.area := d24
      refine Step2.live rfl ?_
      have ev : ∀ t, evalOf f (.tmp t) = f t := fun _ => rfl
      have ec : ∀ c, evalOf f (.const c) = c := fun _ => rfl
      have ef : ∀ g, evalOf f (.func g) = .func (.func g) #[] #[] := fun _ => rfl
      refine relUpon_call (f := 73) (args := #[shV q.n q.size, .int .i64 h.area]) (w := w) (by go_simp) (first_any w q.n q.size h.area hn1 hn2 ha) ?_
      rintro e w1 ⟨he, hB⟩
      exact ⟨_, he, hC.trans (hB.mono hC.size), hB, rfl⟩
    -- 5: slot 26 := fieldAddr 100 t4 2
    · intro w L f hC hLi hLd hLn hF
      obtain ⟨d4, _⟩ := hF
      have d4 : f 4 = .pointer (some ⟨g, 0, none⟩) := d4
      refine Step2.live rfl ?_
      have ev : ∀ t, evalOf f (.tmp t) = f t := fun _ => rfl
      have ec : ∀ c, evalOf f (.const c) = c := fun _ => rfl
      have ef : ∀ g, evalOf f (.func g) = .func (.func g) #[] #[] := fun _ => rfl
      refine relUpon_value ?_ hC (Below.refl _ _) rfl
      go_simp
    -- 6: slot 27 := load 3 t26
    · intro w L f hC hLi hLd hLn hF
      obtain ⟨d26, _⟩ := hF
      have d26 : f 26 = .pointer (some ⟨g, 2, none⟩) := d26
      refine Step2.live rfl ?_
      have f0 := (hC.cell (p := ⟨g, 2, none⟩) hH.out.lt).trans (hH.out.cell 2)
      have ev : ∀ t, evalOf f (.tmp t) = f t := fun _ => rfl
      have ec : ∀ c, evalOf f (.const c) = c := fun _ => rfl
      have ef : ∀ g, evalOf f (.func g) = .func (.func g) #[] #[] := fun _ => rfl
      refine relUpon_value ?_ hC (Below.refl _ _) rfl
      go_simp
    -- 7: slot 28 := move t7
    · intro w L f hC hLi hLd hLn hF
      obtain ⟨d7, _⟩ := hF
      have d7 : f 7 = .int .i64 q.size := d7
      refine Step2.live rfl ?_
      exact relUpon_value (v := f 7) rfl (hC) (Below.refl _ _) d7
    -- 8: slot 29 := binOp BinOp.quo 3 t27 t28 3
    · intro w L f hC hLi hLd hLn hF
      obtain ⟨d27, d28, _⟩ := hF
      have d27 : f 27 = .int .i64 h.used := d27
      have d28 : f 28 = .int .i64 q.size := d28
      refine Step2.live rfl ?_
      have ev : ∀ t, evalOf f (.tmp t) = f t := fun _ => rfl
      have ec : ∀ c, evalOf f (.const c) = c := fun _ => rfl
      have ef : ∀ g, evalOf f (.func g) = .func (.func g) #[] #[] := fun _ => rfl
      refine relUpon_value ?_ hC (Below.refl _ _) rfl
      go_simp
      rw [if_neg (by omega), hq1.out]
    -- 9: slot 30 := binOp BinOp.add 3 t25 t29 3
    · intro w L f hC hLi hLd hLn hF
      obtain ⟨d25, d29, _⟩ := hF
      have d25 : f 25 = .int .i64 (2 + h.area * half q.n : Nat) := d25
      have d29 : f 29 = .int .i64 ((h.used / q.size : Nat) : Int) := d29
      refine Step2.live rfl ?_
      have ev : ∀ t, evalOf f (.tmp t) = f t := fun _ => rfl
      have ec : ∀ c, evalOf f (.const c) = c := fun _ => rfl
      have ef : ∀ g, evalOf f (.func g) = .func (.func g) #[] #[] := fun _ => rfl
      refine relUpon_value ?_ hC (Below.refl _ _) rfl
      go_simp
      exact hq2.out
    -- 10: slot 8 := assign t30
    · intro w L f hC hLi hLd hLn hF
      obtain ⟨d30, _⟩ := hF
      have d30 : f 30 = .int .i64 ((2 + h.area * half q.n + h.used / q.size : Nat) : Int) := d30
      refine Step2.live rfl ?_
      exact relUpon_value (v := f 30) rfl (hC) (Below.refl _ _) d30
  intro x w' hC hV

  have e8 := hV 10 _ rfl rfl
  clear hV
  simp only [framed]
  rw [e8]
  clear e8
  have hB2 : Hid (Below w.heap.size w w') := Lib.hid (hB1.out.trans (hC.mono hB1.out.size))
  have hH3 := Lib.hid (hH.out.below hC hH.out.lt)
  clear hC hL2 hD2 hH hB1
  obtain ⟨w1, hw1⟩ : ∃ x, x = w' := ⟨_, rfl⟩
  rw [← hw1] at hB2 hH3 ⊢
  clear hw1
  have c2 := hH3.out.cell 2
  have hsz0 : ¬ q.size = 0 := by omega
  go_wp2_with fail
  have hqw := hD.out
  have hst0 : DStep q w q w1 := (DStep.refl hqw).below hB2.out
  obtain ⟨top, htop⟩ : ∃ top, top = 2 + h.area * half q.n + half q.n := ⟨_, rfl⟩
  have htn : Hid (top ≤ q.n) := Lib.hid (by
    have h2 : h.area = 0 ∨ h.area = 1 := by omega
    unfold half at htop
    rcases h2 with e | e <;> rw [e] at htop <;> omega)
  obtain ⟨r0, hr0⟩ : ∃ r0, r0 = fillA n q.abs (2 + h.area * half q.n + h.used / q.size) (h.used % q.size) b := ⟨_, rfl⟩
  have hF0 : Hid (FillL w l q r0 A b (2 + h.area * half q.n + h.used / q.size) (h.used % q.size) n q w1) := Lib.hid ⟨hr0, hbr.out.below hB2.out, hst0, hLg.out.below hB2.out, hdd.out, rfl, rfl⟩
  have hr0' := Lib.hid hr0
  clear hr0 hst0 hqw c2
  have hmod : h.used % q.size < q.size := Nat.mod_lt _ (by omega)
  have hdm : Hid ((2 + h.area * half q.n + h.used / q.size) * q.size + h.used % q.size + n ≤ top * q.size) := Lib.hid (by
    have e1 := Nat.div_add_mod h.used q.size
    have e2 : q.size * (h.used / q.size) = h.used / q.size * q.size := Nat.mul_comm _ _
    rw [htop, Nat.add_mul, Nat.add_mul (2 + h.area * half q.n)]
    omega)
  clear htop
  go_loopw [2, 8, 9] (fun bv sv av wr => ∃ (A' : Option Addr) (b' : List UInt8) (c' sec at_ f : Nat) (q' : DR), bv = .slice A' b'.length c' ∧ sv = .int .i64 (sec : Nat) ∧ av = .int .i64 (at_ : Nat) ∧ b'.length ≤ c' ∧ b'.length ≤ f ∧ at_ < q.size ∧ Hid (sec * q.size + at_ + b'.length ≤ top * q.size) ∧ Hid (FillL w l q r0 A' b' sec at_ f q' wr)) (fun bv _ _ _ => lenOf bv)
  case atStart => exact ⟨A, b, c, _, _, n, q, by rw [hbn.out], by simp, by simp, by rw [hbn.out]; exact hc, by rw [hbn.out]; exact Nat.le_refl _, hmod, by rw [hbn.out]; exact hdm, hF0⟩
  obtain ⟨A', b', c', sec, at_, f, q', rfl, rfl, rfl, hc', hf, hat, hbd, hF⟩ := hrel
  by_cases hbe : b' = []
  · subst hbe
    have hfin : Hid (Left q w r0 (.returned (.int .i64 (0 : Nat))) wr) := Lib.hid (by
      obtain ⟨h1, _, h3, _⟩ := hF.out
      have h2 : r0 = (q'.abs, 0) := by rw [h1]; cases f <;> simp [fillA]
      exact Left.mk' (by rw [h2]) h3 (by rw [h2]))
    clear hF
    go_wp2_with fail
    go_ret
    rw [← hr0'.out]
    exact hfin.out
  obtain ⟨m, hm⟩ : ∃ m, m = b'.length := ⟨_, rfl⟩
  rw [← hm] at hc' hf hbd ⊢
  have hm0 : 0 < m := by rw [hm]; exact List.length_pos_iff.2 hbe
  obtain ⟨f, rfl⟩ : ∃ f1, f = f1 + 1 := ⟨f - 1, by omega⟩
  have hbe' := Lib.hid hbe
  have hm' := Lib.hid hm
  clear hbe hm
  obtain ⟨bb, bo, hA', _⟩ := hF.out.row (by simpa using hbe'.out)
  subst hA'
  have hD' := Lib.hid hF.out.st.post
  have hL' := Lib.hid hF.out.log
  have hrw := Lib.hid hF.out.row
  have c0 := hL'.out.c0
  have hqn := Lib.hid hF.out.n
  have hqs := Lib.hid hF.out.size
  have hst' := Lib.hid hF.out.st
  have hsec : Hid (sec < q'.n) := Lib.hid (by
    rw [hqn.out]
    have h1 := hbd.out
    have h2 := htn.out
    rcases Nat.lt_or_ge sec q.n with h | h
    · exact h
    · have h3 : top * q.size ≤ sec * q.size := Nat.mul_le_mul_right _ (by omega)
      omega)
  have hsec2 : sec < 4096 := by have := hsec.out; rw [hqn.out] at this; omega
  have hrd := read_ok wr q' hD'.out hF.out.dead (sec : Int) (by have := hsec.out; omega)
  rw [hqs.out] at hrd
  go_wp2_with fail
  refine hrd.mono ?_
  clear hrd
  rintro e w2 ⟨⟨gb, cb, rfl, hbuf⟩, hb2⟩
  have hlw : Hid ((q'.last sec).length = q.size) := Lib.hid (by rw [hD'.out.last_len, hqs.out])
  obtain ⟨whole, hwh⟩ : ∃ x, x = q'.last sec := ⟨_, rfl⟩
  rw [← hwh] at hbuf hlw
  have hcb : q.size ≤ cb := by
    obtain ⟨_, _, _, h3, _⟩ := hbuf.parts
    rw [hlw.out] at h3
    exact h3
  have hbuf' := Lib.hid hbuf
  have hgb : Hid (wr.heap.size ≤ gb) := Lib.hid (by obtain ⟨_, h1, _⟩ := hbuf.parts; exact h1)
  have hb2' := Lib.hid hb2
  have hwh' := Lib.hid hwh
  clear hbuf hb2 hwh
  have hrw2 := Lib.hid (hrw.out.below hb2'.out)
  have hL2 := Lib.hid (hL'.out.below hb2'.out)
  have hD2 := Lib.hid (hD'.out.below hb2'.out)
  have hnc : ¬ cb = at_ := by omega
  have hai : (at_ : Int) ≤ (q.size : Int) := by omega
  obtain ⟨k, hk⟩ : ∃ k, k = Nat.min m (q.size - at_) := ⟨_, rfl⟩
  have hk0 : 0 < k := by rw [hk]; exact Nat.lt_min.2 ⟨hm0, by omega⟩
  have hk1 : k ≤ m := by rw [hk]; exact Nat.min_le_left _ _
  have hk2 : k ≤ q.size - at_ := by rw [hk]; exact Nat.min_le_right _ _
  have hk' := Lib.hid hk
  clear hk
  have htk : Hid ((b'.take (q.size - at_)).length = k) := Lib.hid (by rw [List.length_take, ← hm'.out, hk'.out, Nat.min_comm])
  have c02 := hL2.out.c0
  go_wp2_with
    (with_reducible refine at_slot 54 ?_
     go_loud (refine wpList_copy_buf rfl _ rfl (.tmp 52) (.tmp 53) 37 37 rfl Tryz.underlying37 wr.heap.size gb cb whole hbuf'.out at_ (q.size - at_) (cb - at_) (by rfl) (by rw [hlw.out]; omega) (some ⟨bb, bo, none⟩) m c' (b'.take (q.size - at_)) rfl (by rw [htk.out, hk'.out]) (hrw2.out.take (q.size - at_)) ?_)
     intro w4 hb4 hg4
     rw [htk.out]
     have hB4 : Hid (Below wr.heap.size wr w4) := Lib.hid (hb2'.out.trans ((Writes.of_grown hg4 (M := [some gb]) (by simp)).below hb2'.out.size (fun j hj => by simp at hj; have := hgb.out; omega)))
     have hb4' := Lib.hid hb4
     have c04 := (hL'.out.below hB4.out).c0
     clear hb4 hg4)
  have hD4 := Lib.hid (hD'.out.below hB4.out)
  obtain ⟨nw, hnw⟩ : ∃ x, x = splice whole at_ (b'.take (q.size - at_)) := ⟨_, rfl⟩
  have hnl : nw.length = q.size := by
    rw [hnw, length_splice _ _ _ (by rw [hlw.out, htk.out]; omega), hlw.out]
  rw [← hnw] at hb4'
  have hnw' := Lib.hid hnw
  clear hnw
  have hwt := write_abs w4 q' hD4.out (sec : Int) (by have := hsec.out; omega) (some ⟨gb, 0, none⟩) q.size cb nw hnl hqs.out.symm hb4'.out.rowAt
  refine hwt.mono ?_
  clear hwt
  rintro e w5 ⟨rfl, q2, hst5, hab⟩
  obtain ⟨r, hr⟩ : ∃ r, r = q'.abs.write sec nw := ⟨_, rfl⟩
  rw [← hr] at hab ⊢
  have hF1 : Hid (r0 = if r.2 ≠ 0 then r else fillA f r.1 (sec + 1) 0 (b'.drop (q.size - at_))) := Lib.hid (by
    have h1 := hF.out.eq
    have h2 : q'.abs.write sec (splice (q'.abs.last sec) at_ (b'.take (q'.abs.size - at_))) = r := by
      rw [hr, hnw'.out, hwh'.out, abs_last]
      show q'.abs.write sec (splice (q'.last sec) at_ (b'.take (q'.size - at_))) = _
      rw [hqs.out]
    have h3 : q'.abs.size = q.size := hqs.out
    rw [h1, fillA, if_neg hbe'.out, h2, h3])
  have hrow5 : Hid (RowAt w5 (some ⟨bb, bo, none⟩) (b'.map byteV)) := Lib.hid (hst5.bytes hD4.out (hrw.out.below hB4.out))
  have hL5 : Hid (LogP l q2 w5) := Lib.hid ((hL'.out.below hB4.out).dstep hD4.out hst5)
  have hst6 : Hid (DStep q w q2 w5) := Lib.hid (hst'.out.trans (DStep.ahead hD'.out hB4.out hst5))
  have hab' : Hid (q2.abs = r.1) := Lib.hid hab
  have hkeep : Hid (r.2 = 0 → q2.dead = false ∧ q2.n = q.n ∧ q2.size = q.size) := Lib.hid (fun h0 => by
    obtain ⟨h1, h2, h3⟩ := AD.write_kept (d := q'.abs) (i := sec) (l := nw) (by rw [← hr]; exact h0)
    rw [← hr, ← hab] at h1 h2 h3
    exact ⟨h1, h2.trans hqn.out, h3.trans hqs.out⟩)
  obtain ⟨err, herr⟩ : ∃ err, err = r.2 := ⟨_, rfl⟩
  rw [← herr] at hkeep hF1 ⊢
  have herr' := Lib.hid herr
  clear hr herr hab hst5 hF hst' hrw hL' hrw2 hL2 hD2 hD4 hB4 hb4' hbuf' hb2' c0 c02 c04 hD' hgb
  by_cases hz : err = 0
  · subst hz
    obtain ⟨hk1', hk2', hk3'⟩ := hkeep.out rfl
    have hF2 : Hid (r0 = fillA f r.1 (sec + 1) 0 (b'.drop (q.size - at_))) := Lib.hid (by have := hF1.out; simpa using this)
    have hd1 := Lib.hid hk1'
    have hd2 := Lib.hid hk2'
    have hd3 := Lib.hid hk3'
    clear hkeep hF1 hk1' hk2' hk3'
    have hsw : IntKind.i64.wrap ((sec : Int) + 1) = ((sec + 1 : Nat) : Int) := by rw [IntWalk.i64_in _ (by omega)]; omega
    have hki : (k : Int) ≤ (m : Int) := by omega
    have hlt : sec < top := by
      rcases Nat.lt_or_ge sec top with h | h
      · exact h
      · have h3 : top * q.size ≤ sec * q.size := Nat.mul_le_mul_right _ h
        have := hbd.out
        omega
    have hmul : (sec + 1) * q.size ≤ top * q.size := Nat.mul_le_mul_right _ hlt
    have hdl : (b'.drop (q.size - at_)).length = m - k := by
      rw [List.length_drop, ← hm'.out]
      have h1 := hk'.out
      rcases Nat.le_total m (q.size - at_) with h2 | h2
      · rw [show Nat.min m (q.size - at_) = m from Nat.min_eq_left h2] at h1; omega
      · rw [show Nat.min m (q.size - at_) = q.size - at_ from Nat.min_eq_right h2] at h1; omega
    have hbd2 : (sec + 1) * q.size + 0 + (m - k) ≤ top * q.size := by
      have h1 := hk'.out
      have h4 := hbd.out
      rcases Nat.le_total m (q.size - at_) with h2 | h2
      · rw [show Nat.min m (q.size - at_) = m from Nat.min_eq_left h2] at h1; omega
      · rw [show Nat.min m (q.size - at_) = q.size - at_ from Nat.min_eq_right h2] at h1
        rw [Nat.succ_mul]
        omega
    have hdrop : Hid (∀ A2, A2 = some ⟨bb, bo + k, none⟩ ∨ m = k → RowAt w5 A2 ((b'.drop (q.size - at_)).map byteV)) := Lib.hid (by
      rintro A2 h1
      by_cases h2 : m = k
      · intro h3
        have : (b'.drop (q.size - at_)).length = 0 := by omega
        exact absurd (by rw [List.length_eq_zero_iff.1 this]; rfl) h3
      · rcases h1 with rfl | h1
        · have h3 : k = q.size - at_ := by
            have h1 := hk'.out
            rcases Nat.le_total m (q.size - at_) with h4 | h4
            · rw [show Nat.min m (q.size - at_) = m from Nat.min_eq_left h4] at h1; omega
            · rw [show Nat.min m (q.size - at_) = q.size - at_ from Nat.min_eq_right h4] at h1; exact h1
          have h5 := hrow5.out.sub (q.size - at_) m
          rw [List.take_of_length_le (by rw [hdl]; omega), ← h3] at h5
          rw [← h3]
          exact h5
        · exact absurd h1 h2)
    have hrnd : Hid (∀ A2 c2, (A2 = some ⟨bb, bo + k, none⟩ ∨ m = k) → m - k ≤ c2 → ∃ (A' : Option Addr) (b' : List UInt8) (c' sec' at_ f : Nat) (q' : DR), Value.slice A2 (m - k) c2 = .slice A' b'.length c' ∧ Value.int .i64 ((sec + 1 : Nat) : Int) = .int .i64 (sec' : Nat) ∧ Value.int .i64 0 = .int .i64 (at_ : Nat) ∧ b'.length ≤ c' ∧ b'.length ≤ f ∧ at_ < q.size ∧ Hid (sec' * q.size + at_ + b'.length ≤ top * q.size) ∧ Hid (FillL w l q r0 A' b' sec' at_ f q' w5)) := Lib.hid (fun A2 c2 h1 h2 =>
      ⟨A2, b'.drop (q.size - at_), c2, sec + 1, 0, f, q2, by rw [hdl], rfl, rfl, by rw [hdl]; exact h2, by rw [hdl]; omega, by omega, by rw [hdl]; exact Lib.hid hbd2,
        Lib.hid ⟨by rw [hF2.out, hab'.out], hdrop.out A2 h1, hst6.out, hL5.out, hd1.out, hd2.out, hd3.out⟩⟩)
    clear hmul hdl hbd2 hdrop hrow5 hst6 hL5 hF2 hab' hd1 hd2 hd3 hlt
    by_cases hck : c' = k
    · subst hck
      obtain rfl : m = c' := by omega
      go_wp2_with fail
      have := hrnd.out (some ⟨bb, bo, none⟩) 0 (by simp) (by omega)
      refine ⟨by simpa using this, by simp [lenOf]; omega⟩
    · go_wp2_with fail
      have := hrnd.out (some ⟨bb, bo + k, none⟩) (c' - k) (by simp) (by omega)
      refine ⟨by simpa using this, by simp [lenOf]; omega⟩
  · have hfin : Hid (Left q w r0 (.returned (.int .i64 err)) w5) := Lib.hid (by
      have h1 := hF1.out
      rw [if_pos hz] at h1
      exact Left.mk' (by rw [h1, ← herr'.out]) hst6.out (by rw [h1]; exact hab'.out))
    have hz1 : ((err : Int) == 0) = false := by simp; omega
    have hz2 : ((err : Int) != 0) = true := by simp; omega
    go_wp2_with fail
    go_ret
    rw [← hr0'.out]
    exact hfin.out
end Go.Proofs.YtelglbblgkhcmaaGreat
namespace Go.Proofs.YtelglbblgkhcmaaGreat
open Go.RowKit Go.Deep

def pubSlot (slot : Nat) : Nat := if slot = 0 then 1 else 0
def pubSerial (serial : Nat) (x : UInt8) : Nat := if (serial + 1) % 256 = x.toNat then serial + 2 else serial + 1
def lastB (b : List UInt8) : UInt8 := b.getD (b.length - 1) 0
/-- A log and its disk have turned. -/
structure LStep (l : LR) (q : DR) (w : World) (l' : LR) (q' : DR) (w' : World) : Prop where
  wrt : Writes [some l.g, some q.g, some q.md, some q.mw] w w'
  post : DiskP q' w'
  log : LogP l' q' w'
  lg : l'.g = l.g
  g : q'.g = q.g
  md : q'.md = q.md ∨ w.heap.size ≤ q'.md
  mw : q'.mw = q.mw ∨ w.heap.size ≤ q'.mw
  foot : ∀ k p, q'.has k p → ∀ x, blk p.A = some x → q.F x ∨ w.heap.size ≤ x
/-- The header that is published. -/
def pubH (d : AD) (l : LR) (h : Hdr) : Hdr := ⟨pubSerial l.serial (lastB (d.last (pubSlot l.slot))), h.area, h.used, h.count⟩
def pubL (d : AD) (l : LR) (h : Hdr) : LR := ⟨l.g, (pubH d l h).serial, h.area, h.used, h.count, pubSlot l.slot⟩
/-- A header is written into the other slot, and made sure: the disk, the log, the error's number. -/
def pubA (d : AD) (l : LR) (h : Hdr) : AD × LR × Nat :=
  if (d.write (pubSlot l.slot) (hbytes (pubH d l h) d.n d.size)).2 ≠ 0 then ((d.write (pubSlot l.slot) (hbytes (pubH d l h) d.n d.size)).1, l, (d.write (pubSlot l.slot) (hbytes (pubH d l h) d.n d.size)).2)
  else if (d.write (pubSlot l.slot) (hbytes (pubH d l h) d.n d.size)).1.flush.2 ≠ 0 then ((d.write (pubSlot l.slot) (hbytes (pubH d l h) d.n d.size)).1.flush.1, l, (d.write (pubSlot l.slot) (hbytes (pubH d l h) d.n d.size)).1.flush.2)
  else ((d.write (pubSlot l.slot) (hbytes (pubH d l h) d.n d.size)).1.flush.1, pubL d l h, 0)
def LeftL (l : LR) (q : DR) (w : World) (r : AD × LR × Nat) (e : Ending) (w' : World) : Prop := e = .returned (.int .i64 r.2.2) ∧ ∃ q', LStep l q w r.2.1 q' w' ∧ q'.abs = r.1
section
variable {l l' l'' : LR} {q q' q'' : DR} {w w' w'' : World}
theorem LStep.of_dstep (hl : LogP l q w) (hq : DiskP q w) (h : DStep q w q' w') : LStep l q w l q' w' :=
  ⟨h.wrt.more (by simp), h.post, hl.dstep hq h, rfl, h.g, h.md, h.mw, h.foot⟩
theorem LStep.F (h : LStep l q w l' q' w') : ∀ x, q'.F x → q.F x ∨ w.heap.size ≤ x := by
  rintro x (rfl | rfl | rfl | ⟨k, p, hp, hx⟩)
  · exact .inl (.inl h.g)
  · rcases h.md with e | e
    · exact .inl (.inr (.inl e))
    · exact .inr e
  · rcases h.mw with e | e
    · exact .inl (.inr (.inr (.inl e)))
    · exact .inr e
  · exact h.foot k p hp x hx
theorem LStep.trans (h : LStep l q w l' q' w') (h' : LStep l' q' w' l'' q'' w'') : LStep l q w l'' q'' w'' := by
  have hs := h.wrt.size
  refine ⟨h.wrt.then_ h'.wrt (fun k hk e => ?_), h'.post, h'.log, h'.lg.trans h.lg, h'.g.trans h.g, ?_, ?_, fun k p hp x hx => ?_⟩
  · simp only [List.mem_cons, Option.some.injEq, List.not_mem_nil, or_false] at e ⊢
    rcases e with rfl | rfl | rfl | rfl
    · exact .inl h.lg
    · exact .inr (.inl h.g)
    · rcases h.md with e | e
      · exact .inr (.inr (.inl e))
      · omega
    · rcases h.mw with e | e
      · exact .inr (.inr (.inr e))
      · omega
  · rcases h'.md with e | e
    · rw [e]; exact h.md
    · exact .inr (by omega)
  · rcases h'.mw with e | e
    · rw [e]; exact h.mw
    · exact .inr (by omega)
  · rcases h'.foot k p hp x hx with e | e
    · exact h.F x e
    · exact .inr (by omega)
/-- A block beside the disk stays. -/
theorem DStep.other {g : Nat} {t : TypeId} {cs : Array Value} (h : DStep q w q' w') (hh : Holds w g t cs) (hn : ¬ q.F g) : Holds w' g t cs ∧ ¬ q'.F g := by
  have hlt := Holds.lt hh
  refine ⟨h.wrt.holds hh (by simp; exact ⟨fun e => hn (.inl e), fun e => hn (.inr (.inl e)), fun e => hn (.inr (.inr (.inl e)))⟩), fun hx => ?_⟩
  rcases h.F g hx with e | e
  · exact hn e
  · omega
theorem LStep.refl (hl : LogP l q w) (hq : DiskP q w) : LStep l q w l q w := .of_dstep hl hq (.refl hq)
theorem LStep.below (h : LStep l q w l' q' w') (hb : Below w'.heap.size w' w'') : LStep l q w l' q' w'' := h.trans (.of_dstep h.log h.post ((DStep.refl h.post).below hb))
theorem LStep.ahead (hl : LogP l q w) (hq : DiskP q w) (hb : Below w.heap.size w w') (h : LStep l q w' l' q' w'') : LStep l q w l' q' w'' :=
  (LStep.of_dstep hl hq ((DStep.refl hq).below hb)).trans h
/-- The log alone has been written. -/
theorem LStep.logged (hl : LogP l q w) (hq : DiskP q w) (hw : Writes [some l.g] w w') (hg : l'.g = l.g) (hl' : LogP l' q w') : LStep l q w l' q w' :=
  ⟨hw.more (by simp), hq.logged hl hw, hl', hg, rfl, .inl rfl, .inl rfl, fun k p hp _ hx => .inl (.inr (.inr (.inr ⟨k, p, hp, hx⟩)))⟩
end
set_option maxRecDepth 100000 in
set_option maxHeartbeats 4000000 in
theorem publish_any (w : World) (l : LR) (q : DR) (hl : LogP l q w) (hq : DiskP q w) (hd : q.dead = false) (hn1 : 16 ≤ q.n) (hs3 : 128 ≤ q.size) (h : Hdr) (ha : h.area ≤ 1) (hu : h.used ≤ 1000000000) (hc : h.count ≤ 1000000000) (hsr : l.serial ≤ 4611686018427387904) :
    Calls Tryz.prog 112 #[.pointer (some ⟨l.g, 0, none⟩), h.val] w (LeftL l q w (pubA q.abs l h)) := by
  have hn2 := hq.n2
  have hs2 := hq.s2
  have hLg : Hid (LogP l q w) := Lib.hid hl
  have hD := Lib.hid hq
  have hdd := Lib.hid hd
  have hb1 := below_new w (.cells #[.int .u64 h.serial, .int .i64 h.area, .int .i64 h.used, .int .i64 h.count] 100)
  have hH1 := Holds.new w 100 #[.int .u64 h.serial, .int .i64 h.area, .int .i64 h.used, .int .i64 h.count]
  clear hl hq hd
  unfold Hdr.val
  go_enter Tryz.func112, Tryz.ntmps112
  go_upto_region 2 with (fail)
  obtain ⟨g, hg⟩ : ∃ g, g = w.heap.size := ⟨_, rfl⟩
  rw [← hg] at hH1 ⊢
  have hB1 := Lib.hid hb1
  have hg' := Lib.hid hg
  have hH := Lib.hid hH1
  clear hb1 hH1 hg
  generalize w.alloc (.cells #[.int .u64 h.serial, .int .i64 h.area, .int .i64 h.used, .int .i64 h.count] 100) = wr at hB1 hH ⊢
  have hL1 := Lib.hid (hLg.out.below (by have := hB1.out; exact this))
  have hD1 := Lib.hid (hD.out.below hB1.out)
  have c5 := hL1.out.c5
  obtain ⟨k, hk⟩ : ∃ k, k = pubSlot l.slot := ⟨_, rfl⟩
  have hk1 : k ≤ 1 := by rw [hk]; unfold pubSlot; split <;> omega
  have hke := Lib.hid hk
  clear hk
  go_upto_if 14 with (fail)
  go_cut [5] (fun s wc => s = .int .i64 (k : Nat) ∧ wc = wr)
  case' first =>
    have hk2 := hke.out
    unfold pubSlot at hk2
    by_cases e : l.slot = 0
    · rw [if_pos e] at hk2
      have hz : ((l.slot : Int) == 0) = true := by simp [e]
      have hke2 := Lib.hid hk2
      clear hk2 e
      go_wp2_with fail
      go_meet
      case rel => exact ⟨by rw [hke2.out]; rfl, rfl⟩
    · rw [if_neg e] at hk2
      have hz : ((l.slot : Int) == 0) = false := by simp; omega
      have hke2 := Lib.hid hk2
      clear hk2 e
      go_wp2_with fail
      go_meet
      case rel => exact ⟨by rw [hke2.out]; rfl, rfl⟩
  obtain ⟨rfl, rfl⟩ := hcut
  rename World => wr
  have hrd := read_ok wr q hD1.out hdd.out (k : Int) (by omega)
  have hlw : Hid ((q.last k).length = q.size) := Lib.hid (hD1.out.last_len _)
  have c0 := hL1.out.c0
  clear c5
  go_wp2_with fail
  refine hrd.mono ?_
  clear hrd
  rintro e w2 ⟨⟨gb, cb, rfl, hbuf⟩, hb2⟩
  obtain ⟨old, hold⟩ : ∃ x, x = q.last k := ⟨_, rfl⟩
  rw [← hold] at hbuf hlw
  have hbuf' := Lib.hid hbuf
  have hgb : Hid (wr.heap.size ≤ gb) := Lib.hid (by obtain ⟨_, h1, _⟩ := hbuf.parts; exact h1)
  have hgl : Hid (g < wr.heap.size) := Lib.hid hH.out.lt
  have hold' := Lib.hid hold
  have hL2 := Lib.hid (hL1.out.below hb2)
  have hH2 := Lib.hid (hH.out.below hb2 hH.out.lt)
  have hB2 := Lib.hid (hB1.out.trans (hb2.mono hB1.out.size))
  clear hbuf hb2 hold hL1 hH hB1 c0
  have c1 := hL2.out.c1
  have z0 := hH2.out.frozen 0
  have c00 := hH2.out.cell 0
  have hw1 : IntKind.u64.wrap ((l.serial : Int) + 1) = ((l.serial + 1 : Nat) : Int) := by rw [IntWalk.u64_in _ (by omega)]; omega
  go_wp2_with fail
  obtain ⟨S1, hS1⟩ : ∃ S1, S1 = l.serial + 1 := ⟨_, rfl⟩
  have hSe : Hid ((l.serial : Int) + 1 = (S1 : Int)) := Lib.hid (by omega)
  have hS1' := Lib.hid hS1
  have hSm : S1 ≤ 4611686018427387905 := by omega
  have hH3 := Lib.hid (hH2.out.store 0 (.int .u64 (S1 : Nat)))
  have hB3 := Lib.hid (hB2.out.trans ((Writes.store w2 (p := ⟨g, 0, none⟩) (M := [some g]) (by simp) (.int .u64 (S1 : Nat))).below hB2.out.size (fun k hk => by simp at hk; have := hg'.out; omega)))
  have hbuf2 := Lib.hid (hbuf'.out.loc (w' := w2.setCell ⟨g, 0, none⟩ (.int .u64 (S1 : Nat))) ((Writes.store w2 (p := ⟨g, 0, none⟩) (M := [some g]) (by simp) _).block gb hbuf'.out.lt (by simp; have := hgb.out; have := hgl.out; omega)))
  rw [hSe.out]
  clear hS1 hbuf' hL2 hH2 hB2 c1 z0 c00 hw1
  obtain ⟨wr, hw3⟩ : ∃ x, x = w2.setCell ⟨g, 0, none⟩ (.int .u64 (S1 : Nat)) := ⟨_, rfl⟩
  rw [← hw3] at hH3 hB3 hbuf2 ⊢
  clear hw3
  have hH : Hid (Holds wr g 100 #[.int .u64 (S1 : Nat), .int .i64 h.area, .int .i64 h.used, .int .i64 h.count]) := Lib.hid hH3.out
  clear hH3
  have hS8 : Hid (IntKind.u8.wrap (S1 : Int) = ((S1 % 256 : Nat) : Int)) := Lib.hid (by rw [IntKind.wrap_u8]; omega)
  have hs1 : Hid (IntKind.i64.wrap ((q.size : Int) - 1) = ((q.size - 1 : Nat) : Int)) := Lib.hid (by rw [IntWalk.i64_in _ (by omega)]; omega)
  have hlst : Hid (wr.cell? ⟨gb, q.size - 1, none⟩ = some (byteV (lastB old))) := Lib.hid (by
    rw [hbuf2.out.cell (i := q.size - 1) (by rw [hlw.out]; omega)]
    have e : old.length - 1 = q.size - 1 := by rw [hlw.out]
    unfold lastB
    rw [e, List.getD_eq_getElem?_getD, List.getElem?_eq_getElem (by rw [hlw.out]; omega)]
    rfl)
  have hdec : Hid ((((S1 % 256 : Nat) : Int) == ((lastB old).toNat : Int)) = decide (S1 % 256 = (lastB old).toNat)) := Lib.hid (by
    rw [Bool.eq_iff_iff]
    simp
    omega)
  -- THE REGION THAT DRAWS ITS ORDER, BY ONE LEXICAL WALK OVER GENERIC VALUES (written by relgen.py)
  refine wp_region_tab ((fun _ v => v = .pointer (some ⟨g, 0, none⟩)) ::
    (fun _ v => v = .int .u64 (S1 : Nat)) ::
    (fun _ v => v = .int .u8 ((S1 % 256 : Nat) : Int)) ::
    (fun _ v => v = .slice (some ⟨gb, 0, none⟩) q.size cb) ::
    (fun _ v => v = .slice (some ⟨gb, 0, none⟩) q.size cb) ::
    (fun _ v => v = .int .i64 q.size) ::
    (fun _ v => v = .int .i64 ((q.size - 1 : Nat) : Int)) ::
    (fun _ v => v = .pointer (some ⟨gb, q.size - 1, none⟩)) ::
    (fun _ v => v = byteV (lastB old)) ::
    (fun _ v => v = .bool (decide (S1 % 256 = (lastB old).toNat))) :: [])
    (⟨[(3, none)], 0, []⟩ :: ⟨[(34, some 0)], 0, []⟩ :: ⟨[(35, some 1)], 0, []⟩ :: ⟨[(6, none)], 0, []⟩ :: ⟨[(6, none)], 0, []⟩ :: ⟨[(38, some 4)], 0, []⟩ :: ⟨[(39, some 5)], 0, []⟩ :: ⟨[(37, some 3), (40, some 6)], 0, []⟩ :: ⟨[(41, some 7)], 0, []⟩ :: ⟨[(36, some 2), (42, some 8)], 0, []⟩ :: [])
    (none :: none :: none :: none :: none :: none :: none :: none :: none :: none :: none :: none :: none :: none :: none :: none :: none :: none :: none :: none :: none :: none :: none :: none :: none :: none :: none :: none :: none :: none :: none :: none :: none :: none :: some 0 :: some 1 :: some 2 :: some 3 :: some 4 :: some 5 :: some 6 :: some 7 :: some 8 :: some 9 :: [])
    (fun _ w' => Below wr.heap.size wr w') (fun _ w w' => Below w.heap.size w w') ?mixK8pub8 ?okK8pub8 ?tabK8pub8 ?frK8pub8 ?inK8pub8 ?keptK8pub8 ?startK8pub8 ?eachK8pub8 ?finK8pub8
  case mixK8pub8 => kernel_rfl
  case okK8pub8 => kernel_rfl
  case tabK8pub8 => kernel_rfl
  case frK8pub8 => kernel_rfl
  case inK8pub8 => rfl
  case keptK8pub8 => exact ⟨fun _ _ _ _ _ _ _ h => h, fun _ _ _ _ _ _ _ h => h, fun _ _ _ _ _ _ _ h => h, fun _ _ _ _ _ _ _ h => h, fun _ _ _ _ _ _ _ h => h, fun _ _ _ _ _ _ _ h => h, fun _ _ _ _ _ _ _ h => h, fun _ _ _ _ _ _ _ h => h, fun _ _ _ _ _ _ _ h => h, fun _ _ _ _ _ _ _ h => h, trivial⟩
  case startK8pub8 => exact (Below.refl _ _).drew
  case eachK8pub8 =>
    refine ⟨?_, ?_, ?_, ?_, ?_, ?_, ?_, ?_, ?_, ?_, trivial⟩
    -- 0: slot 34 := fieldAddr 100 t3 0
    · intro w L f hC hLi hLd hLn hF
      obtain ⟨d3, _⟩ := hF
      have d3 : f 3 = .pointer (some ⟨g, 0, none⟩) := d3
      refine Step2.live rfl ?_
      have ev : ∀ t, evalOf f (.tmp t) = f t := fun _ => rfl
      have ec : ∀ c, evalOf f (.const c) = c := fun _ => rfl
      have ef : ∀ g, evalOf f (.func g) = .func (.func g) #[] #[] := fun _ => rfl
      refine relUpon_value ?_ hC (Below.refl _ _) rfl
      go_simp
    -- 1: slot 35 := load 59 t34
    · intro w L f hC hLi hLd hLn hF
      obtain ⟨d34, _⟩ := hF
      have d34 : f 34 = .pointer (some ⟨g, 0, none⟩) := d34
      refine Step2.live rfl ?_
      have f0 := (hC.cell (p := ⟨g, 0, none⟩) hH.out.lt).trans (hH.out.cell 0)
      have ev : ∀ t, evalOf f (.tmp t) = f t := fun _ => rfl
      have ec : ∀ c, evalOf f (.const c) = c := fun _ => rfl
      have ef : ∀ g, evalOf f (.func g) = .func (.func g) #[] #[] := fun _ => rfl
      refine relUpon_value ?_ hC (Below.refl _ _) rfl
      go_simp
    -- 2: slot 36 := convert 59 5 t35
    · intro w L f hC hLi hLd hLn hF
      obtain ⟨d35, _⟩ := hF
      have d35 : f 35 = .int .u64 (S1 : Nat) := d35
      refine Step2.live rfl ?_
      have ev : ∀ t, evalOf f (.tmp t) = f t := fun _ => rfl
      have ec : ∀ c, evalOf f (.const c) = c := fun _ => rfl
      have ef : ∀ g, evalOf f (.func g) = .func (.func g) #[] #[] := fun _ => rfl
      refine relUpon_value ?_ hC (Below.refl _ _) rfl
      go_simp
      exact hS8.out
    -- 3: slot 37 := move t6
    · intro w L f hC hLi hLd hLn hF
      obtain ⟨d6, _⟩ := hF
      have d6 : f 6 = .slice (some ⟨gb, 0, none⟩) q.size cb := d6
      refine Step2.live rfl ?_
      exact relUpon_value (v := f 6) rfl (hC) (Below.refl _ _) d6
    -- 4: slot 38 := move t6
    · intro w L f hC hLi hLd hLn hF
      obtain ⟨d6, _⟩ := hF
      have d6 : f 6 = .slice (some ⟨gb, 0, none⟩) q.size cb := d6
      refine Step2.live rfl ?_
      exact relUpon_value (v := f 6) rfl (hC) (Below.refl _ _) d6
    -- 5: slot 39 := call { builtin len, args := #[t38], argTypes := #[37] }
    · intro w L f hC hLi hLd hLn hF
      obtain ⟨d38, _⟩ := hF
      have d38 : f 38 = .slice (some ⟨gb, 0, none⟩) q.size cb := d38
      refine Step2.live rfl ?_
      have ev : ∀ t, evalOf f (.tmp t) = f t := fun _ => rfl
      have ec : ∀ c, evalOf f (.const c) = c := fun _ => rfl
      have ef : ∀ g, evalOf f (.func g) = .func (.func g) #[] #[] := fun _ => rfl
      refine relUpon_value ?_ hC (Below.refl _ _) rfl
      go_simp
    -- 6: slot 40 := binOp BinOp.sub 3 t39 (const (1:i64)) 3
    · intro w L f hC hLi hLd hLn hF
      obtain ⟨d39, _⟩ := hF
      have d39 : f 39 = .int .i64 q.size := d39
      refine Step2.live rfl ?_
      have ev : ∀ t, evalOf f (.tmp t) = f t := fun _ => rfl
      have ec : ∀ c, evalOf f (.const c) = c := fun _ => rfl
      have ef : ∀ g, evalOf f (.func g) = .func (.func g) #[] #[] := fun _ => rfl
      refine relUpon_value ?_ hC (Below.refl _ _) rfl
      go_simp
      exact hs1.out
    -- 7: slot 41 := indexAddr 37 t37 t40
    · intro w L f hC hLi hLd hLn hF
      obtain ⟨d37, d40, _⟩ := hF
      have d37 : f 37 = .slice (some ⟨gb, 0, none⟩) q.size cb := d37
      have d40 : f 40 = .int .i64 ((q.size - 1 : Nat) : Int) := d40
      refine Step2.live rfl ?_
      have ev : ∀ t, evalOf f (.tmp t) = f t := fun _ => rfl
      have ec : ∀ c, evalOf f (.const c) = c := fun _ => rfl
      have ef : ∀ g, evalOf f (.func g) = .func (.func g) #[] #[] := fun _ => rfl
      refine relUpon_value ?_ hC (Below.refl _ _) rfl
      go_simp
      intro
      omega
    -- 8: slot 42 := load 5 t41
    · intro w L f hC hLi hLd hLn hF
      obtain ⟨d41, _⟩ := hF
      have d41 : f 41 = .pointer (some ⟨gb, q.size - 1, none⟩) := d41
      refine Step2.live rfl ?_
      have f0 := (hC.cell (p := ⟨gb, q.size - 1, none⟩) hbuf2.out.lt).trans hlst.out
      have ev : ∀ t, evalOf f (.tmp t) = f t := fun _ => rfl
      have ec : ∀ c, evalOf f (.const c) = c := fun _ => rfl
      have ef : ∀ g, evalOf f (.func g) = .func (.func g) #[] #[] := fun _ => rfl
      refine relUpon_value ?_ hC (Below.refl _ _) rfl
      go_simp
    -- 9: slot 43 := binOp BinOp.eql 5 t36 t42 5
    · intro w L f hC hLi hLd hLn hF
      obtain ⟨d36, d42, _⟩ := hF
      have d36 : f 36 = .int .u8 ((S1 % 256 : Nat) : Int) := d36
      have d42 : f 42 = byteV (lastB old) := d42
      refine Step2.live rfl ?_
      have hby : byteV (lastB old) = .int .u8 ((lastB old).toNat : Int) := rfl
      rw [hby] at d42
      have ev : ∀ t, evalOf f (.tmp t) = f t := fun _ => rfl
      have ec : ∀ c, evalOf f (.const c) = c := fun _ => rfl
      have ef : ∀ g, evalOf f (.func g) = .func (.func g) #[] #[] := fun _ => rfl
      refine relUpon_value ?_ hC (Below.refl _ _) rfl
      go_simp
      exact hdec.out
  intro x w' hC hV

  have e43 := hV 9 _ rfl rfl
  clear hV
  simp only [framed]
  rw [e43]
  clear e43
  have hH4 := Lib.hid (hH.out.below hC hH.out.lt)
  have hB4 := Lib.hid (hB3.out.trans (hC.mono hB3.out.size))
  clear hH hB3 hC hbuf2 hlst hdec hS8 hs1
  obtain ⟨w4, hw4⟩ : ∃ x, x = w' := ⟨_, rfl⟩
  rw [← hw4] at hH4 hB4 ⊢
  clear hw4
  obtain ⟨S, hS⟩ : ∃ S, S = pubSerial l.serial (lastB old) := ⟨_, rfl⟩
  have hS' := Lib.hid hS
  have hSl : S ≤ 4611686018427387906 := by rw [hS]; unfold pubSerial; split <;> omega
  clear hS
  go_upto_if 43 with (fail)
  go_cut [5] (fun s wc => s = .int .i64 (k : Nat) ∧ Hid (Holds wc g 100 #[.int .u64 (S : Nat), .int .i64 h.area, .int .i64 h.used, .int .i64 h.count]) ∧ Hid (Below w.heap.size w wc))
  case' first =>
    have hS2 := hS'.out
    unfold pubSerial at hS2
    by_cases hx : S1 % 256 = (lastB old).toNat
    · rw [← hS1'.out, if_pos hx] at hS2
      have hS3 := Lib.hid hS2
      clear hS2
      have z0 := hH4.out.frozen 0
      have c00 := hH4.out.cell 0
      have hw1 : IntKind.u64.wrap ((S1 : Int) + 1) = ((S : Nat) : Int) := by rw [IntWalk.u64_in _ (by omega)]; have := hS3.out; have := hS1'.out; omega
      have hd1 : decide (S1 % 256 = (lastB old).toNat) = true := decide_eq_true hx
      have hH5 := Lib.hid (hH4.out.store 0 (.int .u64 (S : Nat)))
      have hB5 := Lib.hid (hB4.out.trans ((Writes.store w4 (p := ⟨g, 0, none⟩) (M := [some g]) (by simp) (.int .u64 (S : Nat))).below hB4.out.size (fun k hk => by simp at hk; have := hg'.out; omega)))
      go_wp2_with fail
      go_meet
      case rel => exact ⟨rfl, hH5, hB5⟩
    · rw [← hS1'.out, if_neg hx] at hS2
      have hS3 := Lib.hid hS2
      clear hS2
      have hd1 : decide (S1 % 256 = (lastB old).toNat) = false := decide_eq_false hx
      go_wp2_with fail
      go_meet
      case rel => exact ⟨rfl, by rw [hS3.out]; exact hH4, hB4⟩
  obtain ⟨rfl, hH5, hB5⟩ := hcut
  rename World => w5
  clear hH4 hB4
  obtain ⟨wr, hwr⟩ : ∃ x, x = w5 := ⟨_, rfl⟩
  rw [← hwr] at hH5 hB5 ⊢
  clear hwr
  have hH := Lib.hid hH5.out
  have hBr := Lib.hid hB5.out
  have hLr := Lib.hid (hLg.out.below hBr.out)
  have hDr := Lib.hid (hD.out.below hBr.out)
  clear hH5 hB5
  have hqF : Hid (¬ q.F g) := Lib.hid (fun hx => by have := hD.out.lt g hx; have := hg'.out; omega)
  go_upto_region 10 with (fail)
  -- THE REGION THAT DRAWS ITS ORDER, BY ONE LEXICAL WALK OVER GENERIC VALUES (written by relgen.py)
  refine wp_region_tabL ((fun _ _ v => v = .pointer (some ⟨l.g, 0, none⟩)) ::
    (fun _ _ v => v = .pointer (some ⟨l.g, 0, none⟩)) ::
    (fun _ _ v => v = .pointer (some ⟨l.g, 0, none⟩)) ::
    (fun _ _ v => v = .pointer (some ⟨q.g, 0, none⟩)) ::
    (fun _ _ v => v = .int .i64 (k : Nat)) ::
    (fun _ _ v => v = .agg #[.int .u64 S, .int .i64 h.area, .int .i64 h.used, .int .i64 h.count]) ::
    (fun _ _ v => v = .pointer (some ⟨l.g, 0, none⟩)) ::
    (fun _ _ v => v = shV q.n q.size) ::
    (fun L w v => Till 9 (fun w v => ∃ A c', v = .slice A q.size c' ∧ RowAt w A ((hbytes ⟨S, h.area, h.used, h.count⟩ q.n q.size).map byteV)) L w v) ::
    (fun _ _ v => v = .int .i64 ((q.abs.write k (hbytes ⟨S, h.area, h.used, h.count⟩ q.n q.size)).2 : Nat)) ::
    (fun _ _ v => v = .int .i64 ((q.abs.write k (hbytes ⟨S, h.area, h.used, h.count⟩ q.n q.size)).2 : Nat)) :: [])
    (⟨[(0, none)], 0, [9]⟩ :: ⟨[(48, some 0)], 0, [9]⟩ :: ⟨[(49, some 1)], 0, [9]⟩ :: ⟨[(50, some 2)], 0, [9]⟩ :: ⟨[(5, none)], 0, [9]⟩ :: ⟨[(3, none)], 0, [9]⟩ :: ⟨[(0, none)], 0, [9]⟩ :: ⟨[(54, some 6)], 0, [9]⟩ :: ⟨[(53, some 5), (55, some 7)], 0, [9]⟩ :: ⟨[(51, some 3), (52, some 4), (56, some 8)], 0, []⟩ :: ⟨[(57, some 9)], 0, []⟩ :: [])
    (none :: none :: none :: none :: none :: none :: none :: none :: some 10 :: none :: none :: none :: none :: none :: none :: none :: none :: none :: none :: none :: none :: none :: none :: none :: none :: none :: none :: none :: none :: none :: none :: none :: none :: none :: none :: none :: none :: none :: none :: none :: none :: none :: none :: none :: none :: none :: none :: none :: some 0 :: some 1 :: some 2 :: some 3 :: some 4 :: some 5 :: some 6 :: some 7 :: some 8 :: some 9 :: [])
    (fun L w' => CS 9 8 wr (fun w' => ∃ q2, DStep q w q2 w' ∧ q2.abs = (q.abs.write k (hbytes ⟨S, h.area, h.used, h.count⟩ q.n q.size)).1 ∧ Holds w' g 100 #[.int .u64 S, .int .i64 h.area, .int .i64 h.used, .int .i64 h.count] ∧ ¬ q2.F g) L w') (fun i w w' => i ≠ 9 → Below w.heap.size w w') ?mixK10pub10 ?okK10pub10 ?tabK10pub10 ?frK10pub10 ?inK10pub10 ?keptK10pub10 ?startK10pub10 ?eachK10pub10 ?finK10pub10
  case mixK10pub10 => kernel_rfl
  case okK10pub10 => kernel_rfl
  case tabK10pub10 => kernel_rfl
  case frK10pub10 => kernel_rfl
  case inK10pub10 => rfl
  case keptK10pub10 => exact ⟨fun _ _ _ _ _ _ _ _ _ _ _ h => h, fun _ _ _ _ _ _ _ _ _ _ _ h => h, fun _ _ _ _ _ _ _ _ _ _ _ h => h, fun _ _ _ _ _ _ _ _ _ _ _ h => h, fun _ _ _ _ _ _ _ _ _ _ _ h => h, fun _ _ _ _ _ _ _ _ _ _ _ h => h, fun _ _ _ _ _ _ _ _ _ _ _ h => h, fun _ _ _ _ _ _ _ _ _ _ _ h => h, fun i hne hrd L w w' v hLi hC hC' hG h => Till.keepN h hne (fun _ h2 => hG h2) (fun hb ⟨A, c', e, h⟩ => ⟨A, c', e, h.below hb⟩), fun _ _ _ _ _ _ _ _ _ _ _ h => h, fun _ _ _ _ _ _ _ _ _ _ _ h => h, trivial⟩
  case startK10pub10 => exact ⟨fun _ => (Below.refl _ _).drew, fun e => by simp at e⟩
  case eachK10pub10 =>
    refine ⟨?_, ?_, ?_, ?_, ?_, ?_, ?_, ?_, ?_, ?_, ?_, trivial⟩
    -- 0: slot 48 := move t0
    · intro w L f hC hLi hLd hLn hF
      obtain ⟨d0, _⟩ := hF
      have d0 : f 0 = .pointer (some ⟨l.g, 0, none⟩) := d0
      refine Step2.live rfl ?_
      exact relUpon_value (v := f 0) rfl (hC.go (i := 0) (hLn 9 (by simp)) (by decide) (Below.refl _ _)) (fun _ => Below.refl _ _) d0
    -- 1: slot 49 := nilCheck t48
    · intro w L f hC hLi hLd hLn hF
      obtain ⟨d48, _⟩ := hF
      have d48 : f 48 = .pointer (some ⟨l.g, 0, none⟩) := d48
      refine Step2.live rfl ?_
      have ev : ∀ t, evalOf f (.tmp t) = f t := fun _ => rfl
      have ec : ∀ c, evalOf f (.const c) = c := fun _ => rfl
      have ef : ∀ g, evalOf f (.func g) = .func (.func g) #[] #[] := fun _ => rfl
      refine relUpon_value ?_ (hC.go (i := 1) (hLn 9 (by simp)) (by decide) (Below.refl _ _)) (fun _ => Below.refl _ _) rfl
      go_simp
    -- 2: slot 50 := fieldAddr 104 t49 0
    · intro w L f hC hLi hLd hLn hF
      obtain ⟨d49, _⟩ := hF
      have d49 : f 49 = .pointer (some ⟨l.g, 0, none⟩) := d49
      refine Step2.live rfl ?_
      have ev : ∀ t, evalOf f (.tmp t) = f t := fun _ => rfl
      have ec : ∀ c, evalOf f (.const c) = c := fun _ => rfl
      have ef : ∀ g, evalOf f (.func g) = .func (.func g) #[] #[] := fun _ => rfl
      refine relUpon_value ?_ (hC.go (i := 2) (hLn 9 (by simp)) (by decide) (Below.refl _ _)) (fun _ => Below.refl _ _) rfl
      go_simp
    -- 3: slot 51 := load 24 t50
    · intro w L f hC hLi hLd hLn hF
      obtain ⟨d50, _⟩ := hF
      have d50 : f 50 = .pointer (some ⟨l.g, 0, none⟩) := d50
      refine Step2.live rfl ?_
      have hw := hC.bel (hLn 9 (by simp))
      have f0 := (hLr.out.below hw).c0
      have ev : ∀ t, evalOf f (.tmp t) = f t := fun _ => rfl
      have ec : ∀ c, evalOf f (.const c) = c := fun _ => rfl
      have ef : ∀ g, evalOf f (.func g) = .func (.func g) #[] #[] := fun _ => rfl
      refine relUpon_value ?_ (hC.go (i := 3) (hLn 9 (by simp)) (by decide) (Below.refl _ _)) (fun _ => Below.refl _ _) rfl
      go_simp
    -- 4: slot 52 := move t5
    · intro w L f hC hLi hLd hLn hF
      obtain ⟨d5, _⟩ := hF
      have d5 : f 5 = .int .i64 (k : Nat) := d5
      refine Step2.live rfl ?_
      exact relUpon_value (v := f 5) rfl (hC.go (i := 4) (hLn 9 (by simp)) (by decide) (Below.refl _ _)) (fun _ => Below.refl _ _) d5
    -- 5: slot 53 := load 100 t3
    · intro w L f hC hLi hLd hLn hF
      obtain ⟨d3, _⟩ := hF
      have d3 : f 3 = .pointer (some ⟨g, 0, none⟩) := d3
      refine Step2.live rfl ?_
      have hw := hC.bel (hLn 9 (by simp))
      have hh := hH.out.below hw hH.out.lt
      have c0 := hh.cell 0
      have c1 := hh.cell 1
      have c2 := hh.cell 2
      have c3 := hh.cell 3
      have ev : ∀ t, evalOf f (.tmp t) = f t := fun _ => rfl
      have ec : ∀ c, evalOf f (.const c) = c := fun _ => rfl
      have ef : ∀ g, evalOf f (.func g) = .func (.func g) #[] #[] := fun _ => rfl
      refine relUpon_value ?_ (hC.go (i := 5) (hLn 9 (by simp)) (by decide) (Below.refl _ _)) (fun _ => Below.refl _ _) rfl
      go_simp
    -- 6: slot 54 := move t0
    · intro w L f hC hLi hLd hLn hF
      obtain ⟨d0, _⟩ := hF
      have d0 : f 0 = .pointer (some ⟨l.g, 0, none⟩) := d0
      refine Step2.live rfl ?_
      exact relUpon_value (v := f 0) rfl (hC.go (i := 6) (hLn 9 (by simp)) (by decide) (Below.refl _ _)) (fun _ => Below.refl _ _) d0
    -- 7: slot 55 := call { value (Operand.func 72), args := #[t54], argTypes := #[53] }
    · intro w L f hC hLi hLd hLn hF
      obtain ⟨d54, _⟩ := hF
      have d54 : f 54 = .pointer (some ⟨l.g, 0, none⟩) := d54
      refine Step2.live rfl ?_
      have hw := hC.bel (hLn 9 (by simp))
      have ev : ∀ t, evalOf f (.tmp t) = f t := fun _ => rfl
      have ec : ∀ c, evalOf f (.const c) = c := fun _ => rfl
      have ef : ∀ g, evalOf f (.func g) = .func (.func g) #[] #[] := fun _ => rfl
      refine relUpon_call (f := 72) (args := #[.pointer (some ⟨l.g, 0, none⟩)]) (w := w) (by go_simp) (lshape_any w l q (hLr.out.below hw) (hDr.out.below hw)) ?_
      rintro e w1 ⟨he, hB⟩
      exact ⟨_, he, hC.go (i := 7) (hLn 9 (by simp)) (by decide) hB, fun _ => hB, rfl⟩
    -- 8: slot 56 := call { value (Operand.func 102), args := #[t53, t55], argTypes := #[100, 139] }
    · intro w L f hC hLi hLd hLn hF
      obtain ⟨d53, d55, _⟩ := hF
      have d53 : f 53 = .agg #[.int .u64 S, .int .i64 h.area, .int .i64 h.used, .int .i64 h.count] := d53
      have d55 : f 55 = shV q.n q.size := d55
      refine Step2.live rfl ?_
      have ev : ∀ t, evalOf f (.tmp t) = f t := fun _ => rfl
      have ec : ∀ c, evalOf f (.const c) = c := fun _ => rfl
      have ef : ∀ g, evalOf f (.func g) = .func (.func g) #[] #[] := fun _ => rfl
      refine relUpon_call (f := 102) (args := #[.agg #[.int .u64 S, .int .i64 h.area, .int .i64 h.used, .int .i64 h.count], shV q.n q.size]) (w := w) (by go_simp) (hbytes_any w ⟨S, h.area, h.used, h.count⟩ q.n q.size hn1 hn2 hs3 hs2 (by show S < _; omega) (by show h.area ≤ _; omega) hu hc) ?_
      rintro e w1 ⟨⟨v, he, hv⟩, hB⟩
      obtain ⟨A, c', e2, hr, _⟩ := own_row hv
      rw [hbytes_length _ q.n q.size hs3] at e2
      exact ⟨v, he, hC.go (i := 8) (hLn 9 (by simp)) (by decide) hB, fun _ => hB, fun _ => ⟨A, c', e2, hr.rowAt⟩⟩
    -- 9: slot 57 := call { value (Operand.func 132), args := #[t51, t52, t56], argTypes := #[24, 3, 37] }
    · intro w L f hC hLi hLd hLn hF
      obtain ⟨d51, d52, d56, _⟩ := hF
      have d51 : f 51 = .pointer (some ⟨q.g, 0, none⟩) := d51
      have d52 : f 52 = .int .i64 (k : Nat) := d52
      refine Step2.live rfl ?_
      have hw := hC.bel hLi
      obtain ⟨A, c', hA, hr⟩ := d56 hLi
      have ev : ∀ t, evalOf f (.tmp t) = f t := fun _ => rfl
      have ec : ∀ c, evalOf f (.const c) = c := fun _ => rfl
      have ef : ∀ g, evalOf f (.func g) = .func (.func g) #[] #[] := fun _ => rfl
      refine relUpon_call (f := 132) (args := #[.pointer (some ⟨q.g, 0, none⟩), .int .i64 (k : Nat), .slice A q.size c']) (w := w) (by go_simp) (write_abs w q (hDr.out.below hw) (k : Int) (by omega) A q.size c' (hbytes ⟨S, h.area, h.used, h.count⟩ q.n q.size) (hbytes_length _ q.n q.size hs3) rfl hr) ?_
      rintro e w1 ⟨he, q2, hst, hab⟩
      exact ⟨_, he, CS.last (hLd 8 (by decide)) ⟨q2, DStep.ahead hD.out (hBr.out.trans (hw.mono hBr.out.size)) hst, hab, hst.other (hH.out.below hw hH.out.lt) hqF.out⟩, fun h => absurd rfl h, rfl⟩
    -- 10: slot 8 := assign t57
    · intro w L f hC hLi hLd hLn hF
      obtain ⟨d57, _⟩ := hF
      have d57 : f 57 = .int .i64 ((q.abs.write k (hbytes ⟨S, h.area, h.used, h.count⟩ q.n q.size)).2 : Nat) := d57
      refine Step2.live rfl ?_
      exact relUpon_value (v := f 57) rfl (CS.past hC (hLd 9 (by decide))) (fun _ => Below.refl _ _) d57
  intro x w' hC hV

  obtain ⟨q2, hst, hab, hH2, hqF2⟩ := (hC.2 rfl).2
  have e8 := hV 10 _ rfl rfl
  have e8 : x 10 = .int .i64 ((q.abs.write k (hbytes ⟨S, h.area, h.used, h.count⟩ q.n q.size)).2 : Nat) := e8
  clear hV hC
  simp only [framed]
  rw [e8]
  clear e8
  obtain ⟨R1, hR1⟩ : ∃ R, R = q.abs.write k (hbytes ⟨S, h.area, h.used, h.count⟩ q.n q.size) := ⟨_, rfl⟩
  rw [← hR1] at hab ⊢
  have hpH : Hid (pubH q.abs l h = ⟨S, h.area, h.used, h.count⟩) := Lib.hid (by
    unfold pubH
    rw [hS'.out, hold'.out, abs_last, hke.out])
  have hR1' : Hid (q.abs.write (pubSlot l.slot) (hbytes (pubH q.abs l h) q.abs.n q.abs.size) = R1) := Lib.hid (by rw [hpH.out, hR1, hke.out]; rfl)
  obtain ⟨err, herr⟩ : ∃ e, e = R1.2 := ⟨_, rfl⟩
  rw [← herr]
  have hP : Hid (pubA q.abs l h = if err ≠ 0 then (R1.1, l, err) else if R1.1.flush.2 ≠ 0 then (R1.1.flush.1, l, R1.1.flush.2) else (R1.1.flush.1, ⟨l.g, S, h.area, h.used, h.count, k⟩, 0)) := Lib.hid (by
    unfold pubA
    rw [hR1'.out, ← herr]
    unfold pubL
    rw [hpH.out, hke.out])
  have hab' := Lib.hid hab
  have hst1 := Lib.hid hst
  have hL5 : Hid (LogP l q2 w') := Lib.hid (hLg.out.dstep hD.out hst)
  have hH6 := Lib.hid hH2
  have hqF6 := Lib.hid hqF2
  clear hR1' hpH hR1 hab hst hH2 hqF2 herr hLr hDr hBr hH hS' hold' hD1 hlw hgb hgl hSe hS1' hqF
  obtain ⟨w6, hw6⟩ : ∃ x, x = w' := ⟨_, rfl⟩
  rw [← hw6] at hst1 hL5 hH6 ⊢
  clear hw6
  by_cases hz : err = 0
  · subst hz
    have hP2 : Hid (pubA q.abs l h = if R1.1.flush.2 ≠ 0 then (R1.1.flush.1, l, R1.1.flush.2) else (R1.1.flush.1, ⟨l.g, S, h.area, h.used, h.count, k⟩, 0)) := Lib.hid (by rw [hP.out]; rfl)
    clear hP
    have hfl := flush_abs w6 q2 hst1.out.post
    rw [hab'.out] at hfl
    have c0 := hL5.out.c0
    go_wp2_with fail
    refine hfl.mono ?_
    clear hfl
    rintro e w7 ⟨rfl, q3, hst3, hab3⟩
    obtain ⟨R2, hR2⟩ : ∃ R, R = R1.1.flush := ⟨_, rfl⟩
    rw [← hR2] at hab3 hP2 ⊢
    clear hR2
    have hst7 := Lib.hid (hst1.out.trans hst3)
    have hL7 : Hid (LogP l q3 w7) := Lib.hid (hL5.out.dstep hst1.out.post hst3)
    have hH7 := Lib.hid (hst3.other hH6.out hqF6.out).1
    have hab7 := Lib.hid hab3
    clear hst1 hst3 hab3 hab' hH6 hqF6 hL5 c0
    obtain ⟨err, herr⟩ : ∃ e, e = R2.2 := ⟨_, rfl⟩
    rw [← herr] at hP2 ⊢
    clear herr
    by_cases hz : err = 0
    · subst hz
      have hP3 : Hid (pubA q.abs l h = (R2.1, ⟨l.g, S, h.area, h.used, h.count, k⟩, 0)) := Lib.hid (by rw [hP2.out]; rfl)
      clear hP2
      have hLw : Hid (Holds w7 l.g 104 (l.cells q3.g)) := Lib.hid hL7.out
      have c0 := hH7.out.cell 0
      have c1 := hH7.out.cell 1
      have c2 := hH7.out.cell 2
      have c3 := hH7.out.cell 3
      have d1 := hL7.out.c1
      have d2 := hL7.out.c2
      have d3 := hL7.out.c3
      have d4 := hL7.out.c4
      have d5 := hL7.out.c5
      have z1 := hLw.out.frozen 1
      have z2 := hLw.out.frozen 2
      have z3 := hLw.out.frozen 3
      have z4 := hLw.out.frozen 4
      have z5 := hLw.out.frozen 5
      have hW : Hid (Writes [some l.g] w7 (((((w7.setCell ⟨l.g, 1, none⟩ (.int .u64 S)).setCell ⟨l.g, 2, none⟩ (.int .i64 h.area)).setCell ⟨l.g, 3, none⟩ (.int .i64 h.used)).setCell ⟨l.g, 4, none⟩ (.int .i64 h.count)).setCell ⟨l.g, 5, none⟩ (.int .i64 k))) := Lib.hid
        ((Writes.store w7 (p := ⟨l.g, 1, none⟩) (by simp) _).trans ((Writes.store _ (p := ⟨l.g, 2, none⟩) (by simp) _).trans ((Writes.store _ (p := ⟨l.g, 3, none⟩) (by simp) _).trans ((Writes.store _ (p := ⟨l.g, 4, none⟩) (by simp) _).trans (Writes.store _ (p := ⟨l.g, 5, none⟩) (by simp) _)))))
      have hLN : Hid (LogP ⟨l.g, S, h.area, h.used, h.count, k⟩ q3 (((((w7.setCell ⟨l.g, 1, none⟩ (.int .u64 S)).setCell ⟨l.g, 2, none⟩ (.int .i64 h.area)).setCell ⟨l.g, 3, none⟩ (.int .i64 h.used)).setCell ⟨l.g, 4, none⟩ (.int .i64 h.count)).setCell ⟨l.g, 5, none⟩ (.int .i64 k))) := Lib.hid
        (((((hLw.out.store 1 (.int .u64 S)).store 2 (.int .i64 h.area)).store 3 (.int .i64 h.used)).store 4 (.int .i64 h.count)).store 5 (.int .i64 k))
      go_wp2_with fail
      go_ret
      rw [hP3.out]
      exact ⟨rfl, q3, (LStep.of_dstep hLg.out hD.out hst7.out).trans (.logged hL7.out hst7.out.post hW.out rfl hLN.out), hab7.out⟩
    · have hfin : Hid (LeftL l q w (pubA q.abs l h) (.returned (.int .i64 err)) w7) := Lib.hid (by
        have h1 := hP2.out
        rw [if_pos hz] at h1
        rw [h1]
        exact ⟨rfl, q3, .of_dstep hLg.out hD.out hst7.out, hab7.out⟩)
      have hz1 : ((err : Int) == 0) = false := by simp; omega
      have hz2 : ((err : Int) != 0) = true := by simp; omega
      go_wp2_with fail
      go_ret
      exact hfin.out
  · have hfin : Hid (LeftL l q w (pubA q.abs l h) (.returned (.int .i64 err)) w6) := Lib.hid (by
      have h1 := hP.out
      rw [if_pos hz] at h1
      rw [h1]
      exact ⟨rfl, q2, .of_dstep hLg.out hD.out hst1.out, hab'.out⟩)
    have hz1 : ((err : Int) == 0) = false := by simp; omega
    have hz2 : ((err : Int) != 0) = true := by simp; omega
    go_wp2_with fail
    go_ret
    exact hfin.out
end Go.Proofs.YtelglbblgkhcmaaGreat
