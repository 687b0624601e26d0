/-
  The walk of augurref24.Bytes.
-/
import Derived.Test.YtimhghmnnibajaaRqD
namespace Go.Proofs.Ytimhghmnnibajaa
open Go.RowKit

set_option maxRecDepth 100000 in
set_option maxHeartbeats 4000000 in
theorem refBytesQ_any (w0 : World) (kind : Int) (name text : ByteArray) (n : Int) (hk : i64ok kind) (hnm : name.size ≤ 20000) (htx : text.size ≤ 20000) (hn : i64ok n) :
    Calls Try.prog 43 #[.agg #[.int .i64 kind, .string name, .string text, .int .i64 n]] w0 (Refd w0 w0.heap.size none (rqE ⟨kind, name, text, n⟩)) := by
  have hnm := Lib.hid hnm
  rename_i hnm'
  have htx := Lib.hid htx
  rename_i htx'
  have hn := Lib.hid hn
  rename_i hn'
  clear hnm' htx' hn'
  obtain ⟨kk, hkke⟩ : ∃ x : Nat, x = (max 0 kind).toNat := ⟨_, rfl⟩
  have hkv : (if kind < 0 then 0 else kind) = (kk : Int) := by split <;> omega
  have hkv2 : (if 0 < kind then kind else 0) = (kk : Int) := by split <;> omega
  have hkk : kk < 18446744073709551616 := by unfold i64ok at hk; omega
  have hkk1 := Lib.hid hkk
  have hwk : IntKind.u64.wrap (kk : Int) = kk := IntWalk.u64_in _ (by omega)
  have hrq : Hid (rqE ⟨kind, name, text, n⟩ = [] ++ numE kk ++ txtE name ++ txtE text ++ intE n) := Lib.hid (by unfold rqE; rw [← hkke]; simp)
  clear hkke hk
  have hb1 := Lib.hid (below_new w0 (.cells #[.int .i64 kind, .string name, .string text, .int .i64 n] 78))
  have hbx := Lib.hid (Holds.new w0 78 #[.int .i64 kind, .string name, .string text, .int .i64 n])
  have q0 := (hbx.out.fact 0 rfl).2
  go_enter Try.func43, Try.ntmps43
  go_wp2_with fail
  clear q0
  have hb0 := below_new w0 (.cells #[.int .i64 kind, .string name, .string text, .int .i64 n] 78)
  generalize hw1 : w0.alloc (.cells #[.int .i64 kind, .string name, .string text, .int .i64 n] 78) = w1 at hb1 hbx hb0 ⊢
  clear hw1 hb0
  obtain ⟨W, hW⟩ : ∃ x, w0.heap.size = x := ⟨_, rfl⟩
  have hback : Hid (∀ l e w', Refd w1 W none l e w' → Refd w0 w0.heap.size none l e w') := Lib.hid fun l e w' h => by
    rw [← hW] at h
    exact Refd.before hb1.out h
  have hB1 : Hid (W ≤ w1.heap.size) := Lib.hid (by rw [← hW]; exact hb1.out.size)
  rw [hW] at hbx
  have hgo : Hid (∀ e w', Refd w1 W none (rqE ⟨kind, name, text, n⟩) e w' → Refd w0 w0.heap.size none (rqE ⟨kind, name, text, n⟩) e w') := Lib.hid fun e w' h => hback.out _ _ _ h
  rw [hW]
  obtain ⟨bx, hbxe⟩ : ∃ x, x = W := ⟨_, rfl⟩
  rw [← hbxe] at hbx ⊢
  rw [← hW] at hbxe
  clear hW hbxe hb1
  refine (refNum_any w1 W _ [] none kk (Sr.nil_ _ _) hB1.out hkk (by simp)).mono ?_
  intro e wb hr
  obtain ⟨v1, rfl, ho, hM, hF⟩ := hr
  have ho1 : Hid (OwnF w1 W none ([] ++ numE kk) wb v1) := Lib.hid ⟨ho, hF⟩
  have hM1 := Lib.hid hM
  have hbx1 := Lib.hid (hM.holds hbx.out (by simp))
  have hs1B := Lib.hid (Nat.le_trans hB1.out hM.size)
  have hM2b : v1.ownBlock ≠ some bx := by
    rcases hF with h | ⟨k, h, hk⟩
    · rw [h]; simp
    · rw [h]
      have := hbx.out.lt
      simp
      omega
  have f1 := Lib.hid (hbx1.out.fact3 hM2b 1 rfl)
  have f2 := Lib.hid (hbx1.out.fact3 hM2b 2 rfl)
  have f3 := Lib.hid (hbx1.out.fact3 hM2b 3 rfl)
  have hs1 := Lib.hid ho1.out.sr
  have hnx : Hid (∀ l e w', Refd wb W v1.ownBlock l e w' → Refd w1 W none l e w') := Lib.hid fun l e w' h => Refd.next ho1.out hM1.out h
  have hcl : Hid (([] ++ numE kk : List UInt8).length ≤ 100) := Lib.hid (by have := numE_len10 kk hkk1.out; simp; omega)
  have hl1 := Lib.hid (txtE_len 20000 name hnm.out (by omega))
  have hl2 := Lib.hid (txtE_len 20000 text htx.out (by omega))
  obtain ⟨M2, hM2⟩ : ∃ M, M = v1.ownBlock := ⟨_, rfl⟩
  rw [← hM2] at f1 f2 f3 hs1 hnx
  clear ho hM hF ho1 hM1 hbx1 hM2b hM2 hbx hB1
  generalize ([] ++ numE kk : List UInt8) = cur at hs1 hcl hrq
  go_wp2_with fail
  -- THE REGION THAT DRAWS ITS ORDER, BY ONE LEXICAL WALK OVER GENERIC VALUES (written by relgen.py)
  refine wp_region_tabL ((fun _ _ v => v = v1) ::
    (fun _ _ v => v = .pointer (some ⟨bx, 1, none⟩)) ::
    (fun _ _ v => v = .string name) ::
    (fun L w v => L 3 = true → L 6 = false → OwnF wb W M2 (cur ++ txtE name) w v) ::
    (fun _ _ v => v = .pointer (some ⟨bx, 2, none⟩)) ::
    (fun _ _ v => v = .string text) ::
    (fun L w v => L 6 = true → L 9 = false → OwnF wb W M2 (cur ++ txtE name ++ txtE text) w v) ::
    (fun _ _ v => v = .pointer (some ⟨bx, 3, none⟩)) ::
    (fun _ _ v => v = .int .i64 n) ::
    (fun L w v => L 9 = true → OwnF wb W M2 (cur ++ txtE name ++ txtE text ++ intE n) w v) ::
    (fun L w v => L 10 = true → OwnF wb W M2 (cur ++ txtE name ++ txtE text ++ intE n) w v) :: [])
    (⟨[(3, none)], 0, []⟩ :: ⟨[(1, none)], 0, []⟩ :: ⟨[(10, some 1)], 0, []⟩ :: ⟨[(9, some 0), (11, some 2)], 0, []⟩ :: ⟨[(1, none)], 0, []⟩ :: ⟨[(13, some 4)], 0, []⟩ :: ⟨[(12, some 3), (14, some 5)], 0, []⟩ :: ⟨[(1, none)], 0, []⟩ :: ⟨[(16, some 7)], 0, []⟩ :: ⟨[(15, some 6), (17, some 8)], 0, []⟩ :: ⟨[(18, some 9)], 0, []⟩ :: [])
    (none :: none :: some 10 :: none :: none :: none :: none :: none :: none :: some 0 :: some 1 :: some 2 :: some 3 :: some 4 :: some 5 :: some 6 :: some 7 :: some 8 :: some 9 :: [])
    (fun L w' => Writes [M2] wb w' ∧ (L 3 = false → Below wb.heap.size wb w') ∧ (L 6 = true → L 3 = true) ∧ (L 9 = true → L 6 = true) ∧ (L 10 = true → L 9 = true) ∧ True) (fun i w w' => i ≠ 3 → i ≠ 6 → i ≠ 9 → Below w.heap.size w w') ?mixK2 ?okK2 ?tabK2 ?frK2 ?inK2 ?keptK2 ?startK2 ?eachK2 ?finK2
  case mixK2 => kernel_rfl
  case okK2 => kernel_rfl
  case tabK2 => kernel_rfl
  case frK2 => kernel_rfl
  case inK2 => rfl
  case keptK2 => exact ⟨fun _ _ _ _ _ _ _ _ _ _ _ h => h, fun _ _ _ _ _ _ _ _ _ _ _ h => h, fun _ _ _ _ _ _ _ _ _ _ _ h => h, fun i hne hr L w w' v hLi hC hC' hG h h1 h2 => by
        have h2o := h2
        simp only [Bool.or_eq_true, beq_iff_eq, Bool.or_eq_false_iff, beq_eq_false_iff_ne] at h1 h2
        have ha := h1.resolve_left (Ne.symm hne)
        exact (h ha h2.2).below (hG hne (fun e => h2.1 e.symm) (fun e => by subst e; have h3 := (hC'.2.2.2.1 (show (9 == 9 || L 9) = true by simp)); rw [h2o] at h3; cases h3)), fun _ _ _ _ _ _ _ _ _ _ _ h => h, fun _ _ _ _ _ _ _ _ _ _ _ h => h, fun i hne hr L w w' v hLi hC hC' hG h h1 h2 => by
        have h2o := h2
        simp only [Bool.or_eq_true, beq_iff_eq, Bool.or_eq_false_iff, beq_eq_false_iff_ne] at h1 h2
        have ha := h1.resolve_left (Ne.symm hne)
        exact (h ha h2.2).below (hG (fun e => by subst e; exact absurd (hC.2.2.1 ha) (by rw [hLi]; simp)) hne (fun e => h2.1 e.symm)), fun _ _ _ _ _ _ _ _ _ _ _ h => h, fun _ _ _ _ _ _ _ _ _ _ _ h => h, fun i hne hr L w w' v hLi hC hC' hG h h1 => by
        simp only [Bool.or_eq_true, beq_iff_eq] at h1
        have ha := h1.resolve_left (Ne.symm hne)
        exact (h ha).below (hG (fun e => by subst e; exact absurd (hC.2.2.1 (hC.2.2.2.1 ha)) (by rw [hLi]; simp)) (fun e => by subst e; exact absurd (hC.2.2.2.1 ha) (by rw [hLi]; simp)) hne), fun i hne hr L w w' v hLi hC hC' hG h h1 => by
        simp only [Bool.or_eq_true, beq_iff_eq] at h1
        have ha := h1.resolve_left (Ne.symm hne)
        exact (h ha).below (hG (fun e => by subst e; exact absurd (hC.2.2.1 (hC.2.2.2.1 (hC.2.2.2.2.1 ha))) (by rw [hLi]; simp)) (fun e => by subst e; exact absurd (hC.2.2.2.1 (hC.2.2.2.2.1 ha)) (by rw [hLi]; simp)) (fun e => by subst e; exact absurd (hC.2.2.2.2.1 ha) (by rw [hLi]; simp))), trivial⟩
  case startK2 => exact ⟨Writes.of_below (Below.refl _ _).drew _, fun _ => (Below.refl _ _).drew, fun h => by simp at h, fun h => by simp at h, fun h => by simp at h, trivial⟩
  case eachK2 =>
    refine ⟨?_, ?_, ?_, ?_, ?_, ?_, ?_, ?_, ?_, ?_, ?_, trivial⟩
    -- 0: slot 9 := move t3
    · intro w L f hC hLi hLd hLn hF
      obtain ⟨d3, _⟩ := hF
      have d3 : f 3 = v1 := d3
      refine Step2.live rfl ?_
      exact relUpon_value (v := f 3) rfl (hC) (fun _ _ _ => Below.refl _ _) d3
    -- 1: slot 10 := fieldAddr 78 t1 1
    · intro w L f hC hLi hLd hLn hF
      obtain ⟨d1, _⟩ := hF
      have d1 : f 1 = .pointer (some ⟨bx, 0, none⟩) := d1
      refine Step2.live rfl ?_
      have ev : ∀ t, evalOf f (.tmp t) = f t := fun _ => rfl
      have ec : ∀ c, evalOf f (.const c) = c := fun _ => rfl
      have ef : ∀ g, evalOf f (.func g) = .func (.func g) #[] #[] := fun _ => rfl
      refine relUpon_value ?_ hC (fun _ _ _ => Below.refl _ _) rfl
      go_simp
    -- 2: slot 11 := load 9 t10
    · intro w L f hC hLi hLd hLn hF
      obtain ⟨d10, _⟩ := hF
      have d10 : f 10 = .pointer (some ⟨bx, 1, none⟩) := d10
      refine Step2.live rfl ?_
      have hcell0 := hC.1.fact3 f1.out
      have ev : ∀ t, evalOf f (.tmp t) = f t := fun _ => rfl
      have ec : ∀ c, evalOf f (.const c) = c := fun _ => rfl
      have ef : ∀ g, evalOf f (.func g) = .func (.func g) #[] #[] := fun _ => rfl
      refine relUpon_value ?_ hC (fun _ _ _ => Below.refl _ _) rfl
      go_simp
    -- 3: slot 12 := call { value (Operand.func 33), args := #[t9, t11], argTypes := #[26, 9] }
    · intro w L f hC hLi hLd hLn hF
      obtain ⟨d9, d11, _⟩ := hF
      have d9 : f 9 = v1 := d9
      have d11 : f 11 = .string name := d11
      refine Step2.live rfl ?_
      have ev : ∀ t, evalOf f (.tmp t) = f t := fun _ => rfl
      have ec : ∀ c, evalOf f (.const c) = c := fun _ => rfl
      have ef : ∀ g, evalOf f (.func g) = .func (.func g) #[] #[] := fun _ => rfl
      refine relUpon_call (f := 33) (args := #[v1, .string name]) (w := w) (by go_simp) (refText_any w W v1 (cur) M2 name (hs1.out.below (hC.2.1 hLi)) (Nat.le_trans hs1B.out (hC.2.1 hLi).size) (by have := hnm.out; omega) (by have := hcl.out; omega)) ?_
      intro e w1 hr
      obtain ⟨v', he, ho, hM⟩ := hr.link hC.1 (.inl rfl)
      exact ⟨v', he, ⟨hM, fun h => (by simp at h), fun _ => rfl, hC.2.2.2.1, hC.2.2.2.2.1, trivial⟩, fun h0 h1 h2 => absurd rfl h0, fun _ _ => ho⟩
    -- 4: slot 13 := fieldAddr 78 t1 2
    · intro w L f hC hLi hLd hLn hF
      obtain ⟨d1, _⟩ := hF
      have d1 : f 1 = .pointer (some ⟨bx, 0, none⟩) := d1
      refine Step2.live rfl ?_
      have ev : ∀ t, evalOf f (.tmp t) = f t := fun _ => rfl
      have ec : ∀ c, evalOf f (.const c) = c := fun _ => rfl
      have ef : ∀ g, evalOf f (.func g) = .func (.func g) #[] #[] := fun _ => rfl
      refine relUpon_value ?_ hC (fun _ _ _ => Below.refl _ _) rfl
      go_simp
    -- 5: slot 14 := load 9 t13
    · intro w L f hC hLi hLd hLn hF
      obtain ⟨d13, _⟩ := hF
      have d13 : f 13 = .pointer (some ⟨bx, 2, none⟩) := d13
      refine Step2.live rfl ?_
      have hcell0 := hC.1.fact3 f2.out
      have ev : ∀ t, evalOf f (.tmp t) = f t := fun _ => rfl
      have ec : ∀ c, evalOf f (.const c) = c := fun _ => rfl
      have ef : ∀ g, evalOf f (.func g) = .func (.func g) #[] #[] := fun _ => rfl
      refine relUpon_value ?_ hC (fun _ _ _ => Below.refl _ _) rfl
      go_simp
    -- 6: slot 15 := call { value (Operand.func 33), args := #[t12, t14], argTypes := #[26, 9] }
    · intro w L f hC hLi hLd hLn hF
      obtain ⟨d12, d14, _⟩ := hF
      have d14 : f 14 = .string text := d14
      refine Step2.live rfl ?_
      have hp := d12 (hLd 3 (by decide)) hLi
      have ev : ∀ t, evalOf f (.tmp t) = f t := fun _ => rfl
      have ec : ∀ c, evalOf f (.const c) = c := fun _ => rfl
      have ef : ∀ g, evalOf f (.func g) = .func (.func g) #[] #[] := fun _ => rfl
      refine relUpon_call (f := 33) (args := #[(f 12), .string text]) (w := w) (by go_simp) (refText_any w W (f 12) (cur ++ txtE name) _ text hp.sr (Nat.le_trans hs1B.out hC.1.size) (by have := htx.out; omega) (by have := hcl.out; have := hl1.out; simp; omega)) ?_
      intro e w1 hr
      obtain ⟨v', he, ho, hM⟩ := hr.link hC.1 (hp.2)
      exact ⟨v', he, ⟨hM, fun h => (by have h9 : L 3 = true := (hLd 3 (by decide)); simp [h9] at h), fun _ => hLd 3 (by decide), fun _ => rfl, hC.2.2.2.2.1, trivial⟩, fun h0 h1 h2 => absurd rfl h1, fun _ _ => ho⟩
    -- 7: slot 16 := fieldAddr 78 t1 3
    · intro w L f hC hLi hLd hLn hF
      obtain ⟨d1, _⟩ := hF
      have d1 : f 1 = .pointer (some ⟨bx, 0, none⟩) := d1
      refine Step2.live rfl ?_
      have ev : ∀ t, evalOf f (.tmp t) = f t := fun _ => rfl
      have ec : ∀ c, evalOf f (.const c) = c := fun _ => rfl
      have ef : ∀ g, evalOf f (.func g) = .func (.func g) #[] #[] := fun _ => rfl
      refine relUpon_value ?_ hC (fun _ _ _ => Below.refl _ _) rfl
      go_simp
    -- 8: slot 17 := load 3 t16
    · intro w L f hC hLi hLd hLn hF
      obtain ⟨d16, _⟩ := hF
      have d16 : f 16 = .pointer (some ⟨bx, 3, none⟩) := d16
      refine Step2.live rfl ?_
      have hcell0 := hC.1.fact3 f3.out
      have ev : ∀ t, evalOf f (.tmp t) = f t := fun _ => rfl
      have ec : ∀ c, evalOf f (.const c) = c := fun _ => rfl
      have ef : ∀ g, evalOf f (.func g) = .func (.func g) #[] #[] := fun _ => rfl
      refine relUpon_value ?_ hC (fun _ _ _ => Below.refl _ _) rfl
      go_simp
    -- 9: slot 18 := call { value (Operand.func 64), args := #[t15, t17], argTypes := #[26, 2] }
    · intro w L f hC hLi hLd hLn hF
      obtain ⟨d15, d17, _⟩ := hF
      have d17 : f 17 = .int .i64 n := d17
      refine Step2.live rfl ?_
      have hp := d15 (hLd 6 (by decide)) hLi
      have ev : ∀ t, evalOf f (.tmp t) = f t := fun _ => rfl
      have ec : ∀ c, evalOf f (.const c) = c := fun _ => rfl
      have ef : ∀ g, evalOf f (.func g) = .func (.func g) #[] #[] := fun _ => rfl
      refine relUpon_call (f := 64) (args := #[(f 15), .int .i64 n]) (w := w) (by go_simp) (refInt_any w W (f 15) (cur ++ txtE name ++ txtE text) _ n hp.sr (Nat.le_trans hs1B.out hC.1.size) hn.out (by have := hcl.out; have := hl1.out; have := hl2.out; simp; omega)) ?_
      intro e w1 hr
      obtain ⟨v', he, ho, hM⟩ := hr.link hC.1 (hp.2)
      exact ⟨v', he, ⟨hM, fun h => (by have h9 : L 3 = true := (hC.2.2.1 (hLd 6 (by decide))); simp [h9] at h), hC.2.2.1, fun _ => hLd 6 (by decide), fun _ => rfl, trivial⟩, fun h0 h1 h2 => absurd rfl h2, fun _ => ho⟩
    -- 10: slot 2 := assign t18
    · intro w L f hC hLi hLd hLn hF
      obtain ⟨d18, _⟩ := hF
      refine Step2.live rfl ?_
      exact relUpon_value (v := f 18) rfl ⟨hC.1, hC.2.1, hC.2.2.1, hC.2.2.2.1, fun _ => hLd 9 (by decide), trivial⟩ (fun _ _ _ => Below.refl _ _) (fun _ => d18 (hLd 9 (by decide)))
  intro x w' hC hV

  have ho2 := hV 10 _ rfl rfl rfl
  have hr := hnx.out _ _ _ (OwnF.refd ho2 hC.1)
  rw [← hrq.out] at hr
  have hr := hgo.out _ _ hr
  clear ho2 hV hC
  simp only [framed]
  go_wp2_with fail
  go_ret
  exact hr
end Go.Proofs.Ytimhghmnnibajaa
