/-
  The walk of augurref24.ReplyBytes.
-/
import Derived.Test.YtimhghmnnibajaaRqF
import Derived.Test.YtimhghmnnibajaaCodeY
namespace Go.Proofs.Ytimhghmnnibajaa
open Go.RowKit

theorem Row.off_own {w w' : World} {B : Nat} {e : TypeId} {v : Value} {n : Nat} {xs vs : List Value} {A : Option Addr} (h : Row w B A vs) (ho : w'.ownsRow B e 1 v n xs) (hn : vs ≠ []) : v.ownBlock = none ∨ v.ownBlock ≠ blk A := by
  obtain ⟨b, off, rfl, hb, _⟩ := h hn
  refine .inr fun e => ?_
  have := own_low ho (k := b) e.symm
  omega
set_option maxRecDepth 100000 in
set_option maxHeartbeats 4000000 in
theorem refBytesP_any (w0 : World) (kind err pos : Int) (A1 : Option Addr) (n1 c1 : Nat) (al : List Al) (text : ByteArray) (n : Int) (hk : i64ok kind) (herr : i64ok err) (hpos : i64ok pos) (hal : al.length = n1) (hn1 : n1 ≤ 1000) (halo : ∀ a ∈ al, a.ok) (hrw : Row w0 w0.heap.size A1 (al.flatMap Al.cells)) (htx : text.size ≤ 20000) (hn : i64ok n) :
    Calls Try.prog 52 #[.agg #[.int .i64 kind, .int .i64 err, .int .i64 pos, .slice A1 n1 c1, .string text, .int .i64 n]] w0 (Refd w0 w0.heap.size none (rpE ⟨kind, err, pos, al, text, n⟩)) := by
  have hl2 := Lib.hid (alsE_len hal hn1 halo)
  have herr := Lib.hid herr
  rename_i h1
  have hpos := Lib.hid hpos
  rename_i h2
  have hal := Lib.hid hal
  rename_i h3
  have halo := Lib.hid halo
  rename_i h4
  have htx := Lib.hid htx
  rename_i h5
  have hn := Lib.hid hn
  rename_i h6
  have hrw0 := Lib.hid hrw
  have hn1 := Lib.hid hn1
  rename_i h7
  clear h1 h2 h3 h4 h5 h6 h7 hrw
  obtain ⟨kk, hkke⟩ : ∃ x : Nat, x = (max 0 kind).toNat := ⟨_, rfl⟩
  have hkv : (if kind < 0 then 0 else kind) = (kk : Int) := by split <;> omega
  have hkv2 : (if 0 < kind then kind else 0) = (kk : Int) := by split <;> omega
  have hkk : kk < 18446744073709551616 := by unfold i64ok at hk; omega
  have hkk1 := Lib.hid hkk
  have hwk : IntKind.u64.wrap (kk : Int) = kk := IntWalk.u64_in _ (by omega)
  have hrq : Hid (rpE ⟨kind, err, pos, al, text, n⟩ = [] ++ numE kk ++ intE err ++ intE pos ++ alsE al ++ txtE text ++ intE n) := Lib.hid (by unfold rpE; rw [← hkke]; simp)
  clear hkke hk
  have hb1 := Lib.hid (below_new w0 (.cells #[.int .i64 kind, .int .i64 err, .int .i64 pos, .slice A1 n1 c1, .string text, .int .i64 n] 86))
  have hbx := Lib.hid (Holds.new w0 86 #[.int .i64 kind, .int .i64 err, .int .i64 pos, .slice A1 n1 c1, .string text, .int .i64 n])
  have q0 := (hbx.out.fact 0 rfl).2
  go_enter Try.func52, Try.ntmps52
  go_wp2_with fail
  clear q0
  have hrow1 := Lib.hid (Row.below hrw0.out hb1.out)
  have hb0 := below_new w0 (.cells #[.int .i64 kind, .int .i64 err, .int .i64 pos, .slice A1 n1 c1, .string text, .int .i64 n] 86)
  generalize hw1 : w0.alloc (.cells #[.int .i64 kind, .int .i64 err, .int .i64 pos, .slice A1 n1 c1, .string text, .int .i64 n] 86) = w1 at hb1 hbx hb0 hrow1 ⊢
  clear hw1 hb0 hrw0
  obtain ⟨W, hW⟩ : ∃ x, w0.heap.size = x := ⟨_, rfl⟩
  have hgo : Hid (∀ l e w', Refd w1 W none l e w' → Refd w0 w0.heap.size none l e w') := Lib.hid fun l e w' h => by
    rw [← hW] at h
    exact Refd.before hb1.out h
  have hB1 : Hid (W ≤ w1.heap.size) := Lib.hid (by rw [← hW]; exact hb1.out.size)
  rw [hW] at hbx hrow1
  rw [hW]
  rw [hW] at hgo
  obtain ⟨bx, hbxe⟩ : ∃ x, x = W := ⟨_, rfl⟩
  rw [← hbxe] at hbx ⊢
  have hgo2 : Hid (∀ l e w', Refd w1 W none l e w' → Refd w0 bx none l e w') := Lib.hid fun l e w' h => by
    rw [hbxe]
    exact hgo.out l e w' h
  have hW9 : Hid (bx = w0.heap.size) := Lib.hid (hbxe.trans hW.symm)
  clear hW hb1 hgo hbxe
  refine (refNum_any w1 W _ [] none kk (Sr.nil_ _ _) hB1.out hkk (by simp)).mono ?_
  intro e wb hr
  obtain ⟨v1, rfl, ho, hM, hF⟩ := hr
  have ho1 : Hid (OwnF w1 W none ([] ++ numE kk) wb v1) := Lib.hid ⟨ho, hF⟩
  have hM1 := Lib.hid hM
  have hbx1 := Lib.hid (hM.holds hbx.out (by simp))
  have hs1B := Lib.hid (Nat.le_trans hB1.out hM.size)
  have hM2b := Lib.hid (ho1.out.off hbx.out.lt (by simp))
  have f1 := Lib.hid (hbx1.out.fact3 hM2b.out 1 rfl)
  have f2 := Lib.hid (hbx1.out.fact3 hM2b.out 2 rfl)
  have hs1 := Lib.hid ho1.out.sr
  have hnx : Hid (∀ l v' w', OwnF wb W v1.ownBlock l w' v' → Writes [v1.ownBlock] wb w' → OwnF w1 W none l w' v' ∧ Writes [none] w1 w') := Lib.hid fun l v' w' h h2 => by
    obtain ⟨v4, he, h3, h4⟩ := (h.refd h2).link hM1.out ho1.out.2
    injection he with he
    subst he
    exact ⟨h3, h4⟩
  have hcl : Hid (([] ++ numE kk : List UInt8).length ≤ 100) := Lib.hid (by have := numE_len10 kk hkk1.out; simp; omega)
  have hl1 := Lib.hid (intE_len herr.out)
  obtain ⟨M2, hM2⟩ : ∃ M, M = v1.ownBlock := ⟨_, rfl⟩
  rw [← hM2] at f1 f2 hs1 hnx
  clear ho hM hF ho1 hM1 hbx1 hM2b hM2
  generalize ([] ++ numE kk : List UInt8) = cur at hs1 hcl hrq
  go_wp2_with fail
  -- THE REGION THAT DRAWS ITS ORDER, BY ONE LEXICAL WALK OVER GENERIC VALUES (written by relgen.py)
  refine wp_region_tabL ((fun _ _ v => v = v1) ::
    (fun _ _ v => v = .pointer (some ⟨bx, 1, none⟩)) ::
    (fun _ _ v => v = .int .i64 err) ::
    (fun L w v => L 3 = true → L 6 = false → OwnF wb W M2 (cur ++ intE err) w v) ::
    (fun _ _ v => v = .pointer (some ⟨bx, 2, none⟩)) ::
    (fun _ _ v => v = .int .i64 pos) ::
    (fun L w v => L 6 = true → OwnF wb W M2 (cur ++ intE err ++ intE pos) w v) ::
    (fun L w v => L 7 = true → OwnF wb W M2 (cur ++ intE err ++ intE pos) w v) :: [])
    (⟨[(3, none)], 0, []⟩ :: ⟨[(1, none)], 0, []⟩ :: ⟨[(10, some 1)], 0, []⟩ :: ⟨[(9, some 0), (11, some 2)], 0, []⟩ :: ⟨[(1, none)], 0, []⟩ :: ⟨[(13, some 4)], 0, []⟩ :: ⟨[(12, some 3), (14, some 5)], 0, []⟩ :: ⟨[(15, some 6)], 0, []⟩ :: [])
    (none :: none :: none :: some 7 :: none :: none :: none :: none :: none :: some 0 :: some 1 :: some 2 :: some 3 :: some 4 :: some 5 :: some 6 :: [])
    (fun L w' => Writes [M2] wb w' ∧ (L 3 = false → Below wb.heap.size wb w') ∧ (L 6 = true → L 3 = true) ∧ (L 7 = true → L 6 = true) ∧ True) (fun i w w' => i ≠ 3 → i ≠ 6 → Below w.heap.size w w') ?mixK2 ?okK2 ?tabK2 ?frK2 ?inK2 ?keptK2 ?startK2 ?eachK2 ?finK2
  case mixK2 => kernel_rfl
  case okK2 => kernel_rfl
  case tabK2 => kernel_rfl
  case frK2 => kernel_rfl
  case inK2 => rfl
  case keptK2 => exact ⟨fun _ _ _ _ _ _ _ _ _ _ _ h => h, fun _ _ _ _ _ _ _ _ _ _ _ h => h, fun _ _ _ _ _ _ _ _ _ _ _ h => h, fun i hne hr L w w' v hLi hC hC' hG h h1 h2 => by
        have h2o := h2
        simp only [Bool.or_eq_true, beq_iff_eq, Bool.or_eq_false_iff, beq_eq_false_iff_ne] at h1 h2
        have ha := h1.resolve_left (Ne.symm hne)
        exact (h ha h2.2).below (hG hne (fun e => h2.1 e.symm)), fun _ _ _ _ _ _ _ _ _ _ _ h => h, fun _ _ _ _ _ _ _ _ _ _ _ h => h, fun i hne hr L w w' v hLi hC hC' hG h h1 => by
        simp only [Bool.or_eq_true, beq_iff_eq] at h1
        have ha := h1.resolve_left (Ne.symm hne)
        exact (h ha).below (hG (fun e => by subst e; exact absurd (hC.2.2.1 ha) (by rw [hLi]; simp)) hne), fun i hne hr L w w' v hLi hC hC' hG h h1 => by
        simp only [Bool.or_eq_true, beq_iff_eq] at h1
        have ha := h1.resolve_left (Ne.symm hne)
        exact (h ha).below (hG (fun e => by subst e; exact absurd (hC.2.2.1 (hC.2.2.2.1 ha)) (by rw [hLi]; simp)) (fun e => by subst e; exact absurd (hC.2.2.2.1 ha) (by rw [hLi]; simp))), trivial⟩
  case startK2 => exact ⟨Writes.of_below (Below.refl _ _).drew _, fun _ => (Below.refl _ _).drew, fun h => by simp at h, fun h => by simp at h, trivial⟩
  case eachK2 =>
    refine ⟨?_, ?_, ?_, ?_, ?_, ?_, ?_, ?_, trivial⟩
    -- 0: slot 9 := move t3
    · intro w L f hC hLi hLd hLn hF
      obtain ⟨d3, _⟩ := hF
      have d3 : f 3 = v1 := d3
      refine Step2.live rfl ?_
      exact relUpon_value (v := f 3) rfl (hC) (fun _ _ => Below.refl _ _) d3
    -- 1: slot 10 := fieldAddr 86 t1 1
    · intro w L f hC hLi hLd hLn hF
      obtain ⟨d1, _⟩ := hF
      have d1 : f 1 = .pointer (some ⟨bx, 0, none⟩) := d1
      refine Step2.live rfl ?_
      have ev : ∀ t, evalOf f (.tmp t) = f t := fun _ => rfl
      have ec : ∀ c, evalOf f (.const c) = c := fun _ => rfl
      have ef : ∀ g, evalOf f (.func g) = .func (.func g) #[] #[] := fun _ => rfl
      refine relUpon_value ?_ hC (fun _ _ => Below.refl _ _) rfl
      go_simp
    -- 2: slot 11 := load 35 t10
    · intro w L f hC hLi hLd hLn hF
      obtain ⟨d10, _⟩ := hF
      have d10 : f 10 = .pointer (some ⟨bx, 1, none⟩) := d10
      refine Step2.live rfl ?_
      have hcell0 := hC.1.fact3 f1.out
      have ev : ∀ t, evalOf f (.tmp t) = f t := fun _ => rfl
      have ec : ∀ c, evalOf f (.const c) = c := fun _ => rfl
      have ef : ∀ g, evalOf f (.func g) = .func (.func g) #[] #[] := fun _ => rfl
      refine relUpon_value ?_ hC (fun _ _ => Below.refl _ _) rfl
      go_simp
    -- 3: slot 12 := call { value (Operand.func 64), args := #[t9, t11], argTypes := #[26, 2] }
    · intro w L f hC hLi hLd hLn hF
      obtain ⟨d9, d11, _⟩ := hF
      have d9 : f 9 = v1 := d9
      have d11 : f 11 = .int .i64 err := d11
      refine Step2.live rfl ?_
      have ev : ∀ t, evalOf f (.tmp t) = f t := fun _ => rfl
      have ec : ∀ c, evalOf f (.const c) = c := fun _ => rfl
      have ef : ∀ g, evalOf f (.func g) = .func (.func g) #[] #[] := fun _ => rfl
      refine relUpon_call (f := 64) (args := #[v1, .int .i64 err]) (w := w) (by go_simp) (refInt_any w W v1 (cur) M2 err (hs1.out.below (hC.2.1 hLi)) (Nat.le_trans hs1B.out (hC.2.1 hLi).size) herr.out (by have := hcl.out; omega)) ?_
      intro e w1 hr
      obtain ⟨v', he, ho, hM⟩ := hr.link hC.1 (.inl rfl)
      exact ⟨v', he, ⟨hM, fun h => (by simp at h), fun _ => rfl, hC.2.2.2.1, trivial⟩, fun h0 h1 => absurd rfl h0, fun _ _ => ho⟩
    -- 4: slot 13 := fieldAddr 86 t1 2
    · intro w L f hC hLi hLd hLn hF
      obtain ⟨d1, _⟩ := hF
      have d1 : f 1 = .pointer (some ⟨bx, 0, none⟩) := d1
      refine Step2.live rfl ?_
      have ev : ∀ t, evalOf f (.tmp t) = f t := fun _ => rfl
      have ec : ∀ c, evalOf f (.const c) = c := fun _ => rfl
      have ef : ∀ g, evalOf f (.func g) = .func (.func g) #[] #[] := fun _ => rfl
      refine relUpon_value ?_ hC (fun _ _ => Below.refl _ _) rfl
      go_simp
    -- 5: slot 14 := load 3 t13
    · intro w L f hC hLi hLd hLn hF
      obtain ⟨d13, _⟩ := hF
      have d13 : f 13 = .pointer (some ⟨bx, 2, none⟩) := d13
      refine Step2.live rfl ?_
      have hcell0 := hC.1.fact3 f2.out
      have ev : ∀ t, evalOf f (.tmp t) = f t := fun _ => rfl
      have ec : ∀ c, evalOf f (.const c) = c := fun _ => rfl
      have ef : ∀ g, evalOf f (.func g) = .func (.func g) #[] #[] := fun _ => rfl
      refine relUpon_value ?_ hC (fun _ _ => Below.refl _ _) rfl
      go_simp
    -- 6: slot 15 := call { value (Operand.func 64), args := #[t12, t14], argTypes := #[26, 2] }
    · intro w L f hC hLi hLd hLn hF
      obtain ⟨d12, d14, _⟩ := hF
      have d14 : f 14 = .int .i64 pos := d14
      refine Step2.live rfl ?_
      have hp := d12 (hLd 3 (by decide)) hLi
      have ev : ∀ t, evalOf f (.tmp t) = f t := fun _ => rfl
      have ec : ∀ c, evalOf f (.const c) = c := fun _ => rfl
      have ef : ∀ g, evalOf f (.func g) = .func (.func g) #[] #[] := fun _ => rfl
      refine relUpon_call (f := 64) (args := #[(f 12), .int .i64 pos]) (w := w) (by go_simp) (refInt_any w W (f 12) (cur ++ intE err) _ pos hp.sr (Nat.le_trans hs1B.out hC.1.size) hpos.out (by have := hcl.out; have := hl1.out; simp; omega)) ?_
      intro e w1 hr
      obtain ⟨v', he, ho, hM⟩ := hr.link hC.1 (hp.2)
      exact ⟨v', he, ⟨hM, fun h => (by have h9 : L 3 = true := (hLd 3 (by decide)); simp [h9] at h), fun _ => hLd 3 (by decide), fun _ => rfl, trivial⟩, fun h0 h1 => absurd rfl h1, fun _ => ho⟩
    -- 7: slot 3 := assign t15
    · intro w L f hC hLi hLd hLn hF
      obtain ⟨d15, _⟩ := hF
      refine Step2.live rfl ?_
      exact relUpon_value (v := f 15) rfl ⟨hC.1, hC.2.1, hC.2.2.1, fun _ => hLd 6 (by decide), trivial⟩ (fun _ _ => Below.refl _ _) (fun _ => d15 (hLd 6 (by decide)))
  intro x w' hC hV

  have hr := hnx.out _ _ _ (hV 7 _ rfl rfl rfl) hC.1
  clear hV hC hs1 hs1B hnx f1 f2 hl1
  simp only [framed]
  generalize x 7 = v3 at hr ⊢
  obtain ⟨ho0, hM0⟩ := hr
  have ho1 := Lib.hid ho0
  have hM1 := Lib.hid hM0
  have hbx1 := Lib.hid (hM0.holds hbx.out (by simp))
  have hs1B := Lib.hid (Nat.le_trans hB1.out hM0.size)
  have hM2b := Lib.hid (ho1.out.off hbx.out.lt (by simp))
  have hrow2 := hM0.row hrow1.out (by have := hB1.out; omega) (fun hne hm => by
    obtain ⟨b, off, rfl, _⟩ := hrow1.out hne
    simp [blk] at hm)
  have hg1 : Hid (al.flatMap Al.cells ≠ [] → v3.ownBlock = none ∨ v3.ownBlock ≠ blk A1) := Lib.hid fun hne => hrow1.out.off_own ho0.1 hne
  have hrwb := Lib.hid (Row.more hrow2 hs1B.out)
  have hrw : Hid (∀ wa, Writes [v3.ownBlock] w' wa → Row wa wa.heap.size A1 (al.flatMap Al.cells)) := Lib.hid fun wa hM => Row.more (hM.row hrwb.out (Nat.le_refl _) (fun hne hm => by
    simp only [List.mem_cons, List.mem_nil_iff, or_false] at hm
    obtain ⟨b, off, rfl, _⟩ := hrow1.out hne
    rcases hg1.out hne with h | h
    · rw [h] at hm; cases hm
    · exact h hm.symm)) hM.size
  have f3 := Lib.hid (hbx1.out.fact3 hM2b.out 3 rfl)
  have f4 := Lib.hid (hbx1.out.fact3 hM2b.out 4 rfl)
  have f5 := Lib.hid (hbx1.out.fact3 hM2b.out 5 rfl)
  have hs1 := Lib.hid ho1.out.sr
  have hnx : Hid (∀ l e w2, Refd w' W v3.ownBlock l e w2 → Refd w1 W none l e w2) := Lib.hid fun l e w2 h => Refd.next ho1.out hM1.out h
  have hcl2 : Hid ((cur ++ intE err ++ intE pos).length ≤ 200) := Lib.hid (by have := hcl.out; have := intE_len herr.out; have := intE_len hpos.out; simp; omega)
  generalize cur ++ intE err ++ intE pos = cur2 at hs1 hcl2 hrq
  clear hcl
  obtain ⟨M2, hM2⟩ : ∃ M, M = v3.ownBlock := ⟨_, rfl⟩
  rw [← hM2] at f3 f4 f5 hs1 hnx hg1 hrw
  clear ho0 hM0 ho1 hM1 hbx1 hM2b hM2 hrow2 hrwb
  have hl1 : Hid ((alsE al).length ≤ 20010) := hl2
  have hl3 := Lib.hid (txtE_len 20000 text htx.out (by omega))
  obtain ⟨wb, hwbe⟩ : ∃ x, x = w' := ⟨_, rfl⟩
  rw [← hwbe] at f3 f4 f5 hs1 hs1B hnx hrw ⊢
  clear hwbe
  obtain ⟨v1, hv1⟩ : ∃ x, x = v3 := ⟨_, rfl⟩
  rw [← hv1] at hs1 ⊢
  clear hv1
  obtain ⟨cur, hcur⟩ : ∃ x, x = cur2 := ⟨_, rfl⟩
  rw [← hcur] at hs1 hcl2 hrq
  have hcl := hcl2
  clear hcur
  go_wp2_with fail
  -- THE REGION THAT DRAWS ITS ORDER, BY ONE LEXICAL WALK OVER GENERIC VALUES (written by relgen.py)
  refine wp_region_tabL ((fun _ _ v => v = v1) ::
    (fun _ _ v => v = .pointer (some ⟨bx, 3, none⟩)) ::
    (fun _ _ v => v = .slice A1 n1 c1) ::
    (fun L w v => L 3 = true → L 6 = false → OwnF wb W M2 (cur ++ alsE al) w v) ::
    (fun _ _ v => v = .pointer (some ⟨bx, 4, none⟩)) ::
    (fun _ _ v => v = .string text) ::
    (fun L w v => L 6 = true → L 9 = false → OwnF wb W M2 (cur ++ alsE al ++ txtE text) w v) ::
    (fun _ _ v => v = .pointer (some ⟨bx, 5, none⟩)) ::
    (fun _ _ v => v = .int .i64 n) ::
    (fun L w v => L 9 = true → OwnF wb W M2 (cur ++ alsE al ++ txtE text ++ intE n) w v) ::
    (fun L w v => L 10 = true → OwnF wb W M2 (cur ++ alsE al ++ txtE text ++ intE n) w v) :: [])
    (⟨[(3, none)], 0, []⟩ :: ⟨[(1, none)], 0, []⟩ :: ⟨[(17, some 1)], 0, []⟩ :: ⟨[(16, some 0), (18, some 2)], 0, []⟩ :: ⟨[(1, none)], 0, []⟩ :: ⟨[(20, some 4)], 0, []⟩ :: ⟨[(19, some 3), (21, some 5)], 0, []⟩ :: ⟨[(1, none)], 0, []⟩ :: ⟨[(23, some 7)], 0, []⟩ :: ⟨[(22, some 6), (24, some 8)], 0, []⟩ :: ⟨[(25, some 9)], 0, []⟩ :: [])
    (none :: none :: some 10 :: none :: none :: none :: none :: none :: none :: none :: none :: none :: none :: none :: none :: none :: some 0 :: some 1 :: some 2 :: some 3 :: some 4 :: some 5 :: some 6 :: some 7 :: some 8 :: some 9 :: [])
    (fun L w' => Writes [M2] wb w' ∧ (L 3 = false → Below wb.heap.size wb w') ∧ (L 6 = true → L 3 = true) ∧ (L 9 = true → L 6 = true) ∧ (L 10 = true → L 9 = true) ∧ True) (fun i w w' => i ≠ 3 → i ≠ 6 → i ≠ 9 → Below w.heap.size w w') ?mixK3 ?okK3 ?tabK3 ?frK3 ?inK3 ?keptK3 ?startK3 ?eachK3 ?finK3
  case mixK3 => kernel_rfl
  case okK3 => kernel_rfl
  case tabK3 => kernel_rfl
  case frK3 => kernel_rfl
  case inK3 => rfl
  case keptK3 => exact ⟨fun _ _ _ _ _ _ _ _ _ _ _ h => h, fun _ _ _ _ _ _ _ _ _ _ _ h => h, fun _ _ _ _ _ _ _ _ _ _ _ h => h, fun i hne hr L w w' v hLi hC hC' hG h h1 h2 => by
        have h2o := h2
        simp only [Bool.or_eq_true, beq_iff_eq, Bool.or_eq_false_iff, beq_eq_false_iff_ne] at h1 h2
        have ha := h1.resolve_left (Ne.symm hne)
        exact (h ha h2.2).below (hG hne (fun e => h2.1 e.symm) (fun e => by subst e; have h3 := (hC'.2.2.2.1 (show (9 == 9 || L 9) = true by simp)); rw [h2o] at h3; cases h3)), fun _ _ _ _ _ _ _ _ _ _ _ h => h, fun _ _ _ _ _ _ _ _ _ _ _ h => h, fun i hne hr L w w' v hLi hC hC' hG h h1 h2 => by
        have h2o := h2
        simp only [Bool.or_eq_true, beq_iff_eq, Bool.or_eq_false_iff, beq_eq_false_iff_ne] at h1 h2
        have ha := h1.resolve_left (Ne.symm hne)
        exact (h ha h2.2).below (hG (fun e => by subst e; exact absurd (hC.2.2.1 ha) (by rw [hLi]; simp)) hne (fun e => h2.1 e.symm)), fun _ _ _ _ _ _ _ _ _ _ _ h => h, fun _ _ _ _ _ _ _ _ _ _ _ h => h, fun i hne hr L w w' v hLi hC hC' hG h h1 => by
        simp only [Bool.or_eq_true, beq_iff_eq] at h1
        have ha := h1.resolve_left (Ne.symm hne)
        exact (h ha).below (hG (fun e => by subst e; exact absurd (hC.2.2.1 (hC.2.2.2.1 ha)) (by rw [hLi]; simp)) (fun e => by subst e; exact absurd (hC.2.2.2.1 ha) (by rw [hLi]; simp)) hne), fun i hne hr L w w' v hLi hC hC' hG h h1 => by
        simp only [Bool.or_eq_true, beq_iff_eq] at h1
        have ha := h1.resolve_left (Ne.symm hne)
        exact (h ha).below (hG (fun e => by subst e; exact absurd (hC.2.2.1 (hC.2.2.2.1 (hC.2.2.2.2.1 ha))) (by rw [hLi]; simp)) (fun e => by subst e; exact absurd (hC.2.2.2.1 (hC.2.2.2.2.1 ha)) (by rw [hLi]; simp)) (fun e => by subst e; exact absurd (hC.2.2.2.2.1 ha) (by rw [hLi]; simp))), trivial⟩
  case startK3 => exact ⟨Writes.of_below (Below.refl _ _).drew _, fun _ => (Below.refl _ _).drew, fun h => by simp at h, fun h => by simp at h, fun h => by simp at h, trivial⟩
  case eachK3 =>
    refine ⟨?_, ?_, ?_, ?_, ?_, ?_, ?_, ?_, ?_, ?_, ?_, trivial⟩
    -- 0: slot 16 := move t3
    · intro w L f hC hLi hLd hLn hF
      obtain ⟨d3, _⟩ := hF
      have d3 : f 3 = v1 := d3
      refine Step2.live rfl ?_
      exact relUpon_value (v := f 3) rfl (hC) (fun _ _ _ => Below.refl _ _) d3
    -- 1: slot 17 := fieldAddr 86 t1 3
    · intro w L f hC hLi hLd hLn hF
      obtain ⟨d1, _⟩ := hF
      have d1 : f 1 = .pointer (some ⟨bx, 0, none⟩) := d1
      refine Step2.live rfl ?_
      have ev : ∀ t, evalOf f (.tmp t) = f t := fun _ => rfl
      have ec : ∀ c, evalOf f (.const c) = c := fun _ => rfl
      have ef : ∀ g, evalOf f (.func g) = .func (.func g) #[] #[] := fun _ => rfl
      refine relUpon_value ?_ hC (fun _ _ _ => Below.refl _ _) rfl
      go_simp
    -- 2: slot 18 := load 56 t17
    · intro w L f hC hLi hLd hLn hF
      obtain ⟨d17, _⟩ := hF
      have d17 : f 17 = .pointer (some ⟨bx, 3, none⟩) := d17
      refine Step2.live rfl ?_
      have hcell0 := hC.1.fact3 f3.out
      have ev : ∀ t, evalOf f (.tmp t) = f t := fun _ => rfl
      have ec : ∀ c, evalOf f (.const c) = c := fun _ => rfl
      have ef : ∀ g, evalOf f (.func g) = .func (.func g) #[] #[] := fun _ => rfl
      refine relUpon_value ?_ hC (fun _ _ _ => Below.refl _ _) rfl
      go_simp
    -- 3: slot 19 := call { value (Operand.func 77), args := #[t16, t18], argTypes := #[26, 56] }
    · intro w L f hC hLi hLd hLn hF
      obtain ⟨d16, d18, _⟩ := hF
      have d16 : f 16 = v1 := d16
      have d18 : f 18 = .slice A1 n1 c1 := d18
      refine Step2.live rfl ?_
      have ev : ∀ t, evalOf f (.tmp t) = f t := fun _ => rfl
      have ec : ∀ c, evalOf f (.const c) = c := fun _ => rfl
      have ef : ∀ g, evalOf f (.func g) = .func (.func g) #[] #[] := fun _ => rfl
      refine relUpon_call (f := 77) (args := #[v1, .slice A1 n1 c1]) (w := w) (by go_simp) (refAls_any w W v1 (cur) M2 A1 c1 al (hs1.out.below (hC.2.1 hLi)) (Nat.le_trans hs1B.out (hC.2.1 hLi).size) n1 hal.out (hrw.out w hC.1) hg1.out halo.out hn1.out (by have := hcl.out; omega)) ?_
      intro e w1 hr
      obtain ⟨v', he, ho, hM⟩ := hr.link hC.1 (.inl rfl)
      exact ⟨v', he, ⟨hM, fun h => (by simp at h), fun _ => rfl, hC.2.2.2.1, hC.2.2.2.2.1, trivial⟩, fun h0 h1 h2 => absurd rfl h0, fun _ _ => ho⟩
    -- 4: slot 20 := fieldAddr 86 t1 4
    · intro w L f hC hLi hLd hLn hF
      obtain ⟨d1, _⟩ := hF
      have d1 : f 1 = .pointer (some ⟨bx, 0, none⟩) := d1
      refine Step2.live rfl ?_
      have ev : ∀ t, evalOf f (.tmp t) = f t := fun _ => rfl
      have ec : ∀ c, evalOf f (.const c) = c := fun _ => rfl
      have ef : ∀ g, evalOf f (.func g) = .func (.func g) #[] #[] := fun _ => rfl
      refine relUpon_value ?_ hC (fun _ _ _ => Below.refl _ _) rfl
      go_simp
    -- 5: slot 21 := load 9 t20
    · intro w L f hC hLi hLd hLn hF
      obtain ⟨d20, _⟩ := hF
      have d20 : f 20 = .pointer (some ⟨bx, 4, none⟩) := d20
      refine Step2.live rfl ?_
      have hcell0 := hC.1.fact3 f4.out
      have ev : ∀ t, evalOf f (.tmp t) = f t := fun _ => rfl
      have ec : ∀ c, evalOf f (.const c) = c := fun _ => rfl
      have ef : ∀ g, evalOf f (.func g) = .func (.func g) #[] #[] := fun _ => rfl
      refine relUpon_value ?_ hC (fun _ _ _ => Below.refl _ _) rfl
      go_simp
    -- 6: slot 22 := call { value (Operand.func 33), args := #[t19, t21], argTypes := #[26, 9] }
    · intro w L f hC hLi hLd hLn hF
      obtain ⟨d19, d21, _⟩ := hF
      have d21 : f 21 = .string text := d21
      refine Step2.live rfl ?_
      have hp := d19 (hLd 3 (by decide)) hLi
      have ev : ∀ t, evalOf f (.tmp t) = f t := fun _ => rfl
      have ec : ∀ c, evalOf f (.const c) = c := fun _ => rfl
      have ef : ∀ g, evalOf f (.func g) = .func (.func g) #[] #[] := fun _ => rfl
      refine relUpon_call (f := 33) (args := #[(f 19), .string text]) (w := w) (by go_simp) (refText_any w W (f 19) (cur ++ alsE al) _ text hp.sr (Nat.le_trans hs1B.out hC.1.size) (by have := htx.out; omega) (by have := hcl.out; have := hl1.out; simp; omega)) ?_
      intro e w1 hr
      obtain ⟨v', he, ho, hM⟩ := hr.link hC.1 (hp.2)
      exact ⟨v', he, ⟨hM, fun h => (by have h9 : L 3 = true := (hLd 3 (by decide)); simp [h9] at h), fun _ => hLd 3 (by decide), fun _ => rfl, hC.2.2.2.2.1, trivial⟩, fun h0 h1 h2 => absurd rfl h1, fun _ _ => ho⟩
    -- 7: slot 23 := fieldAddr 86 t1 5
    · intro w L f hC hLi hLd hLn hF
      obtain ⟨d1, _⟩ := hF
      have d1 : f 1 = .pointer (some ⟨bx, 0, none⟩) := d1
      refine Step2.live rfl ?_
      have ev : ∀ t, evalOf f (.tmp t) = f t := fun _ => rfl
      have ec : ∀ c, evalOf f (.const c) = c := fun _ => rfl
      have ef : ∀ g, evalOf f (.func g) = .func (.func g) #[] #[] := fun _ => rfl
      refine relUpon_value ?_ hC (fun _ _ _ => Below.refl _ _) rfl
      go_simp
    -- 8: slot 24 := load 3 t23
    · intro w L f hC hLi hLd hLn hF
      obtain ⟨d23, _⟩ := hF
      have d23 : f 23 = .pointer (some ⟨bx, 5, none⟩) := d23
      refine Step2.live rfl ?_
      have hcell0 := hC.1.fact3 f5.out
      have ev : ∀ t, evalOf f (.tmp t) = f t := fun _ => rfl
      have ec : ∀ c, evalOf f (.const c) = c := fun _ => rfl
      have ef : ∀ g, evalOf f (.func g) = .func (.func g) #[] #[] := fun _ => rfl
      refine relUpon_value ?_ hC (fun _ _ _ => Below.refl _ _) rfl
      go_simp
    -- 9: slot 25 := call { value (Operand.func 64), args := #[t22, t24], argTypes := #[26, 2] }
    · intro w L f hC hLi hLd hLn hF
      obtain ⟨d22, d24, _⟩ := hF
      have d24 : f 24 = .int .i64 n := d24
      refine Step2.live rfl ?_
      have hp := d22 (hLd 6 (by decide)) hLi
      have ev : ∀ t, evalOf f (.tmp t) = f t := fun _ => rfl
      have ec : ∀ c, evalOf f (.const c) = c := fun _ => rfl
      have ef : ∀ g, evalOf f (.func g) = .func (.func g) #[] #[] := fun _ => rfl
      refine relUpon_call (f := 64) (args := #[(f 22), .int .i64 n]) (w := w) (by go_simp) (refInt_any w W (f 22) (cur ++ alsE al ++ txtE text) _ n hp.sr (Nat.le_trans hs1B.out hC.1.size) hn.out (by have := hcl.out; have := hl1.out; have := hl3.out; simp; omega)) ?_
      intro e w1 hr
      obtain ⟨v', he, ho, hM⟩ := hr.link hC.1 (hp.2)
      exact ⟨v', he, ⟨hM, fun h => (by have h9 : L 3 = true := (hC.2.2.1 (hLd 6 (by decide))); simp [h9] at h), hC.2.2.1, fun _ => hLd 6 (by decide), fun _ => rfl, trivial⟩, fun h0 h1 h2 => absurd rfl h2, fun _ => ho⟩
    -- 10: slot 2 := assign t25
    · intro w L f hC hLi hLd hLn hF
      obtain ⟨d25, _⟩ := hF
      refine Step2.live rfl ?_
      exact relUpon_value (v := f 25) rfl ⟨hC.1, hC.2.1, hC.2.2.1, hC.2.2.2.1, fun _ => hLd 9 (by decide), trivial⟩ (fun _ _ _ => Below.refl _ _) (fun _ => d25 (hLd 9 (by decide)))
  intro x w' hC hV

  have ho2 := hV 10 _ rfl rfl rfl
  have hr := hnx.out _ _ _ (OwnF.refd ho2 hC.1)
  rw [← hrq.out] at hr
  have hr := hgo2.out _ _ _ hr
  clear ho2 hV hC
  simp only [framed]
  go_wp2_with fail
  go_ret
  rw [← hW9.out]
  exact hr
end Go.Proofs.Ytimhghmnnibajaa
