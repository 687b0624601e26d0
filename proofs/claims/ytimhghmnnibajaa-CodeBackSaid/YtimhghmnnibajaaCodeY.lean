/-
  The walk of the reference's Summary (augurref1).
-/
import Derived.Test.YtimhghmnnibajaaCodeX
namespace Go.Proofs.Ytimhghmnnibajaa
open Go.RowKit Go.ChangeShapes Go.WideShapes Go.Deep

theorem flat_len_all' {α : Type} (f : α → List UInt8) (n : Nat) (l : List α) (h : ∀ x ∈ l, (f x).length ≤ n) : (l.flatMap f).length ≤ n * l.length := by
  have := flat_len' f n l h l.length
  rw [List.take_length] at this
  exact this
theorem alsE_len {l : List Al} {n : Nat} (hn : l.length = n) (hn1 : n ≤ 1000) (h : ∀ a ∈ l, a.ok) : (alsE l).length ≤ 20010 := by
  have h1 := numE_len10 l.length (by omega)
  have h2 := flat_len_all' alE 20 l (fun a ha => alE_len (h a ha))
  unfold alsE
  rw [List.length_append]
  omega

set_option maxRecDepth 100000 in
set_option maxHeartbeats 4000000 in
theorem refSm_any (w0 : World) (B : Nat) (va : Value) (l : List UInt8) (M : Option Nat) (s : Sm) (A1 A2 : Option Addr) (n1 c1 n2 c2 : Nat) (hv : Sr w0 B va l M) (hB : B ≤ w0.heap.size) (hs : s.ok 1000) (h1 : s.al.length = n1) (h2 : s.md.length = n2) (hn1 : n1 ≤ 1000) (hn2 : n2 ≤ 1000)
    (hr1 : Row w0 w0.heap.size A1 (s.al.flatMap Al.cells)) (hg1 : s.al.flatMap Al.cells ≠ [] → M = none ∨ M ≠ blk A1) (hr2 : Row w0 w0.heap.size A2 (s.md.flatMap Nm.cells)) (hg2 : s.md.flatMap Nm.cells ≠ [] → M = none ∨ M ≠ blk A2) (hlen : l.length ≤ 70000000000) :
    Calls Try.prog 66 #[va, .agg #[.slice A1 n1 c1, .bool s.ends, .bool s.ret.s, .int .i64 s.ret.lo, .int .i64 s.ret.hi, .slice A2 n2 c2]] w0 (Refd w0 B M (l ++ smE s)) := by
  have hbx := Holds.new w0 61 #[.slice A1 n1 c1, .bool s.ends, .bool s.ret.s, .int .i64 s.ret.lo, .int .i64 s.ret.hi, .slice A2 n2 c2]
  have hb0 := below_new w0 (.cells #[.slice A1 n1 c1, .bool s.ends, .bool s.ret.s, .int .i64 s.ret.lo, .int .i64 s.ret.hi, .slice A2 n2 c2] 61)
  have hMb := hv.lt (Nat.le_refl _)
  have hs1 := Lib.hid (hv.below hb0)
  have hs1B := Lib.hid (Nat.le_trans hB hb0.size)
  have hhr1 : Hid (∀ wa, Writes [M] (w0.alloc (.cells #[.slice A1 n1 c1, .bool s.ends, .bool s.ret.s, .int .i64 s.ret.lo, .int .i64 s.ret.hi, .slice A2 n2 c2] 61)) wa → Row wa wa.heap.size A1 (s.al.flatMap Al.cells)) := Lib.hid fun wa hM => Row.more (hM.row ((hr1.below hb0).more hb0.size) (Nat.le_refl _) (fun hne hm => by
    simp only [List.mem_cons, List.mem_nil_iff, or_false] at hm
    obtain ⟨b, off, rfl, _⟩ := hr1 hne
    rcases hg1 hne with h | h
    · rw [h] at hm; cases hm
    · exact h hm.symm)) hM.size
  have hhr2 : Hid (∀ wa, Writes [M] (w0.alloc (.cells #[.slice A1 n1 c1, .bool s.ends, .bool s.ret.s, .int .i64 s.ret.lo, .int .i64 s.ret.hi, .slice A2 n2 c2] 61)) wa → Row wa w0.heap.size A2 (s.md.flatMap Nm.cells)) := Lib.hid fun wa hM => hM.row (hr2.below hb0) hb0.size (fun hne hm => by
    simp only [List.mem_cons, List.mem_nil_iff, or_false] at hm
    obtain ⟨b, off, rfl, _⟩ := hr2 hne
    rcases hg2 hne with h | h
    · rw [h] at hm; cases hm
    · exact h hm.symm)
  have hh1 := Lib.hid h1
  have hh2 := Lib.hid h2
  have hs := Lib.hid hs
  rename_i hs'
  have hal := Lib.hid (alsE_len h1 hn1 hs.out.1)
  have hlen := Lib.hid hlen
  rename_i hlen'
  have hg1 := Lib.hid hg1
  rename_i hg1'
  have hg2 := Lib.hid hg2
  rename_i hg2'
  have hnn1 := Lib.hid hn1
  have hwn2 : IntKind.u64.wrap (n2 : Int) = n2 := IntWalk.u64_in _ (by omega)
  have hsE : Hid (l ++ smE s = l ++ alsE s.al ++ boolE s.ends ++ ivE s.ret ++ numE n2 ++ s.md.flatMap nmE) := Lib.hid (by unfold smE; rw [h2]; simp only [List.append_assoc])
  have hsz0 : w0.heap.size ≤ (w0.alloc (.cells #[.slice A1 n1 c1, .bool s.ends, .bool s.ret.s, .int .i64 s.ret.lo, .int .i64 s.ret.hi, .slice A2 n2 c2] 61)).heap.size := hb0.size
  have hsz0 := Lib.hid hsz0
  rename_i hsz0'
  have hr2l : Hid (s.md.flatMap Nm.cells ≠ [] → ∃ b off, A2 = some ⟨b, off, none⟩ ∧ b < w0.heap.size) := Lib.hid fun hne => by
    obtain ⟨b, off, e, hb, _⟩ := hr2 hne
    exact ⟨b, off, e, hb⟩
  have hback : Hid (∀ l2 e w', Refd (w0.alloc (.cells #[.slice A1 n1 c1, .bool s.ends, .bool s.ret.s, .int .i64 s.ret.lo, .int .i64 s.ret.hi, .slice A2 n2 c2] 61)) B M l2 e w' → Refd w0 B M l2 e w') := Lib.hid fun l2 e w' h => Refd.before hb0 h
  have f0 := Lib.hid (hbx.fact3 hMb 0 rfl)
  have f1 := Lib.hid (hbx.fact3 hMb 1 rfl)
  have f2 := Lib.hid (hbx.fact3 hMb 2 rfl)
  have f3 := Lib.hid (hbx.fact3 hMb 3 rfl)
  have f4 := Lib.hid (hbx.fact3 hMb 4 rfl)
  have f5 := Lib.hid (hbx.fact3 hMb 5 rfl)
  clear hs' hlen' hg1' hg2' hsz0' hbx hb0 hMb hv hB hr1 hr2 h1 h2
  go_enter Try.func66, Try.ntmps66
  go_wp2_with fail
  generalize w0.alloc (.cells #[.slice A1 n1 c1, .bool s.ends, .bool s.ret.s, .int .i64 s.ret.lo, .int .i64 s.ret.hi, .slice A2 n2 c2] 61) = wb at hs1 hs1B hhr1 hhr2 hsz0 hback f0 f1 f2 f3 f4 f5 ⊢
  generalize w0.heap.size = bx at f0 f1 f2 f3 f4 f5 hhr2 hsz0 hr2l ⊢
  -- THE REGION THAT DRAWS ITS ORDER, BY ONE LEXICAL WALK OVER GENERIC VALUES (written by relgen.py)
  refine wp_region_tabL ((fun _ _ v => v = va) ::
    (fun _ _ v => v = .pointer (some ⟨bx, 0, none⟩)) ::
    (fun _ _ v => v = .slice A1 n1 c1) ::
    (fun L w v => L 3 = true → L 6 = false → OwnF wb B M (l ++ alsE s.al) w v) ::
    (fun _ _ v => v = .pointer (some ⟨bx, 1, none⟩)) ::
    (fun _ _ v => v = .bool s.ends) ::
    (fun L w v => L 6 = true → L 9 = false → OwnF wb B M (l ++ alsE s.al ++ boolE s.ends) w v) ::
    (fun _ _ v => v = .pointer (some ⟨bx, 2, none⟩)) ::
    (fun _ _ v => v = .agg #[.bool s.ret.s, .int .i64 s.ret.lo, .int .i64 s.ret.hi]) ::
    (fun L w v => L 9 = true → OwnF wb B M (l ++ alsE s.al ++ boolE s.ends ++ ivE s.ret) w v) ::
    (fun L w v => L 10 = true → OwnF wb B M (l ++ alsE s.al ++ boolE s.ends ++ ivE s.ret) w v) :: [])
    (⟨[(0, none)], 0, []⟩ :: ⟨[(3, none)], 0, []⟩ :: ⟨[(7, some 1)], 0, []⟩ :: ⟨[(6, some 0), (8, some 2)], 0, []⟩ :: ⟨[(3, none)], 0, []⟩ :: ⟨[(10, some 4)], 0, []⟩ :: ⟨[(9, some 3), (11, some 5)], 0, []⟩ :: ⟨[(3, none)], 0, []⟩ :: ⟨[(13, some 7)], 0, []⟩ :: ⟨[(12, some 6), (14, some 8)], 0, []⟩ :: ⟨[(15, some 9)], 0, []⟩ :: [])
    (some 10 :: none :: none :: none :: none :: none :: some 0 :: some 1 :: some 2 :: some 3 :: some 4 :: some 5 :: some 6 :: some 7 :: some 8 :: some 9 :: [])
    (fun L w' => Writes [M] wb w' ∧ (L 3 = false → Below wb.heap.size wb w') ∧ (L 6 = true → L 3 = true) ∧ (L 9 = true → L 6 = true) ∧ (L 10 = true → L 9 = true) ∧ True) (fun i w w' => i ≠ 3 → i ≠ 6 → i ≠ 9 → Below w.heap.size w w') ?mixK1 ?okK1 ?tabK1 ?frK1 ?inK1 ?keptK1 ?startK1 ?eachK1 ?finK1
  case mixK1 => kernel_rfl
  case okK1 => kernel_rfl
  case tabK1 => kernel_rfl
  case frK1 => kernel_rfl
  case inK1 => rfl
  case keptK1 => exact ⟨fun _ _ _ _ _ _ _ _ _ _ _ h => h, fun _ _ _ _ _ _ _ _ _ _ _ h => h, fun _ _ _ _ _ _ _ _ _ _ _ h => h, fun i hne hr L w w' v hLi hC hC' hG h h1 h2 => by
        have h2o := h2
        simp only [Bool.or_eq_true, beq_iff_eq, Bool.or_eq_false_iff, beq_eq_false_iff_ne] at h1 h2
        have ha := h1.resolve_left (Ne.symm hne)
        exact (h ha h2.2).below (hG hne (fun e => h2.1 e.symm) (fun e => by subst e; have h3 := (hC'.2.2.2.1 (show (9 == 9 || L 9) = true by simp)); rw [h2o] at h3; cases h3)), fun _ _ _ _ _ _ _ _ _ _ _ h => h, fun _ _ _ _ _ _ _ _ _ _ _ h => h, fun i hne hr L w w' v hLi hC hC' hG h h1 h2 => by
        have h2o := h2
        simp only [Bool.or_eq_true, beq_iff_eq, Bool.or_eq_false_iff, beq_eq_false_iff_ne] at h1 h2
        have ha := h1.resolve_left (Ne.symm hne)
        exact (h ha h2.2).below (hG (fun e => by subst e; exact absurd (hC.2.2.1 ha) (by rw [hLi]; simp)) hne (fun e => h2.1 e.symm)), fun _ _ _ _ _ _ _ _ _ _ _ h => h, fun _ _ _ _ _ _ _ _ _ _ _ h => h, fun i hne hr L w w' v hLi hC hC' hG h h1 => by
        simp only [Bool.or_eq_true, beq_iff_eq] at h1
        have ha := h1.resolve_left (Ne.symm hne)
        exact (h ha).below (hG (fun e => by subst e; exact absurd (hC.2.2.1 (hC.2.2.2.1 ha)) (by rw [hLi]; simp)) (fun e => by subst e; exact absurd (hC.2.2.2.1 ha) (by rw [hLi]; simp)) hne), fun i hne hr L w w' v hLi hC hC' hG h h1 => by
        simp only [Bool.or_eq_true, beq_iff_eq] at h1
        have ha := h1.resolve_left (Ne.symm hne)
        exact (h ha).below (hG (fun e => by subst e; exact absurd (hC.2.2.1 (hC.2.2.2.1 (hC.2.2.2.2.1 ha))) (by rw [hLi]; simp)) (fun e => by subst e; exact absurd (hC.2.2.2.1 (hC.2.2.2.2.1 ha)) (by rw [hLi]; simp)) (fun e => by subst e; exact absurd (hC.2.2.2.2.1 ha) (by rw [hLi]; simp))), trivial⟩
  case startK1 => exact ⟨Writes.of_below (Below.refl _ _).drew _, fun _ => (Below.refl _ _).drew, fun h => by simp at h, fun h => by simp at h, fun h => by simp at h, trivial⟩
  case eachK1 =>
    refine ⟨?_, ?_, ?_, ?_, ?_, ?_, ?_, ?_, ?_, ?_, ?_, trivial⟩
    -- 0: slot 6 := move t0
    · intro w L f hC hLi hLd hLn hF
      obtain ⟨d0, _⟩ := hF
      have d0 : f 0 = va := d0
      refine Step2.live rfl ?_
      exact relUpon_value (v := f 0) rfl (hC) (fun _ _ _ => Below.refl _ _) d0
    -- 1: slot 7 := fieldAddr 61 t3 0
    · intro w L f hC hLi hLd hLn hF
      obtain ⟨d3, _⟩ := hF
      have d3 : f 3 = .pointer (some ⟨bx, 0, none⟩) := d3
      refine Step2.live rfl ?_
      have ev : ∀ t, evalOf f (.tmp t) = f t := fun _ => rfl
      have ec : ∀ c, evalOf f (.const c) = c := fun _ => rfl
      have ef : ∀ g, evalOf f (.func g) = .func (.func g) #[] #[] := fun _ => rfl
      refine relUpon_value ?_ hC (fun _ _ _ => Below.refl _ _) rfl
      go_simp
    -- 2: slot 8 := load 56 t7
    · intro w L f hC hLi hLd hLn hF
      obtain ⟨d7, _⟩ := hF
      have d7 : f 7 = .pointer (some ⟨bx, 0, none⟩) := d7
      refine Step2.live rfl ?_
      have hcell0 := hC.1.fact3 f0.out
      have ev : ∀ t, evalOf f (.tmp t) = f t := fun _ => rfl
      have ec : ∀ c, evalOf f (.const c) = c := fun _ => rfl
      have ef : ∀ g, evalOf f (.func g) = .func (.func g) #[] #[] := fun _ => rfl
      refine relUpon_value ?_ hC (fun _ _ _ => Below.refl _ _) rfl
      go_simp
    -- 3: slot 9 := call { value (Operand.func 77), args := #[t6, t8], argTypes := #[26, 56] }
    · intro w L f hC hLi hLd hLn hF
      obtain ⟨d6, d8, _⟩ := hF
      have d6 : f 6 = va := d6
      have d8 : f 8 = .slice A1 n1 c1 := d8
      refine Step2.live rfl ?_
      have ev : ∀ t, evalOf f (.tmp t) = f t := fun _ => rfl
      have ec : ∀ c, evalOf f (.const c) = c := fun _ => rfl
      have ef : ∀ g, evalOf f (.func g) = .func (.func g) #[] #[] := fun _ => rfl
      refine relUpon_call (f := 77) (args := #[va, .slice A1 n1 c1]) (w := w) (by go_simp) (refAls_any w B va (l) M A1 c1 s.al (hs1.out.below (hC.2.1 hLi)) (Nat.le_trans hs1B.out (hC.2.1 hLi).size) n1 hh1.out (hhr1.out w hC.1) hg1.out hs.out.1 hnn1.out (by have := hlen.out; omega)) ?_
      intro e w1 hr
      obtain ⟨v', he, ho, hM⟩ := hr.link hC.1 (.inl rfl)
      exact ⟨v', he, ⟨hM, fun h => (by simp at h), fun _ => rfl, hC.2.2.2.1, hC.2.2.2.2.1, trivial⟩, fun h0 h1 h2 => absurd rfl h0, fun _ _ => ho⟩
    -- 4: slot 10 := fieldAddr 61 t3 1
    · intro w L f hC hLi hLd hLn hF
      obtain ⟨d3, _⟩ := hF
      have d3 : f 3 = .pointer (some ⟨bx, 0, none⟩) := d3
      refine Step2.live rfl ?_
      have ev : ∀ t, evalOf f (.tmp t) = f t := fun _ => rfl
      have ec : ∀ c, evalOf f (.const c) = c := fun _ => rfl
      have ef : ∀ g, evalOf f (.func g) = .func (.func g) #[] #[] := fun _ => rfl
      refine relUpon_value ?_ hC (fun _ _ _ => Below.refl _ _) rfl
      go_simp
    -- 5: slot 11 := load 4 t10
    · intro w L f hC hLi hLd hLn hF
      obtain ⟨d10, _⟩ := hF
      have d10 : f 10 = .pointer (some ⟨bx, 1, none⟩) := d10
      refine Step2.live rfl ?_
      have hcell0 := hC.1.fact3 f1.out
      have ev : ∀ t, evalOf f (.tmp t) = f t := fun _ => rfl
      have ec : ∀ c, evalOf f (.const c) = c := fun _ => rfl
      have ef : ∀ g, evalOf f (.func g) = .func (.func g) #[] #[] := fun _ => rfl
      refine relUpon_value ?_ hC (fun _ _ _ => Below.refl _ _) rfl
      go_simp
    -- 6: slot 12 := call { value (Operand.func 65), args := #[t9, t11], argTypes := #[26, 4] }
    · intro w L f hC hLi hLd hLn hF
      obtain ⟨d9, d11, _⟩ := hF
      have d11 : f 11 = .bool s.ends := d11
      refine Step2.live rfl ?_
      have hp := d9 (hLd 3 (by decide)) hLi
      have ev : ∀ t, evalOf f (.tmp t) = f t := fun _ => rfl
      have ec : ∀ c, evalOf f (.const c) = c := fun _ => rfl
      have ef : ∀ g, evalOf f (.func g) = .func (.func g) #[] #[] := fun _ => rfl
      refine relUpon_call (f := 65) (args := #[(f 9), .bool s.ends]) (w := w) (by go_simp) (refBool_any w B (f 9) (l ++ alsE s.al) _ s.ends hp.sr (Nat.le_trans hs1B.out hC.1.size) (by have := hlen.out; have := hal.out; simp; omega)) ?_
      intro e w1 hr
      obtain ⟨v', he, ho, hM⟩ := hr.link hC.1 (hp.2)
      exact ⟨v', he, ⟨hM, fun h => (by have h9 : L 3 = true := (hLd 3 (by decide)); simp [h9] at h), fun _ => hLd 3 (by decide), fun _ => rfl, hC.2.2.2.2.1, trivial⟩, fun h0 h1 h2 => absurd rfl h1, fun _ _ => ho⟩
    -- 7: slot 13 := fieldAddr 61 t3 2
    · intro w L f hC hLi hLd hLn hF
      obtain ⟨d3, _⟩ := hF
      have d3 : f 3 = .pointer (some ⟨bx, 0, none⟩) := d3
      refine Step2.live rfl ?_
      have ev : ∀ t, evalOf f (.tmp t) = f t := fun _ => rfl
      have ec : ∀ c, evalOf f (.const c) = c := fun _ => rfl
      have ef : ∀ g, evalOf f (.func g) = .func (.func g) #[] #[] := fun _ => rfl
      refine relUpon_value ?_ hC (fun _ _ _ => Below.refl _ _) rfl
      go_simp
    -- 8: slot 14 := load 58 t13
    · intro w L f hC hLi hLd hLn hF
      obtain ⟨d13, _⟩ := hF
      have d13 : f 13 = .pointer (some ⟨bx, 2, none⟩) := d13
      refine Step2.live rfl ?_
      have hcell0 := hC.1.fact3 f2.out
      have hcell1 := hC.1.fact3 f3.out
      have hcell2 := hC.1.fact3 f4.out
      have ev : ∀ t, evalOf f (.tmp t) = f t := fun _ => rfl
      have ec : ∀ c, evalOf f (.const c) = c := fun _ => rfl
      have ef : ∀ g, evalOf f (.func g) = .func (.func g) #[] #[] := fun _ => rfl
      refine relUpon_value ?_ hC (fun _ _ _ => Below.refl _ _) rfl
      go_simp
    -- 9: slot 15 := call { value (Operand.func 84), args := #[t12, t14], argTypes := #[26, 58] }
    · intro w L f hC hLi hLd hLn hF
      obtain ⟨d12, d14, _⟩ := hF
      have d14 : f 14 = .agg #[.bool s.ret.s, .int .i64 s.ret.lo, .int .i64 s.ret.hi] := d14
      refine Step2.live rfl ?_
      have hp := d12 (hLd 6 (by decide)) hLi
      have ev : ∀ t, evalOf f (.tmp t) = f t := fun _ => rfl
      have ec : ∀ c, evalOf f (.const c) = c := fun _ => rfl
      have ef : ∀ g, evalOf f (.func g) = .func (.func g) #[] #[] := fun _ => rfl
      refine relUpon_call (f := 84) (args := #[(f 12), .agg #[.bool s.ret.s, .int .i64 s.ret.lo, .int .i64 s.ret.hi]]) (w := w) (by go_simp) (refIval_any w B (f 12) (l ++ alsE s.al ++ boolE s.ends) _ s.ret hp.sr (Nat.le_trans hs1B.out hC.1.size) hs.out.2.1 (by have := hlen.out; have := hal.out; simp [boolE]; omega)) ?_
      intro e w1 hr
      obtain ⟨v', he, ho, hM⟩ := hr.link hC.1 (hp.2)
      exact ⟨v', he, ⟨hM, fun h => (by have h9 : L 3 = true := (hC.2.2.1 (hLd 6 (by decide))); simp [h9] at h), hC.2.2.1, fun _ => hLd 6 (by decide), fun _ => rfl, trivial⟩, fun h0 h1 h2 => absurd rfl h2, fun _ => ho⟩
    -- 10: slot 0 := assign t15
    · intro w L f hC hLi hLd hLn hF
      obtain ⟨d15, _⟩ := hF
      refine Step2.live rfl ?_
      exact relUpon_value (v := f 15) rfl ⟨hC.1, hC.2.1, hC.2.2.1, hC.2.2.2.1, fun _ => hLd 9 (by decide), trivial⟩ (fun _ _ _ => Below.refl _ _) (fun _ => d15 (hLd 9 (by decide)))
  intro x w' hC hV

  have ho := Lib.hid (hV 10 _ rfl rfl rfl)
  have hM := Lib.hid hC.1
  clear hV hC
  simp only [framed]
  generalize x 10 = v1 at ho ⊢
  have hcl0 : Hid ((l ++ alsE s.al ++ boolE s.ends ++ ivE s.ret).length ≤ 70000100000) := Lib.hid (by
    have h1 := hlen.out
    have h2 := hal.out
    have h3 := ivE_len hs.out.2.1
    simp [boolE]
    omega)
  have c5 := hM.out.fact3 f5.out
  go_wp2_with fail
  clear c5
  (with_reducible refine (refNum_z _ B v1 (l ++ alsE s.al ++ boolE s.ends ++ ivE s.ret) _ _ ho.out.sr ?b1 ?b2 ?b3 ?b4).mono ?_)
  case b1 => exact Nat.le_trans hs1B.out hM.out.size
  case b2 => omega
  case b3 => omega
  case b4 => have := hcl0.out; omega
  intro e w2 hr
  rw [Int.toNat_natCast] at hr
  obtain ⟨v2, he2, ho2, hM2⟩ := hr.link hM.out ho.out.2
  subst he2
  have ho2 := Lib.hid ho2
  rename_i ho2'
  have hM2 := Lib.hid hM2
  rename_i hM2'
  clear ho2' hM2' hr ho hM
  have c5 := hM2.out.fact3 f5.out
  go_wp2_with fail
  clear c5
  generalize l ++ alsE s.al ++ boolE s.ends ++ ivE s.ret = cur0 at hcl0 hsE ho2
  go_loopw [0, 5] (fun b i wr => ∃ j : Nat, j ≤ n2 ∧ i = .int .i64 j ∧ OwnF wb B M (cur0 ++ numE n2 ++ (s.md.take j).flatMap nmE) wr b ∧ Writes [M] wb wr) (fun _ i _ => n2 - (intOf i).toNat)
  case atStart => exact ⟨0, by omega, rfl, by simpa using ho2.out, hM2.out⟩
  clear ho2 hM2
  obtain ⟨j, hj, rfl, ho, hM⟩ := hrel
  have hcn := numE_len10 n2 (by omega)
  have hcl : (cur0 ++ numE n2 ++ (s.md.take j).flatMap nmE).length ≤ 70010000000 := by
    have h2 := flat_len' nmE 1031 s.md (fun a ha => nmE_len (hs.out.2.2 a ha) (by omega)) j
    have := hcl0.out
    simp only [List.length_append]
    omega
  have c5 := hM.fact3 f5.out
  by_cases hlt : j < n2
  case pos =>
    have hlt2 : j < s.md.length := by rw [hh2.out]; exact hlt
    obtain ⟨b, off, rfl, hbl, hne, hcell⟩ := Row.elem (C := 4) (hhr2.out wr hM) (fun _ _ => rfl) (by omega) (k := j) hlt2
    have hblb := Nat.lt_of_lt_of_le hbl hsz0.out
    have hMb : M ≠ some b := by
      rcases hg2.out hne with h | h
      · rw [h]; simp
      · exact h
    have hM2b := ho.off hblb hMb
    have g0 : Hid (Fact3 wr u0.ownBlock ⟨b, off + j * 4, none⟩ (.string s.md[j].name)) := Lib.hid ⟨Nat.lt_of_lt_of_le hblb hM.size, hM2b, hcell 0 _ rfl⟩
    have g1 : Hid (Fact3 wr u0.ownBlock ⟨b, off + j * 4 + 1, none⟩ (.bool s.md[j].v.s)) := Lib.hid ⟨Nat.lt_of_lt_of_le hblb hM.size, hM2b, hcell 1 _ rfl⟩
    have g2 : Hid (Fact3 wr u0.ownBlock ⟨b, off + j * 4 + 2, none⟩ (.int .i64 s.md[j].v.lo)) := Lib.hid ⟨Nat.lt_of_lt_of_le hblb hM.size, hM2b, hcell 2 _ rfl⟩
    have g3 : Hid (Fact3 wr u0.ownBlock ⟨b, off + j * 4 + 3, none⟩ (.int .i64 s.md[j].v.hi)) := Lib.hid ⟨Nat.lt_of_lt_of_le hblb hM.size, hM2b, hcell 3 _ rfl⟩
    have f5b : Hid (Fact3 wr u0.ownBlock ⟨bx, 5, none⟩ (.slice (some ⟨b, off, none⟩) n2 c2)) := Lib.hid ⟨Nat.lt_of_lt_of_le f5.out.1 hM.size, ho.off f5.out.1 f5.out.2.1, c5⟩
    have hao := Lib.hid (hs.out.2.2 _ (List.getElem_mem hlt2))
    have hft := Lib.hid (flat_take nmE s.md j hlt2)
    clear hcell hne
    generalize s.md[j] = a at *
    have hnm := Lib.hid (txtE_len 1000 a.name hao.out.1 (by omega))
    have hs2 := Lib.hid ho.sr
    have hs2B := Lib.hid (Nat.le_trans hs1B.out hM.size)
    have hnx : Hid (∀ v3 w3, OwnF wr B u0.ownBlock (cur0 ++ numE n2 ++ (s.md.take j).flatMap nmE ++ txtE a.name ++ ivE a.v) w3 v3 → Writes [u0.ownBlock] wr w3 → OwnF wb B M (cur0 ++ numE n2 ++ (s.md.take (j + 1)).flatMap nmE) w3 v3 ∧ Writes [M] wb w3) := Lib.hid fun v3 w3 h h2 => by
      obtain ⟨v', he, h3, h4⟩ := (h.refd h2).link hM ho.2
      injection he with he
      subst he
      rw [hft.out, ← List.append_assoc]
      rw [List.append_assoc] at h3
      exact ⟨h3, h4⟩
    generalize cur0 ++ numE n2 ++ (s.md.take j).flatMap nmE = cur at *
    have hlc := Lib.hid hcl
    clear hM2b hMb hbl hcn hcl hblb
    obtain ⟨M2, hM2⟩ : ∃ M, M = u0.ownBlock := ⟨_, rfl⟩
    rw [← hM2] at hs2 g0 g1 g2 g3 f5b hnx
    clear hM2 ho hM
    go_wp2_with fail
    clear c5
    -- THE REGION THAT DRAWS ITS ORDER, BY ONE LEXICAL WALK OVER GENERIC VALUES (written by relgen.py)
    refine wp_region_tabL ((fun _ _ v => v = u0) ::
      (fun _ _ v => v = .pointer (some ⟨bx, 5, none⟩)) ::
      (fun _ _ v => v = .slice (some ⟨b, off, none⟩) n2 c2) ::
      (fun _ _ v => v = .int .i64 j) ::
      (fun _ _ v => v = .pointer (some ⟨b, off + j * 4, none⟩)) ::
      (fun _ _ v => v = .pointer (some ⟨b, off + j * 4, none⟩)) ::
      (fun _ _ v => v = .string a.name) ::
      (fun L w v => L 7 = true → L 14 = false → OwnF wr B M2 (cur ++ txtE a.name) w v) ::
      (fun _ _ v => v = .pointer (some ⟨bx, 5, none⟩)) ::
      (fun _ _ v => v = .slice (some ⟨b, off, none⟩) n2 c2) ::
      (fun _ _ v => v = .int .i64 j) ::
      (fun _ _ v => v = .pointer (some ⟨b, off + j * 4, none⟩)) ::
      (fun _ _ v => v = .pointer (some ⟨b, off + j * 4 + 1, none⟩)) ::
      (fun _ _ v => v = .agg #[.bool a.v.s, .int .i64 a.v.lo, .int .i64 a.v.hi]) ::
      (fun L w v => L 14 = true → OwnF wr B M2 (cur ++ txtE a.name ++ ivE a.v) w v) ::
      (fun L w v => L 15 = true → OwnF wr B M2 (cur ++ txtE a.name ++ ivE a.v) w v) :: [])
      (⟨[(0, none)], 0, []⟩ :: ⟨[(3, none)], 0, []⟩ :: ⟨[(30, some 1)], 0, []⟩ :: ⟨[(5, none)], 0, []⟩ :: ⟨[(31, some 2), (32, some 3)], 0, []⟩ :: ⟨[(33, some 4)], 0, []⟩ :: ⟨[(34, some 5)], 0, []⟩ :: ⟨[(29, some 0), (35, some 6)], 0, []⟩ :: ⟨[(3, none)], 0, []⟩ :: ⟨[(37, some 8)], 0, []⟩ :: ⟨[(5, none)], 0, []⟩ :: ⟨[(38, some 9), (39, some 10)], 0, []⟩ :: ⟨[(40, some 11)], 0, []⟩ :: ⟨[(41, some 12)], 0, []⟩ :: ⟨[(36, some 7), (42, some 13)], 0, []⟩ :: ⟨[(43, some 14)], 0, []⟩ :: [])
      (some 15 :: none :: none :: none :: none :: none :: none :: none :: none :: none :: none :: none :: none :: none :: none :: none :: none :: none :: none :: none :: none :: none :: none :: none :: none :: none :: none :: none :: none :: some 0 :: some 1 :: some 2 :: some 3 :: some 4 :: some 5 :: some 6 :: some 7 :: some 8 :: some 9 :: some 10 :: some 11 :: some 12 :: some 13 :: some 14 :: [])
      (fun L w' => Writes [M2] wr w' ∧ (L 7 = false → Below wr.heap.size wr w') ∧ (L 14 = true → L 7 = true) ∧ (L 15 = true → L 14 = true) ∧ True) (fun i w w' => i ≠ 7 → i ≠ 14 → Below w.heap.size w w') ?mixK6 ?okK6 ?tabK6 ?frK6 ?inK6 ?keptK6 ?startK6 ?eachK6 ?finK6
    case mixK6 => kernel_rfl
    case okK6 => kernel_rfl
    case tabK6 => kernel_rfl
    case frK6 => kernel_rfl
    case inK6 => rfl
    case keptK6 => exact ⟨fun _ _ _ _ _ _ _ _ _ _ _ h => h, fun _ _ _ _ _ _ _ _ _ _ _ h => h, fun _ _ _ _ _ _ _ _ _ _ _ h => h, fun _ _ _ _ _ _ _ _ _ _ _ h => h, fun _ _ _ _ _ _ _ _ _ _ _ h => h, fun _ _ _ _ _ _ _ _ _ _ _ h => h, fun _ _ _ _ _ _ _ _ _ _ _ h => h, fun i hne hr L w w' v hLi hC hC' hG h h1 h2 => by
          have h2o := h2
          simp only [Bool.or_eq_true, beq_iff_eq, Bool.or_eq_false_iff, beq_eq_false_iff_ne] at h1 h2
          have ha := h1.resolve_left (Ne.symm hne)
          exact (h ha h2.2).below (hG hne (fun e => h2.1 e.symm)), fun _ _ _ _ _ _ _ _ _ _ _ h => h, fun _ _ _ _ _ _ _ _ _ _ _ h => h, fun _ _ _ _ _ _ _ _ _ _ _ h => h, fun _ _ _ _ _ _ _ _ _ _ _ h => h, fun _ _ _ _ _ _ _ _ _ _ _ h => h, fun _ _ _ _ _ _ _ _ _ _ _ h => h, fun i hne hr L w w' v hLi hC hC' hG h h1 => by
          simp only [Bool.or_eq_true, beq_iff_eq] at h1
          have ha := h1.resolve_left (Ne.symm hne)
          exact (h ha).below (hG (fun e => by subst e; exact absurd (hC.2.2.1 ha) (by rw [hLi]; simp)) hne), fun i hne hr L w w' v hLi hC hC' hG h h1 => by
          simp only [Bool.or_eq_true, beq_iff_eq] at h1
          have ha := h1.resolve_left (Ne.symm hne)
          exact (h ha).below (hG (fun e => by subst e; exact absurd (hC.2.2.1 (hC.2.2.2.1 ha)) (by rw [hLi]; simp)) (fun e => by subst e; exact absurd (hC.2.2.2.1 ha) (by rw [hLi]; simp))), trivial⟩
    case startK6 => exact ⟨Writes.of_below (Below.refl _ _).drew _, fun _ => (Below.refl _ _).drew, fun h => by simp at h, fun h => by simp at h, trivial⟩
    case eachK6 =>
      refine ⟨?_, ?_, ?_, ?_, ?_, ?_, ?_, ?_, ?_, ?_, ?_, ?_, ?_, ?_, ?_, ?_, trivial⟩
      -- 0: slot 29 := move t0
      · intro w L f hC hLi hLd hLn hF
        obtain ⟨d0, _⟩ := hF
        have d0 : f 0 = u0 := d0
        refine Step2.live rfl ?_
        exact relUpon_value (v := f 0) rfl (hC) (fun _ _ => Below.refl _ _) d0
      -- 1: slot 30 := fieldAddr 61 t3 3
      · intro w L f hC hLi hLd hLn hF
        obtain ⟨d3, _⟩ := hF
        have d3 : f 3 = .pointer (some ⟨bx, 0, none⟩) := d3
        refine Step2.live rfl ?_
        have ev : ∀ t, evalOf f (.tmp t) = f t := fun _ => rfl
        have ec : ∀ c, evalOf f (.const c) = c := fun _ => rfl
        have ef : ∀ g, evalOf f (.func g) = .func (.func g) #[] #[] := fun _ => rfl
        refine relUpon_value ?_ hC (fun _ _ => Below.refl _ _) rfl
        go_simp
      -- 2: slot 31 := load 59 t30
      · intro w L f hC hLi hLd hLn hF
        obtain ⟨d30, _⟩ := hF
        have d30 : f 30 = .pointer (some ⟨bx, 5, none⟩) := d30
        refine Step2.live rfl ?_
        have hcell0 := hC.1.fact3 f5b.out
        have ev : ∀ t, evalOf f (.tmp t) = f t := fun _ => rfl
        have ec : ∀ c, evalOf f (.const c) = c := fun _ => rfl
        have ef : ∀ g, evalOf f (.func g) = .func (.func g) #[] #[] := fun _ => rfl
        refine relUpon_value ?_ hC (fun _ _ => Below.refl _ _) rfl
        go_simp
      -- 3: slot 32 := move t5
      · intro w L f hC hLi hLd hLn hF
        obtain ⟨d5, _⟩ := hF
        have d5 : f 5 = .int .i64 j := d5
        refine Step2.live rfl ?_
        exact relUpon_value (v := f 5) rfl (hC) (fun _ _ => Below.refl _ _) d5
      -- 4: slot 33 := indexAddr 59 t31 t32
      · intro w L f hC hLi hLd hLn hF
        obtain ⟨d31, d32, _⟩ := hF
        have d31 : f 31 = .slice (some ⟨b, off, none⟩) n2 c2 := d31
        have d32 : f 32 = .int .i64 j := d32
        refine Step2.live rfl ?_
        have ev : ∀ t, evalOf f (.tmp t) = f t := fun _ => rfl
        have ec : ∀ c, evalOf f (.const c) = c := fun _ => rfl
        have ef : ∀ g, evalOf f (.func g) = .func (.func g) #[] #[] := fun _ => rfl
        refine relUpon_value ?_ hC (fun _ _ => Below.refl _ _) rfl
        go_simp
      -- 5: slot 34 := fieldAddr 118 t33 0
      · intro w L f hC hLi hLd hLn hF
        obtain ⟨d33, _⟩ := hF
        have d33 : f 33 = .pointer (some ⟨b, off + j * 4, none⟩) := d33
        refine Step2.live rfl ?_
        have ev : ∀ t, evalOf f (.tmp t) = f t := fun _ => rfl
        have ec : ∀ c, evalOf f (.const c) = c := fun _ => rfl
        have ef : ∀ g, evalOf f (.func g) = .func (.func g) #[] #[] := fun _ => rfl
        refine relUpon_value ?_ hC (fun _ _ => Below.refl _ _) rfl
        go_simp
      -- 6: slot 35 := load 9 t34
      · intro w L f hC hLi hLd hLn hF
        obtain ⟨d34, _⟩ := hF
        have d34 : f 34 = .pointer (some ⟨b, off + j * 4, none⟩) := d34
        refine Step2.live rfl ?_
        have hcell0 := hC.1.fact3 g0.out
        have ev : ∀ t, evalOf f (.tmp t) = f t := fun _ => rfl
        have ec : ∀ c, evalOf f (.const c) = c := fun _ => rfl
        have ef : ∀ g, evalOf f (.func g) = .func (.func g) #[] #[] := fun _ => rfl
        refine relUpon_value ?_ hC (fun _ _ => Below.refl _ _) rfl
        go_simp
      -- 7: slot 36 := call { value (Operand.func 33), args := #[t29, t35], argTypes := #[26, 9] }
      · intro w L f hC hLi hLd hLn hF
        obtain ⟨d29, d35, _⟩ := hF
        have d29 : f 29 = u0 := d29
        have d35 : f 35 = .string a.name := d35
        refine Step2.live rfl ?_
        have ev : ∀ t, evalOf f (.tmp t) = f t := fun _ => rfl
        have ec : ∀ c, evalOf f (.const c) = c := fun _ => rfl
        have ef : ∀ g, evalOf f (.func g) = .func (.func g) #[] #[] := fun _ => rfl
        refine relUpon_call (f := 33) (args := #[u0, .string a.name]) (w := w) (by go_simp) (refText_any w B u0 (cur) M2 a.name (hs2.out.below (hC.2.1 hLi)) (Nat.le_trans hs2B.out (hC.2.1 hLi).size) (by have := hao.out.1; omega) (by have := hlc.out; omega)) ?_
        intro e w1 hr
        obtain ⟨v', he, ho, hM⟩ := hr.link hC.1 (.inl rfl)
        exact ⟨v', he, ⟨hM, fun h => (by simp at h), fun _ => rfl, hC.2.2.2.1, trivial⟩, fun h0 h1 => absurd rfl h0, fun _ _ => ho⟩
      -- 8: slot 37 := fieldAddr 61 t3 3
      · intro w L f hC hLi hLd hLn hF
        obtain ⟨d3, _⟩ := hF
        have d3 : f 3 = .pointer (some ⟨bx, 0, none⟩) := d3
        refine Step2.live rfl ?_
        have ev : ∀ t, evalOf f (.tmp t) = f t := fun _ => rfl
        have ec : ∀ c, evalOf f (.const c) = c := fun _ => rfl
        have ef : ∀ g, evalOf f (.func g) = .func (.func g) #[] #[] := fun _ => rfl
        refine relUpon_value ?_ hC (fun _ _ => Below.refl _ _) rfl
        go_simp
      -- 9: slot 38 := load 59 t37
      · intro w L f hC hLi hLd hLn hF
        obtain ⟨d37, _⟩ := hF
        have d37 : f 37 = .pointer (some ⟨bx, 5, none⟩) := d37
        refine Step2.live rfl ?_
        have hcell0 := hC.1.fact3 f5b.out
        have ev : ∀ t, evalOf f (.tmp t) = f t := fun _ => rfl
        have ec : ∀ c, evalOf f (.const c) = c := fun _ => rfl
        have ef : ∀ g, evalOf f (.func g) = .func (.func g) #[] #[] := fun _ => rfl
        refine relUpon_value ?_ hC (fun _ _ => Below.refl _ _) rfl
        go_simp
      -- 10: slot 39 := move t5
      · intro w L f hC hLi hLd hLn hF
        obtain ⟨d5, _⟩ := hF
        have d5 : f 5 = .int .i64 j := d5
        refine Step2.live rfl ?_
        exact relUpon_value (v := f 5) rfl (hC) (fun _ _ => Below.refl _ _) d5
      -- 11: slot 40 := indexAddr 59 t38 t39
      · intro w L f hC hLi hLd hLn hF
        obtain ⟨d38, d39, _⟩ := hF
        have d38 : f 38 = .slice (some ⟨b, off, none⟩) n2 c2 := d38
        have d39 : f 39 = .int .i64 j := d39
        refine Step2.live rfl ?_
        have ev : ∀ t, evalOf f (.tmp t) = f t := fun _ => rfl
        have ec : ∀ c, evalOf f (.const c) = c := fun _ => rfl
        have ef : ∀ g, evalOf f (.func g) = .func (.func g) #[] #[] := fun _ => rfl
        refine relUpon_value ?_ hC (fun _ _ => Below.refl _ _) rfl
        go_simp
      -- 12: slot 41 := fieldAddr 118 t40 1
      · intro w L f hC hLi hLd hLn hF
        obtain ⟨d40, _⟩ := hF
        have d40 : f 40 = .pointer (some ⟨b, off + j * 4, none⟩) := d40
        refine Step2.live rfl ?_
        have ev : ∀ t, evalOf f (.tmp t) = f t := fun _ => rfl
        have ec : ∀ c, evalOf f (.const c) = c := fun _ => rfl
        have ef : ∀ g, evalOf f (.func g) = .func (.func g) #[] #[] := fun _ => rfl
        refine relUpon_value ?_ hC (fun _ _ => Below.refl _ _) rfl
        go_simp
      -- 13: slot 42 := load 58 t41
      · intro w L f hC hLi hLd hLn hF
        obtain ⟨d41, _⟩ := hF
        have d41 : f 41 = .pointer (some ⟨b, off + j * 4 + 1, none⟩) := d41
        refine Step2.live rfl ?_
        have hcell0 := hC.1.fact3 g1.out
        have hcell1 := hC.1.fact3 g2.out
        have hcell2 := hC.1.fact3 g3.out
        have ev : ∀ t, evalOf f (.tmp t) = f t := fun _ => rfl
        have ec : ∀ c, evalOf f (.const c) = c := fun _ => rfl
        have ef : ∀ g, evalOf f (.func g) = .func (.func g) #[] #[] := fun _ => rfl
        refine relUpon_value ?_ hC (fun _ _ => Below.refl _ _) rfl
        go_simp
      -- 14: slot 43 := call { value (Operand.func 84), args := #[t36, t42], argTypes := #[26, 58] }
      · intro w L f hC hLi hLd hLn hF
        obtain ⟨d36, d42, _⟩ := hF
        have d42 : f 42 = .agg #[.bool a.v.s, .int .i64 a.v.lo, .int .i64 a.v.hi] := d42
        refine Step2.live rfl ?_
        have hp := d36 (hLd 7 (by decide)) hLi
        have ev : ∀ t, evalOf f (.tmp t) = f t := fun _ => rfl
        have ec : ∀ c, evalOf f (.const c) = c := fun _ => rfl
        have ef : ∀ g, evalOf f (.func g) = .func (.func g) #[] #[] := fun _ => rfl
        refine relUpon_call (f := 84) (args := #[(f 36), .agg #[.bool a.v.s, .int .i64 a.v.lo, .int .i64 a.v.hi]]) (w := w) (by go_simp) (refIval_any w B (f 36) (cur ++ txtE a.name) _ a.v hp.sr (Nat.le_trans hs2B.out hC.1.size) hao.out.2 (by have := hlc.out; have := hnm.out; simp; omega)) ?_
        intro e w1 hr
        obtain ⟨v', he, ho, hM⟩ := hr.link hC.1 (hp.2)
        exact ⟨v', he, ⟨hM, fun h => (by have h9 : L 7 = true := (hLd 7 (by decide)); simp [h9] at h), fun _ => hLd 7 (by decide), fun _ => rfl, trivial⟩, fun h0 h1 => absurd rfl h1, fun _ => ho⟩
      -- 15: slot 0 := assign t43
      · intro w L f hC hLi hLd hLn hF
        obtain ⟨d43, _⟩ := hF
        refine Step2.live rfl ?_
        exact relUpon_value (v := f 43) rfl ⟨hC.1, hC.2.1, hC.2.2.1, fun _ => hLd 14 (by decide), trivial⟩ (fun _ _ => Below.refl _ _) (fun _ => d43 (hLd 14 (by decide)))
    intro x w' hC hV

    have ho2 := hV 15 _ rfl rfl rfl
    have hr := hnx.out _ _ ho2 hC.1
    clear ho2 hV hC
    simp only [framed]
    go_wp2_with fail
    go_roundw
    case rel => exact ⟨j + 1, by omega, by go_num, hr.1, hr.2⟩
    case measure => simp [intOf]; omega
  obtain rfl : j = n2 := by omega
  rw [show s.md.take j = s.md from by rw [← hh2.out, List.take_length]] at ho
  have ho := Lib.hid ho
  rename_i ho'
  have hM := Lib.hid hM
  rename_i hM'
  clear ho' hM' hcl hcn
  go_wp2_with fail
  go_ret
  rw [hsE.out]
  exact hback.out _ _ _ (ho.out.refd hM.out)
end Go.Proofs.Ytimhghmnnibajaa
