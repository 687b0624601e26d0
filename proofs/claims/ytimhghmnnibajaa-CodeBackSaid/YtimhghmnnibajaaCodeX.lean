/-
  The walks of the reference's writers (augurref1): Ival, Alarms, Summary.
-/
import Derived.Test.YtimhghmnnibajaaCodeW
import Derived.Test.YtimhghmnnibajaaCodeU
namespace Go.Proofs.Ytimhghmnnibajaa
open Go.RowKit Go.ChangeShapes Go.WideShapes Go.Deep

theorem Refd.before {wr w w' : World} {B : Nat} {M : Option Nat} {l : List UInt8} {e : Ending} (hb : Below wr.heap.size wr w) (h : Refd w B M l e w') : Refd wr B M l e w' := by
  obtain ⟨v, he, ho, hM, hF⟩ := h
  refine ⟨v, he, ho, (Writes.of_below hb _).trans hM, hF.imp id fun ⟨k, h1, h2⟩ => ⟨k, h1, Nat.le_trans hb.size h2⟩⟩
theorem Refd.next {w w' w'' : World} {B : Nat} {M : Option Nat} {l l2 : List UInt8} {v : Value} {e : Ending} (h : OwnF w B M l w' v) (hM : Writes [M] w w') (h2 : Refd w' B v.ownBlock l2 e w'') : Refd w B M l2 e w'' := by
  obtain ⟨v', he, h3, h4⟩ := h2.link hM h.2
  subst he
  exact h3.refd h4

set_option maxRecDepth 100000 in
set_option maxHeartbeats 2000000 in
theorem refIval_any (w0 : World) (B : Nat) (v : Value) (l : List UInt8) (M : Option Nat) (z : Iv) (hv : Sr w0 B v l M) (hB : B ≤ w0.heap.size) (hz : z.ok) (hlen : l.length ≤ 99999999800) :
    Calls Try.prog 84 #[v, .agg #[.bool z.s, .int .i64 z.lo, .int .i64 z.hi]] w0 (Refd w0 B M (l ++ ivE z)) := by
  obtain ⟨s, lo, hi⟩ := z
  have hlo := Lib.hid hz.1
  have hhi := Lib.hid hz.2
  have hlen := Lib.hid hlen
  rename_i hlen'
  clear hz hlen'
  simp only
  have hbx := Lib.hid (Holds.new w0 58 #[.bool s, .int .i64 lo, .int .i64 hi])
  have hbn := Lib.hid (below_new w0 (.cells #[.bool s, .int .i64 lo, .int .i64 hi] 58))
  have hs1 := Lib.hid (hv.below hbn.out)
  have hB1 := Lib.hid (Nat.le_trans hB hbn.out.size)
  have hMb : Hid (M ≠ some w0.heap.size) := Lib.hid (hv.lt (Nat.le_refl _))
  clear hv hB
  have c0 := (hbx.out.fact 0 rfl).2
  go_enter Try.func84, Try.ntmps84
  go_wp2_with fail
  clear c0
  refine (refBool_any _ B v l M s hs1.out hB1.out (by have := hlen.out; omega)).mono ?_
  intro e wb hr
  obtain ⟨v2, rfl, ho, hM, hF⟩ := hr
  have ho2 : Hid (OwnF (w0.alloc (.cells #[.bool s, .int .i64 lo, .int .i64 hi] 58)) B M (l ++ boolE s) wb v2) := Lib.hid ⟨ho, hF⟩
  have hbx2 := Lib.hid (hM.holds hbx.out (by simpa using fun e => hMb.out e.symm))
  have c0 := (hbx2.out.fact 0 rfl).2
  have hM := Lib.hid hM
  rename_i hM'
  clear ho hF hM'
  cases s with
  | false =>
    go_wp2_with fail
    go_ret
    have e1 : l ++ boolE false = l ++ ivE ⟨false, lo, hi⟩ := ivE_false lo hi l
    rw [← e1]
    exact Refd.before hbn.out (ho2.out.refd hM.out)
  | true =>
  have hs2 := Lib.hid ho2.out.sr
  have hs2B := Lib.hid (Nat.le_trans hB1.out hM.out.size)
  have hM2b : v2.ownBlock ≠ some w0.heap.size := by
    rcases ho2.out.2 with h | ⟨k, h, hk⟩
    · rw [h]
      exact hMb.out
    · rw [h]
      simp at hk ⊢
      omega
  have f1 := Lib.hid (hbx2.out.fact3 hM2b 1 rfl)
  have f2 := Lib.hid (hbx2.out.fact3 hM2b 2 rfl)
  have hback : Hid (∀ l2 e w', Refd wb B v2.ownBlock l2 e w' → Refd w0 B M l2 e w') := Lib.hid fun l2 e w' h => Refd.before hbn.out (Refd.next ho2.out hM.out h)
  clear ho2 hM hM2b hbx2 hbn hMb hs1 hB1 hbx
  go_wp2_with fail
  clear c0
  generalize w0.heap.size = bx at f1 f2 ⊢
  obtain ⟨M2, hM2⟩ : ∃ M, M = v2.ownBlock := ⟨_, rfl⟩
  rw [← hM2] at hs2 f1 f2 hback
  clear hM2
  -- THE REGION THAT DRAWS ITS ORDER, BY ONE LEXICAL WALK OVER GENERIC VALUES (written by relgen.py)
  refine wp_region_tabL ((fun _ _ v => v = v2) ::
    (fun _ _ v => v = .pointer (some ⟨bx, 1, none⟩)) ::
    (fun _ _ v => v = .int .i64 lo) ::
    (fun L w v => L 3 = true → L 6 = false → OwnF wb B M2 (l ++ boolE true ++ intE lo) w v) ::
    (fun _ _ v => v = .pointer (some ⟨bx, 2, none⟩)) ::
    (fun _ _ v => v = .int .i64 hi) ::
    (fun L w v => L 6 = true → OwnF wb B M2 (l ++ boolE true ++ intE lo ++ intE hi) w v) ::
    (fun L w v => L 7 = true → OwnF wb B M2 (l ++ boolE true ++ intE lo ++ intE hi) w v) :: [])
    (⟨[(0, none)], 0, []⟩ :: ⟨[(3, none)], 0, []⟩ :: ⟨[(12, some 1)], 0, []⟩ :: ⟨[(11, some 0), (13, some 2)], 0, []⟩ :: ⟨[(3, none)], 0, []⟩ :: ⟨[(15, some 4)], 0, []⟩ :: ⟨[(14, some 3), (16, some 5)], 0, []⟩ :: ⟨[(17, some 6)], 0, []⟩ :: [])
    (some 7 :: none :: none :: none :: none :: none :: none :: none :: none :: none :: none :: some 0 :: some 1 :: some 2 :: some 3 :: some 4 :: some 5 :: some 6 :: [])
    (fun L w' => Writes [M2] wb w' ∧ (L 3 = false → Below wb.heap.size wb w') ∧ (L 6 = true → L 3 = true) ∧ (L 7 = true → L 6 = true) ∧ True) (fun i w w' => i ≠ 3 → i ≠ 6 → Below w.heap.size w w') ?mixK3 ?okK3 ?tabK3 ?frK3 ?inK3 ?keptK3 ?startK3 ?eachK3 ?finK3
  case mixK3 => kernel_rfl
  case okK3 => kernel_rfl
  case tabK3 => kernel_rfl
  case frK3 => kernel_rfl
  case inK3 => rfl
  case keptK3 => exact ⟨fun _ _ _ _ _ _ _ _ _ _ _ h => h, fun _ _ _ _ _ _ _ _ _ _ _ h => h, fun _ _ _ _ _ _ _ _ _ _ _ h => h, fun i hne hr L w w' v hLi hC hC' hG h h1 h2 => by
        have h2o := h2
        simp only [Bool.or_eq_true, beq_iff_eq, Bool.or_eq_false_iff, beq_eq_false_iff_ne] at h1 h2
        have ha := h1.resolve_left (Ne.symm hne)
        exact (h ha h2.2).below (hG hne (fun e => h2.1 e.symm)), fun _ _ _ _ _ _ _ _ _ _ _ h => h, fun _ _ _ _ _ _ _ _ _ _ _ h => h, fun i hne hr L w w' v hLi hC hC' hG h h1 => by
        simp only [Bool.or_eq_true, beq_iff_eq] at h1
        have ha := h1.resolve_left (Ne.symm hne)
        exact (h ha).below (hG (fun e => by subst e; exact absurd (hC.2.2.1 ha) (by rw [hLi]; simp)) hne), fun i hne hr L w w' v hLi hC hC' hG h h1 => by
        simp only [Bool.or_eq_true, beq_iff_eq] at h1
        have ha := h1.resolve_left (Ne.symm hne)
        exact (h ha).below (hG (fun e => by subst e; exact absurd (hC.2.2.1 (hC.2.2.2.1 ha)) (by rw [hLi]; simp)) (fun e => by subst e; exact absurd (hC.2.2.2.1 ha) (by rw [hLi]; simp))), trivial⟩
  case startK3 => exact ⟨Writes.of_below (Below.refl _ _).drew _, fun _ => (Below.refl _ _).drew, fun h => by simp at h, fun h => by simp at h, trivial⟩
  case eachK3 =>
    refine ⟨?_, ?_, ?_, ?_, ?_, ?_, ?_, ?_, trivial⟩
    -- 0: slot 11 := move t0
    · intro w L f hC hLi hLd hLn hF
      obtain ⟨d0, _⟩ := hF
      have d0 : f 0 = v2 := d0
      refine Step2.live rfl ?_
      exact relUpon_value (v := f 0) rfl (hC) (fun _ _ => Below.refl _ _) d0
    -- 1: slot 12 := fieldAddr 58 t3 1
    · intro w L f hC hLi hLd hLn hF
      obtain ⟨d3, _⟩ := hF
      have d3 : f 3 = .pointer (some ⟨bx, 0, none⟩) := d3
      refine Step2.live rfl ?_
      have ev : ∀ t, evalOf f (.tmp t) = f t := fun _ => rfl
      have ec : ∀ c, evalOf f (.const c) = c := fun _ => rfl
      have ef : ∀ g, evalOf f (.func g) = .func (.func g) #[] #[] := fun _ => rfl
      refine relUpon_value ?_ hC (fun _ _ => Below.refl _ _) rfl
      go_simp
    -- 2: slot 13 := load 2 t12
    · intro w L f hC hLi hLd hLn hF
      obtain ⟨d12, _⟩ := hF
      have d12 : f 12 = .pointer (some ⟨bx, 1, none⟩) := d12
      refine Step2.live rfl ?_
      have hcell0 := hC.1.fact3 f1.out
      have ev : ∀ t, evalOf f (.tmp t) = f t := fun _ => rfl
      have ec : ∀ c, evalOf f (.const c) = c := fun _ => rfl
      have ef : ∀ g, evalOf f (.func g) = .func (.func g) #[] #[] := fun _ => rfl
      refine relUpon_value ?_ hC (fun _ _ => Below.refl _ _) rfl
      go_simp
    -- 3: slot 14 := call { value (Operand.func 64), args := #[t11, t13], argTypes := #[26, 2] }
    · intro w L f hC hLi hLd hLn hF
      obtain ⟨d11, d13, _⟩ := hF
      have d11 : f 11 = v2 := d11
      have d13 : f 13 = .int .i64 lo := d13
      refine Step2.live rfl ?_
      have ev : ∀ t, evalOf f (.tmp t) = f t := fun _ => rfl
      have ec : ∀ c, evalOf f (.const c) = c := fun _ => rfl
      have ef : ∀ g, evalOf f (.func g) = .func (.func g) #[] #[] := fun _ => rfl
      refine relUpon_call (f := 64) (args := #[v2, .int .i64 lo]) (w := w) (by go_simp) (refInt_any w B v2 ((l ++ boolE true)) M2 lo (hs2.out.below (hC.2.1 hLi)) (Nat.le_trans hs2B.out (hC.2.1 hLi).size) hlo.out (by have := hlen.out; simp [boolE]; omega)) ?_
      intro e w1 hr
      obtain ⟨v', he, ho, hM⟩ := hr.link hC.1 (.inl rfl)
      exact ⟨v', he, ⟨hM, fun h => (by simp at h), fun _ => rfl, hC.2.2.2.1, trivial⟩, fun h0 h1 => absurd rfl h0, fun _ _ => ho⟩
    -- 4: slot 15 := fieldAddr 58 t3 2
    · intro w L f hC hLi hLd hLn hF
      obtain ⟨d3, _⟩ := hF
      have d3 : f 3 = .pointer (some ⟨bx, 0, none⟩) := d3
      refine Step2.live rfl ?_
      have ev : ∀ t, evalOf f (.tmp t) = f t := fun _ => rfl
      have ec : ∀ c, evalOf f (.const c) = c := fun _ => rfl
      have ef : ∀ g, evalOf f (.func g) = .func (.func g) #[] #[] := fun _ => rfl
      refine relUpon_value ?_ hC (fun _ _ => Below.refl _ _) rfl
      go_simp
    -- 5: slot 16 := load 2 t15
    · intro w L f hC hLi hLd hLn hF
      obtain ⟨d15, _⟩ := hF
      have d15 : f 15 = .pointer (some ⟨bx, 2, none⟩) := d15
      refine Step2.live rfl ?_
      have hcell0 := hC.1.fact3 f2.out
      have ev : ∀ t, evalOf f (.tmp t) = f t := fun _ => rfl
      have ec : ∀ c, evalOf f (.const c) = c := fun _ => rfl
      have ef : ∀ g, evalOf f (.func g) = .func (.func g) #[] #[] := fun _ => rfl
      refine relUpon_value ?_ hC (fun _ _ => Below.refl _ _) rfl
      go_simp
    -- 6: slot 17 := call { value (Operand.func 64), args := #[t14, t16], argTypes := #[26, 2] }
    · intro w L f hC hLi hLd hLn hF
      obtain ⟨d14, d16, _⟩ := hF
      have d16 : f 16 = .int .i64 hi := d16
      refine Step2.live rfl ?_
      have hp := d14 (hLd 3 (by decide)) hLi
      have ev : ∀ t, evalOf f (.tmp t) = f t := fun _ => rfl
      have ec : ∀ c, evalOf f (.const c) = c := fun _ => rfl
      have ef : ∀ g, evalOf f (.func g) = .func (.func g) #[] #[] := fun _ => rfl
      refine relUpon_call (f := 64) (args := #[(f 14), .int .i64 hi]) (w := w) (by go_simp) (refInt_any w B (f 14) (l ++ boolE true ++ intE lo) _ hi hp.sr (Nat.le_trans hs2B.out hC.1.size) hhi.out (by have := hlen.out; have := intE_len hlo.out; simp [boolE]; omega)) ?_
      intro e w1 hr
      obtain ⟨v', he, ho, hM⟩ := hr.link hC.1 (hp.2)
      exact ⟨v', he, ⟨hM, fun h => (by have h9 : L 3 = true := (hLd 3 (by decide)); simp [h9] at h), fun _ => hLd 3 (by decide), fun _ => rfl, trivial⟩, fun h0 h1 => absurd rfl h1, fun _ => ho⟩
    -- 7: slot 0 := assign t17
    · intro w L f hC hLi hLd hLn hF
      obtain ⟨d17, _⟩ := hF
      refine Step2.live rfl ?_
      exact relUpon_value (v := f 17) rfl ⟨hC.1, hC.2.1, hC.2.2.1, fun _ => hLd 6 (by decide), trivial⟩ (fun _ _ => Below.refl _ _) (fun _ => d17 (hLd 6 (by decide)))
  intro x w' hC hV

  have ho := hV 6 _ rfl rfl rfl
  have ho2 := hV 7 _ rfl rfl rfl
  have hr := hback.out _ _ _ (OwnF.refd ho2 hC.1)
  clear ho ho2 hV hC
  simp only [framed]
  go_wp2_with fail
  go_ret
  have e1 : l ++ boolE true ++ intE lo ++ intE hi = l ++ ivE ⟨true, lo, hi⟩ := by simp [ivE]
  rw [← e1]
  exact hr

theorem OwnF.off {W0 w : World} {B : Nat} {M : Option Nat} {l : List UInt8} {v : Value} (h : OwnF W0 B M l w v) {k : Nat} (hk : k < W0.heap.size) (hM : M ≠ some k) : v.ownBlock ≠ some k := by
  rcases h.2 with e | ⟨j, e, hj⟩
  · rw [e]
    exact hM
  · rw [e]
    intro e'
    injection e' with e'
    omega

set_option maxRecDepth 100000 in
set_option maxHeartbeats 4000000 in
theorem refAls_any (w0 : World) (B : Nat) (v : Value) (l : List UInt8) (M : Option Nat) (A : Option Addr) (c : Nat) (als : List Al) (hv : Sr w0 B v l M) (hB : B ≤ w0.heap.size) (n : Nat) (hn : als.length = n) (hA : Row w0 w0.heap.size A (als.flatMap Al.cells)) (hMA : als.flatMap Al.cells ≠ [] → M = none ∨ M ≠ blk A)
    (hok : ∀ a ∈ als, a.ok) (hn1 : n ≤ 1000) (hlen : l.length ≤ 99999000000) :
    Calls Try.prog 77 #[v, .slice A n c] w0 (Refd w0 B M (l ++ alsE als)) := by
  have hh1 := Lib.hid hn
  have hok := Lib.hid hok
  rename_i hok'
  have hA := Lib.hid hA
  rename_i hA'
  have hMA := Lib.hid hMA
  rename_i hMA'
  have hlen := Lib.hid hlen
  rename_i hlen'
  have hB0 := Lib.hid hB
  have hv := Lib.hid hv
  rename_i hv'
  clear hok' hA' hMA' hlen' hv' hn
  go_enter Try.func77, Try.ntmps77
  go_wp2_with fail
  (with_reducible refine (refNum_z _ B v l M _ hv.out ?b1 ?b2 ?b3 ?b4).mono ?_)
  case b1 => omega
  case b2 => omega
  case b3 => omega
  case b4 => have := hlen.out; omega
  intro e w1 hr
  rw [Int.toNat_natCast] at hr
  obtain ⟨v1, rfl, ho, hM, hF⟩ := hr
  have ho1 : Hid (OwnF w0 B M (l ++ numE n) w1 v1) := Lib.hid ⟨ho, hF⟩
  have hM := Lib.hid hM
  rename_i hM'
  clear ho hF hM'
  go_wp2_with fail
  go_loopw [0, 5] (fun b i wr => ∃ k : Nat, k ≤ n ∧ i = .int .i64 k ∧ OwnF w0 B M (l ++ numE n ++ (als.take k).flatMap alE) wr b ∧ Writes [M] w0 wr) (fun _ i _ => n - (intOf i).toNat)
  case atStart => exact ⟨0, by omega, rfl, by simpa using ho1.out, hM.out⟩
  clear ho1 hM hv
  obtain ⟨k, hk, rfl, ho, hM⟩ := hrel
  have hcn := numE_len10 n (by omega)
  have hcl : (l ++ numE n ++ (als.take k).flatMap alE).length ≤ 99999100000 := by
    have h2 := flat_len' alE 20 als (fun a ha => alE_len (hok.out a ha)) k
    have := hlen.out
    simp only [List.length_append]
    omega
  by_cases hlt : k < n
  case pos =>
    have hlt2 : k < als.length := by rw [hh1.out]; exact hlt
    have hrow := hM.row hA.out (Nat.le_refl _) (fun hne hm => by
      obtain ⟨b, off, rfl, _⟩ := hA.out hne
      simp only [List.mem_cons, List.mem_nil_iff, or_false] at hm
      rcases hMA.out hne with h | h
      · rw [h] at hm
        cases hm
      · exact h hm.symm)
    obtain ⟨b, off, rfl, hbl, hne, hcell⟩ := Row.elem (C := 2) hrow (fun _ _ => rfl) (by omega) (k := k) hlt2
    have hMb : M ≠ some b := by
      rcases hMA.out hne with h | h
      · rw [h]; simp
      · exact h
    have hM2b := ho.off hbl hMb
    have f1 : Hid (Fact3 wr u0.ownBlock ⟨b, off + k * 2, none⟩ (.int .i64 als[k].pos)) := Lib.hid ⟨Nat.lt_of_lt_of_le hbl hM.size, hM2b, hcell 0 _ rfl⟩
    have f2 : Hid (Fact3 wr u0.ownBlock ⟨b, off + k * 2 + 1, none⟩ (.int .i64 als[k].kind)) := Lib.hid ⟨Nat.lt_of_lt_of_le hbl hM.size, hM2b, hcell 1 _ rfl⟩
    have hao := Lib.hid (hok.out _ (List.getElem_mem hlt2))
    have hft := Lib.hid (flat_take alE als k hlt2)
    clear hcell hne hrow
    generalize als[k] = a at *
    have hs2 := Lib.hid ho.sr
    have hs2B := Lib.hid (Nat.le_trans hB0.out hM.size)
    have hnx : Hid (∀ v3 w3, OwnF wr B u0.ownBlock (l ++ numE n ++ (als.take k).flatMap alE ++ intE a.pos ++ intE a.kind) w3 v3 → Writes [u0.ownBlock] wr w3 → OwnF w0 B M (l ++ numE n ++ (als.take (k + 1)).flatMap alE) w3 v3 ∧ Writes [M] w0 w3) := Lib.hid fun v3 w3 h h2 => by
      obtain ⟨v', he, h3, h4⟩ := (h.refd h2).link hM ho.2
      injection he with he
      subst he
      rw [hft.out, ← List.append_assoc]
      rw [List.append_assoc] at h3
      exact ⟨h3, h4⟩
    generalize l ++ numE n ++ (als.take k).flatMap alE = cur at *
    have hlc := Lib.hid hcl
    clear hM2b hMb hbl hcn hcl
    obtain ⟨M2, hM2⟩ : ∃ M, M = u0.ownBlock := ⟨_, rfl⟩
    rw [← hM2] at hs2 f1 f2 hnx
    clear hM2 ho hM
    go_wp2_with fail
    -- THE REGION THAT DRAWS ITS ORDER, BY ONE LEXICAL WALK OVER GENERIC VALUES (written by relgen.py)
    refine wp_region_tabL ((fun _ _ v => v = u0) ::
      (fun _ _ v => v = .slice (some ⟨b, off, none⟩) n c) ::
      (fun _ _ v => v = .int .i64 k) ::
      (fun _ _ v => v = .pointer (some ⟨b, off + k * 2, none⟩)) ::
      (fun _ _ v => v = .pointer (some ⟨b, off + k * 2, none⟩)) ::
      (fun _ _ v => v = .int .i64 a.pos) ::
      (fun L w v => L 6 = true → L 12 = false → OwnF wr B M2 (cur ++ intE a.pos) w v) ::
      (fun _ _ v => v = .slice (some ⟨b, off, none⟩) n c) ::
      (fun _ _ v => v = .int .i64 k) ::
      (fun _ _ v => v = .pointer (some ⟨b, off + k * 2, none⟩)) ::
      (fun _ _ v => v = .pointer (some ⟨b, off + k * 2 + 1, none⟩)) ::
      (fun _ _ v => v = .int .i64 a.kind) ::
      (fun L w v => L 12 = true → OwnF wr B M2 (cur ++ intE a.pos ++ intE a.kind) w v) ::
      (fun L w v => L 13 = true → OwnF wr B M2 (cur ++ intE a.pos ++ intE a.kind) w v) :: [])
      (⟨[(0, none)], 0, []⟩ :: ⟨[(1, none)], 0, []⟩ :: ⟨[(5, none)], 0, []⟩ :: ⟨[(18, some 1), (19, some 2)], 0, []⟩ :: ⟨[(20, some 3)], 0, []⟩ :: ⟨[(21, some 4)], 0, []⟩ :: ⟨[(17, some 0), (22, some 5)], 0, []⟩ :: ⟨[(1, none)], 0, []⟩ :: ⟨[(5, none)], 0, []⟩ :: ⟨[(24, some 7), (25, some 8)], 0, []⟩ :: ⟨[(26, some 9)], 0, []⟩ :: ⟨[(27, some 10)], 0, []⟩ :: ⟨[(23, some 6), (28, some 11)], 0, []⟩ :: ⟨[(29, some 12)], 0, []⟩ :: [])
      (some 13 :: none :: none :: none :: none :: none :: none :: none :: none :: none :: none :: none :: none :: none :: none :: none :: none :: some 0 :: some 1 :: some 2 :: some 3 :: some 4 :: some 5 :: some 6 :: some 7 :: some 8 :: some 9 :: some 10 :: some 11 :: some 12 :: [])
      (fun L w' => Writes [M2] wr w' ∧ (L 6 = false → Below wr.heap.size wr w') ∧ (L 12 = true → L 6 = true) ∧ (L 13 = true → L 12 = true) ∧ True) (fun i w w' => i ≠ 6 → i ≠ 12 → Below w.heap.size w w') ?mixK5 ?okK5 ?tabK5 ?frK5 ?inK5 ?keptK5 ?startK5 ?eachK5 ?finK5
    case mixK5 => kernel_rfl
    case okK5 => kernel_rfl
    case tabK5 => kernel_rfl
    case frK5 => kernel_rfl
    case inK5 => rfl
    case keptK5 => exact ⟨fun _ _ _ _ _ _ _ _ _ _ _ h => h, fun _ _ _ _ _ _ _ _ _ _ _ h => h, fun _ _ _ _ _ _ _ _ _ _ _ h => h, fun _ _ _ _ _ _ _ _ _ _ _ h => h, fun _ _ _ _ _ _ _ _ _ _ _ h => h, fun _ _ _ _ _ _ _ _ _ _ _ h => h, fun i hne hr L w w' v hLi hC hC' hG h h1 h2 => by
          have h2o := h2
          simp only [Bool.or_eq_true, beq_iff_eq, Bool.or_eq_false_iff, beq_eq_false_iff_ne] at h1 h2
          have ha := h1.resolve_left (Ne.symm hne)
          exact (h ha h2.2).below (hG hne (fun e => h2.1 e.symm)), fun _ _ _ _ _ _ _ _ _ _ _ h => h, fun _ _ _ _ _ _ _ _ _ _ _ h => h, fun _ _ _ _ _ _ _ _ _ _ _ h => h, fun _ _ _ _ _ _ _ _ _ _ _ h => h, fun _ _ _ _ _ _ _ _ _ _ _ h => h, fun i hne hr L w w' v hLi hC hC' hG h h1 => by
          simp only [Bool.or_eq_true, beq_iff_eq] at h1
          have ha := h1.resolve_left (Ne.symm hne)
          exact (h ha).below (hG (fun e => by subst e; exact absurd (hC.2.2.1 ha) (by rw [hLi]; simp)) hne), fun i hne hr L w w' v hLi hC hC' hG h h1 => by
          simp only [Bool.or_eq_true, beq_iff_eq] at h1
          have ha := h1.resolve_left (Ne.symm hne)
          exact (h ha).below (hG (fun e => by subst e; exact absurd (hC.2.2.1 (hC.2.2.2.1 ha)) (by rw [hLi]; simp)) (fun e => by subst e; exact absurd (hC.2.2.2.1 ha) (by rw [hLi]; simp))), trivial⟩
    case startK5 => exact ⟨Writes.of_below (Below.refl _ _).drew _, fun _ => (Below.refl _ _).drew, fun h => by simp at h, fun h => by simp at h, trivial⟩
    case eachK5 =>
      refine ⟨?_, ?_, ?_, ?_, ?_, ?_, ?_, ?_, ?_, ?_, ?_, ?_, ?_, ?_, trivial⟩
      -- 0: slot 17 := move t0
      · intro w L f hC hLi hLd hLn hF
        obtain ⟨d0, _⟩ := hF
        have d0 : f 0 = u0 := d0
        refine Step2.live rfl ?_
        exact relUpon_value (v := f 0) rfl (hC) (fun _ _ => Below.refl _ _) d0
      -- 1: slot 18 := move t1
      · intro w L f hC hLi hLd hLn hF
        obtain ⟨d1, _⟩ := hF
        have d1 : f 1 = .slice (some ⟨b, off, none⟩) n c := d1
        refine Step2.live rfl ?_
        exact relUpon_value (v := f 1) rfl (hC) (fun _ _ => Below.refl _ _) d1
      -- 2: slot 19 := move t5
      · intro w L f hC hLi hLd hLn hF
        obtain ⟨d5, _⟩ := hF
        have d5 : f 5 = .int .i64 k := d5
        refine Step2.live rfl ?_
        exact relUpon_value (v := f 5) rfl (hC) (fun _ _ => Below.refl _ _) d5
      -- 3: slot 20 := indexAddr 56 t18 t19
      · intro w L f hC hLi hLd hLn hF
        obtain ⟨d18, d19, _⟩ := hF
        have d18 : f 18 = .slice (some ⟨b, off, none⟩) n c := d18
        have d19 : f 19 = .int .i64 k := d19
        refine Step2.live rfl ?_
        have ev : ∀ t, evalOf f (.tmp t) = f t := fun _ => rfl
        have ec : ∀ c, evalOf f (.const c) = c := fun _ => rfl
        have ef : ∀ g, evalOf f (.func g) = .func (.func g) #[] #[] := fun _ => rfl
        refine relUpon_value ?_ hC (fun _ _ => Below.refl _ _) rfl
        go_simp
      -- 4: slot 21 := fieldAddr 75 t20 0
      · intro w L f hC hLi hLd hLn hF
        obtain ⟨d20, _⟩ := hF
        have d20 : f 20 = .pointer (some ⟨b, off + k * 2, none⟩) := d20
        refine Step2.live rfl ?_
        have ev : ∀ t, evalOf f (.tmp t) = f t := fun _ => rfl
        have ec : ∀ c, evalOf f (.const c) = c := fun _ => rfl
        have ef : ∀ g, evalOf f (.func g) = .func (.func g) #[] #[] := fun _ => rfl
        refine relUpon_value ?_ hC (fun _ _ => Below.refl _ _) rfl
        go_simp
      -- 5: slot 22 := load 3 t21
      · intro w L f hC hLi hLd hLn hF
        obtain ⟨d21, _⟩ := hF
        have d21 : f 21 = .pointer (some ⟨b, off + k * 2, none⟩) := d21
        refine Step2.live rfl ?_
        have hcell0 := hC.1.fact3 f1.out
        have ev : ∀ t, evalOf f (.tmp t) = f t := fun _ => rfl
        have ec : ∀ c, evalOf f (.const c) = c := fun _ => rfl
        have ef : ∀ g, evalOf f (.func g) = .func (.func g) #[] #[] := fun _ => rfl
        refine relUpon_value ?_ hC (fun _ _ => Below.refl _ _) rfl
        go_simp
      -- 6: slot 23 := call { value (Operand.func 64), args := #[t17, t22], argTypes := #[26, 2] }
      · intro w L f hC hLi hLd hLn hF
        obtain ⟨d17, d22, _⟩ := hF
        have d17 : f 17 = u0 := d17
        have d22 : f 22 = .int .i64 a.pos := d22
        refine Step2.live rfl ?_
        have ev : ∀ t, evalOf f (.tmp t) = f t := fun _ => rfl
        have ec : ∀ c, evalOf f (.const c) = c := fun _ => rfl
        have ef : ∀ g, evalOf f (.func g) = .func (.func g) #[] #[] := fun _ => rfl
        refine relUpon_call (f := 64) (args := #[u0, .int .i64 a.pos]) (w := w) (by go_simp) (refInt_any w B u0 (cur) M2 a.pos (hs2.out.below (hC.2.1 hLi)) (Nat.le_trans hs2B.out (hC.2.1 hLi).size) hao.out.1 (by have := hlc.out; omega)) ?_
        intro e w1 hr
        obtain ⟨v', he, ho, hM⟩ := hr.link hC.1 (.inl rfl)
        exact ⟨v', he, ⟨hM, fun h => (by simp at h), fun _ => rfl, hC.2.2.2.1, trivial⟩, fun h0 h1 => absurd rfl h0, fun _ _ => ho⟩
      -- 7: slot 24 := move t1
      · intro w L f hC hLi hLd hLn hF
        obtain ⟨d1, _⟩ := hF
        have d1 : f 1 = .slice (some ⟨b, off, none⟩) n c := d1
        refine Step2.live rfl ?_
        exact relUpon_value (v := f 1) rfl (hC) (fun _ _ => Below.refl _ _) d1
      -- 8: slot 25 := move t5
      · intro w L f hC hLi hLd hLn hF
        obtain ⟨d5, _⟩ := hF
        have d5 : f 5 = .int .i64 k := d5
        refine Step2.live rfl ?_
        exact relUpon_value (v := f 5) rfl (hC) (fun _ _ => Below.refl _ _) d5
      -- 9: slot 26 := indexAddr 56 t24 t25
      · intro w L f hC hLi hLd hLn hF
        obtain ⟨d24, d25, _⟩ := hF
        have d24 : f 24 = .slice (some ⟨b, off, none⟩) n c := d24
        have d25 : f 25 = .int .i64 k := d25
        refine Step2.live rfl ?_
        have ev : ∀ t, evalOf f (.tmp t) = f t := fun _ => rfl
        have ec : ∀ c, evalOf f (.const c) = c := fun _ => rfl
        have ef : ∀ g, evalOf f (.func g) = .func (.func g) #[] #[] := fun _ => rfl
        refine relUpon_value ?_ hC (fun _ _ => Below.refl _ _) rfl
        go_simp
      -- 10: slot 27 := fieldAddr 75 t26 1
      · intro w L f hC hLi hLd hLn hF
        obtain ⟨d26, _⟩ := hF
        have d26 : f 26 = .pointer (some ⟨b, off + k * 2, none⟩) := d26
        refine Step2.live rfl ?_
        have ev : ∀ t, evalOf f (.tmp t) = f t := fun _ => rfl
        have ec : ∀ c, evalOf f (.const c) = c := fun _ => rfl
        have ef : ∀ g, evalOf f (.func g) = .func (.func g) #[] #[] := fun _ => rfl
        refine relUpon_value ?_ hC (fun _ _ => Below.refl _ _) rfl
        go_simp
      -- 11: slot 28 := load 3 t27
      · intro w L f hC hLi hLd hLn hF
        obtain ⟨d27, _⟩ := hF
        have d27 : f 27 = .pointer (some ⟨b, off + k * 2 + 1, none⟩) := d27
        refine Step2.live rfl ?_
        have hcell0 := hC.1.fact3 f2.out
        have ev : ∀ t, evalOf f (.tmp t) = f t := fun _ => rfl
        have ec : ∀ c, evalOf f (.const c) = c := fun _ => rfl
        have ef : ∀ g, evalOf f (.func g) = .func (.func g) #[] #[] := fun _ => rfl
        refine relUpon_value ?_ hC (fun _ _ => Below.refl _ _) rfl
        go_simp
      -- 12: slot 29 := call { value (Operand.func 64), args := #[t23, t28], argTypes := #[26, 2] }
      · intro w L f hC hLi hLd hLn hF
        obtain ⟨d23, d28, _⟩ := hF
        have d28 : f 28 = .int .i64 a.kind := d28
        refine Step2.live rfl ?_
        have hp := d23 (hLd 6 (by decide)) hLi
        have ev : ∀ t, evalOf f (.tmp t) = f t := fun _ => rfl
        have ec : ∀ c, evalOf f (.const c) = c := fun _ => rfl
        have ef : ∀ g, evalOf f (.func g) = .func (.func g) #[] #[] := fun _ => rfl
        refine relUpon_call (f := 64) (args := #[(f 23), .int .i64 a.kind]) (w := w) (by go_simp) (refInt_any w B (f 23) (cur ++ intE a.pos) _ a.kind hp.sr (Nat.le_trans hs2B.out hC.1.size) hao.out.2 (by have := hlc.out; have := intE_len hao.out.1; simp; omega)) ?_
        intro e w1 hr
        obtain ⟨v', he, ho, hM⟩ := hr.link hC.1 (hp.2)
        exact ⟨v', he, ⟨hM, fun h => (by have h9 : L 6 = true := (hLd 6 (by decide)); simp [h9] at h), fun _ => hLd 6 (by decide), fun _ => rfl, trivial⟩, fun h0 h1 => absurd rfl h1, fun _ => ho⟩
      -- 13: slot 0 := assign t29
      · intro w L f hC hLi hLd hLn hF
        obtain ⟨d29, _⟩ := hF
        refine Step2.live rfl ?_
        exact relUpon_value (v := f 29) rfl ⟨hC.1, hC.2.1, hC.2.2.1, fun _ => hLd 12 (by decide), trivial⟩ (fun _ _ => Below.refl _ _) (fun _ => d29 (hLd 12 (by decide)))
    intro x w' hC hV

    have ho2 := hV 13 _ rfl rfl rfl
    have hr := hnx.out _ _ ho2 hC.1
    clear ho2 hV hC
    simp only [framed]
    go_wp2_with fail
    go_roundw
    case rel => exact ⟨k + 1, by omega, by go_num, hr.1, hr.2⟩
    case measure => simp [intOf]; omega
  obtain rfl : k = n := by omega
  rw [show als.take k = als from by rw [← hh1.out, List.take_length]] at ho
  have ho := Lib.hid ho
  rename_i ho'
  have hM := Lib.hid hM
  rename_i hM'
  clear ho' hM' hcl hcn
  go_wp2_with fail
  go_ret
  have e1 : l ++ numE k ++ als.flatMap alE = l ++ alsE als := by rw [alsE, hh1.out, List.append_assoc]
  rw [← e1]
  exact ho.out.refd hM.out
end Go.Proofs.Ytimhghmnnibajaa
