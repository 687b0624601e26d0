/-
  The walks of maps.Copy, settle, Flush.
-/
import Derived.Test.YtelglbblgkhcmaaGreatDkC
namespace Go.Proofs.YtelglbblgkhcmaaGreat
open Go.RowKit Go.Deep Go.Maps

theorem wpList_store_i {P : Program} (hP : P = Tryz.prog) (w : World) {ops : Array Oper} {rest : List Oper} {o : Oper} {a : Act} {Q : Exit → Act → World → Prop}
    (hg : o.guard = none) (m x v : Operand) (hop : o.op = Op.mapUpdate 67 m x v) (b : Nat) (f : Int → Option Value)
    (hm : a.eval m = .map (some b)) (h : IMap w b f) (k : Int) (u : Value) (hx : a.eval x = .int .i64 k) (hv : a.eval v = u) (hk : 0 ≤ k ∧ k < 4096)
    (hK : ∀ w', IMap w' b (fun j => if j = k then some u else f j) → w.grownBy w' (some b) → wpList P ops Q rest (a.put o.dst undef) w') :
    wpList P ops Q (o :: rest) a w := by
  subst hP
  refine wpList_plain hg fun K' hK' => ?_
  obtain ⟨w', hrun, r1, r2, _⟩ := h.store hk u
  unfold Oper.wp
  simp [execOp, hop, hm, hx, hv, hrun, Result.andThen]
  exact hK' _ _ (hK w' r1 r2)

set_option maxRecDepth 100000 in
set_option maxHeartbeats 2000000 in
theorem mapcopy_any (w : World) (md mw : Nat) (f g : Int → Option Value) (hf : IMap w md f) (hg : IMap w mw g) (hne : md ≠ mw) :
    Calls Tryz.prog 67 #[.map (some md), .map (some mw)] w fun e w' => e = .returned (.tuple #[]) ∧ IMap w' md (fun k => match g k with | some v => some v | none => f k) ∧ Writes [some md] w w' := by
  have hg0 := hg
  obtain ⟨⟨n, D, hn, hown, hsay⟩, hkey⟩ := hg0
  have hlw : mw < w.heap.size := hown.lt
  have hld : md < w.heap.size := hf.lt
  have hS := Lib.hid hsay
  have hKy := Lib.hid hkey
  have hF := Lib.hid hf
  have hne' : mw ≠ md := fun e => hne e.symm
  clear hsay hkey hg hf
  go_enter Tryz.func67, Tryz.ntmps67
  go_wp2_with (first
    | (at_range; refine wpList_range_own _ rfl _ 67 rfl 3 37 Tryz.intKeyed Tryz.underlying67 _ mw n _ rfl hown ?_; intro w0 hrg0 hg0 hs0)
    | go_in)
  go_frame
  generalize hr : w.heap.size = r at hrg0 hs0 hlw hld ⊢
  have hr' := Lib.hid hr
  clear hr
  go_loopw [4] (fun _ wr => ∃ (left : Lit → Bool) (cnt : Nat), wr.ranges Tryz.prog 3 heldR mw r n D left cnt ∧ IMap wr md (fun k => if left (.int .i64 k) = true then f k else match g k with | some v => some v | none => f k) ∧ Writes [some md] w wr ∧ r < wr.heap.size)
    (fun _ wr => wr.rangeLeft mw r)
  case atStart =>
    refine ⟨_, _, hrg0, ?_, Writes.of_below (grown_none hg0) _, by rw [hs0]; omega⟩
    have e : (fun k => if Maps.has D (.int .i64 k) = true then f k else match g k with | some v => some v | none => f k) = f := by
      funext k
      have := hS.out k
      cases hgk : g k with
      | none => rw [hgk] at this; simp only at this; rw [this]; simp
      | some v => rw [hgk] at this; simp only at this; rw [this.1]; simp
    show IMap _ md (fun k => if Maps.has D (.int .i64 k) = true then f k else match g k with | some v => some v | none => f k)
    rw [e]
    exact hF.out.loc (hg0.block md (by rw [hr'.out]; exact hld) (by simp))
  case round =>
    obtain ⟨left, cnt, hrg, hM, hW, hrs⟩ := hrel
    go_wp2_with (first
      | (at_next; refine wpList_next_ranges (α := Int) (β := Value) _ rfl _ rfl 3 Tryz.intKeyed heldR (Value.int .i64) id (fun key kl h => by
            obtain ⟨x, e, _⟩ := Maps.keyOf_int_inv Tryz.underlying3 h
            exact ⟨x, e⟩) (fun v _ _ => ⟨v, rfl⟩) mw r n D left cnt rfl hrg ?_ ?_)
      | go_in)
    · intro hc0 hl0
      have hM' : Hid (IMap wr md (fun k => match g k with | some v => some v | none => f k)) := Lib.hid (by
        have e : (fun k => if left (.int .i64 k) = true then f k else match g k with | some v => some v | none => f k) = fun k => match g k with | some v => some v | none => f k := by
          funext k
          rw [hl0]
          simp
        rw [← e]
        exact hM)
      have hW' := Lib.hid hW
      clear hM hW hrg
      go_wp2_with fail
      go_end0
      exact ⟨rfl, hM'.out, hW'.out⟩
    · intro x c kl yd yp w1 cnt1 hkx hlx hRc hat hrg1 hlt hg1 hs1 hen
      obtain ⟨x', e1, e2, hwf⟩ := Maps.keyOf_int_inv Tryz.underlying3 hkx
      injection e1 with _ e1
      subst e1 e2
      have hy : yd = .held c := by
        have : heldR c = some (yd, yp) := hRc
        simp [heldR] at this
        exact this.1.symm
      have hgx : g x = some c := by
        have := hS.out x
        have h2 := hat .nil
        rw [hy] at h2
        cases hgk : g x with
        | none => rw [hgk] at this; simp only at this; rw [atKey_of_not_has this] at h2; cases h2
        | some v =>
          rw [hgk] at this
          simp only at this
          rw [this.2 .nil] at h2
          injection h2 with h2
          rw [h2]
      have hkx2 := hKy.out x (by rw [hgx]; simp)
      have hM1 := Lib.hid (hM.loc (hg1.block md hM.lt (by simp; intro e; rw [e] at hld; omega)))
      have hgx' := Lib.hid hgx
      have hW1 := Lib.hid hW
      have hn1 := Lib.hid hne'
      have hy' := Lib.hid hy
      clear hgx hW hy hat hRc hM
      go_wp2_with (first
        | (at_mapUpdate; refine wpList_store_i rfl _ rfl _ _ _ rfl md _ rfl hM1.out x c rfl rfl hkx2 ?_; intro w2 hM2 hg2; go_frame)
        | go_in)
      have hrg2 := hrg1.kept hg2 (by simp; exact hn1.out) (by simp; omega)
      go_roundw
      case rel =>
        refine ⟨_, cnt1, hrg2, ?_, (hW1.out.then_ (Writes.of_grown hg1 (M := [some r]) (by simp)) (fun k hk e => by simp at e; have := hr'.out; omega)).trans (Writes.of_grown hg2 (by simp)), by rw [← hs1] at hrs; exact Nat.lt_of_lt_of_le hrs hg2.size⟩
        have e : (fun k => if (left (.int .i64 k) && !(Lit.int .i64 k).sameKey (.int .i64 x)) = true then f k else match g k with | some v => some v | none => f k) = fun j => if j = x then some c else if left (.int .i64 j) = true then f j else match g j with | some v => some v | none => f j := by
          funext j
          by_cases e : j = x
          · subst e
            simp [WideAt.sameKey_self (a := Lit.int .i64 j) trivial, hgx'.out]
          · rw [sameKey_ne (fun h => e (by injection h))]
            simp [e]
        show IMap w2 md (fun k => if (left (.int .i64 k) && !(Lit.int .i64 k).sameKey (.int .i64 x)) = true then f k else match g k with | some v => some v | none => f k)
        rw [e]
        exact hM2
      case measure => rw [hrg2.left_eq, hrg.left_eq]; exact hlt

def DR.settled (q : DR) : DR := { q with dur := fun k => match q.wr k with | some p => some p | none => q.dur k, wr := fun _ => none }
theorem settled_map (q : DR) : (fun k => Option.map Pay.val (q.settled.dur k)) = fun k => match (q.wr k).map Pay.val with | some v => some v | none => (q.dur k).map Pay.val := by
  funext k
  unfold DR.settled
  cases h : q.wr k <;> simp [h]
theorem DiskP.settle {q : DR} {w w1 w2 : World} (h : DiskP q w) (h1 : IMap w1 q.md (fun k => match (q.wr k).map Pay.val with | some v => some v | none => (q.dur k).map Pay.val)) (hw1 : Writes [some q.md] w w1) (h2 : IMap w2 q.mw (fun _ => none)) (hw2 : Writes [some q.mw] w1 w2) : DStep q w q.settled w2 := by
  obtain ⟨m1, m2⟩ := h.md_ne
  have hw : Writes [some q.md, some q.mw] w w2 := (hw1.more (by simp)).trans (hw2.more (by simp))
  have hhas : ∀ k p, q.settled.has k p → q.has k p := fun k p hp => by
    rcases hp with hp | hp
    · simp only [DR.settled] at hp
      cases e : q.wr k with
      | none => rw [e] at hp; exact .inl hp
      | some p' => rw [e] at hp; exact .inr (e.trans hp)
    · simp only [DR.settled] at hp
      cases hp
  refine ⟨hw.more (fun b hb => by simp at hb ⊢; rcases hb with h | h <;> simp [h]), ⟨hw.holds h.hold (by simp; exact ⟨fun e => m1 e.symm, fun e => m2 e.symm⟩), ?_, ?_, fun k p hp => ?_, fun k p hp => h.key k p (hhas k p hp), h.ne, h.n1, h.n2, h.s1, h.s2, h.left⟩, rfl, .inl rfl, .inl rfl, fun k p hp _ hx => .inl (.inr (.inr (.inr ⟨k, p, hhas k p hp, hx⟩)))⟩
  · rw [settled_map]
    exact h1.loc (hw2.block _ h1.lt (by simp; exact h.ne))
  · exact h2
  · obtain ⟨a1, a2, a3⟩ := h.pay k p (hhas k p hp)
    refine ⟨a1.loc (fun x hx => ?_), a2, a3⟩
    have hne : p.l ≠ [] := by intro e; rw [e] at a2; have := h.s1; simp at a2; omega
    obtain ⟨_, b2, b3⟩ := byte_apart h a1 hne hx
    exact hw.block x (a1.lt (by have := h.s1; omega) hx) (by simp; exact ⟨b2, b3⟩)
set_option maxRecDepth 100000 in
set_option maxHeartbeats 1000000 in
theorem settle_any (wr : World) (q : DR) (h : DiskP q wr) :
    Calls Tryz.prog 40 #[.pointer (some ⟨q.g, 0, none⟩)] wr fun e w' => e = .returned (.tuple #[]) ∧ DStep q wr q.settled w' := by
  have hD := Lib.hid h
  go_enter Tryz.func40, Tryz.ntmps40
  go_wp2_with fail
  -- THE REGION THAT DRAWS ITS ORDER, BY ONE LEXICAL WALK OVER GENERIC VALUES (written by relgen.py)
  refine wp_region_tabL ((fun _ _ v => v = .pointer (some ⟨q.g, 0, none⟩)) ::
    (fun _ _ v => v = .pointer (some ⟨q.g, 0, none⟩)) ::
    (fun _ _ v => v = .pointer (some ⟨q.g, 2, none⟩)) ::
    (fun _ _ v => v = .map (some q.md)) ::
    (fun _ _ v => v = .pointer (some ⟨q.g, 0, none⟩)) ::
    (fun _ _ v => v = .pointer (some ⟨q.g, 0, none⟩)) ::
    (fun _ _ v => v = .pointer (some ⟨q.g, 3, none⟩)) ::
    (fun _ _ v => v = .map (some q.mw)) ::
    (fun _ _ v => v = .tuple #[]) :: [])
    (⟨[(0, none)], 0, [8]⟩ :: ⟨[(2, some 0)], 0, [8]⟩ :: ⟨[(3, some 1)], 0, [8]⟩ :: ⟨[(4, some 2)], 0, [8]⟩ :: ⟨[(0, none)], 0, [8]⟩ :: ⟨[(6, some 4)], 0, [8]⟩ :: ⟨[(7, some 5)], 0, [8]⟩ :: ⟨[(8, some 6)], 0, [8]⟩ :: ⟨[(5, some 3), (9, some 7)], 0, []⟩ :: [])
    (none :: none :: some 0 :: some 1 :: some 2 :: some 3 :: some 4 :: some 5 :: some 6 :: some 7 :: some 8 :: [])
    (fun L w' => CS 8 7 wr (fun w' => IMap w' q.md (fun k => match (q.wr k).map Pay.val with | some v => some v | none => (q.dur k).map Pay.val) ∧ Writes [some q.md] wr w') L w') (fun i w w' => i ≠ 7 → i ≠ 8 → Below w.heap.size w w') ?mixK0settle0 ?okK0settle0 ?tabK0settle0 ?frK0settle0 ?inK0settle0 ?keptK0settle0 ?startK0settle0 ?eachK0settle0 ?finK0settle0
  case mixK0settle0 => kernel_rfl
  case okK0settle0 => kernel_rfl
  case tabK0settle0 => kernel_rfl
  case frK0settle0 => kernel_rfl
  case inK0settle0 => rfl
  case keptK0settle0 => exact ⟨fun _ _ _ _ _ _ _ _ _ _ _ h => h, fun _ _ _ _ _ _ _ _ _ _ _ h => h, fun _ _ _ _ _ _ _ _ _ _ _ h => h, fun _ _ _ _ _ _ _ _ _ _ _ h => h, fun _ _ _ _ _ _ _ _ _ _ _ h => h, fun _ _ _ _ _ _ _ _ _ _ _ h => h, fun _ _ _ _ _ _ _ _ _ _ _ h => h, fun _ _ _ _ _ _ _ _ _ _ _ h => h, fun _ _ _ _ _ _ _ _ _ _ _ h => h, trivial⟩
  case startK0settle0 => exact ⟨fun _ => (Below.refl _ _).drew, fun e => by simp at e⟩
  case eachK0settle0 =>
    refine ⟨?_, ?_, ?_, ?_, ?_, ?_, ?_, ?_, ?_, trivial⟩
    -- 0: slot 2 := move t0
    · intro w L f hC hLi hLd hLn hF
      obtain ⟨d0, _⟩ := hF
      have d0 : f 0 = .pointer (some ⟨q.g, 0, none⟩) := d0
      refine Step2.live rfl ?_
      exact relUpon_value (v := f 0) rfl (hC.go (i := 0) (hLn 8 (by simp)) (by decide) (Below.refl _ _)) (fun _ _ => Below.refl _ _) d0
    -- 1: slot 3 := nilCheck t2
    · intro w L f hC hLi hLd hLn hF
      obtain ⟨d2, _⟩ := hF
      have d2 : f 2 = .pointer (some ⟨q.g, 0, none⟩) := d2
      refine Step2.live rfl ?_
      have ev : ∀ t, evalOf f (.tmp t) = f t := fun _ => rfl
      have ec : ∀ c, evalOf f (.const c) = c := fun _ => rfl
      have ef : ∀ g, evalOf f (.func g) = .func (.func g) #[] #[] := fun _ => rfl
      refine relUpon_value ?_ (hC.go (i := 1) (hLn 8 (by simp)) (by decide) (Below.refl _ _)) (fun _ _ => Below.refl _ _) rfl
      go_simp
    -- 2: slot 4 := fieldAddr 69 t3 2
    · intro w L f hC hLi hLd hLn hF
      obtain ⟨d3, _⟩ := hF
      have d3 : f 3 = .pointer (some ⟨q.g, 0, none⟩) := d3
      refine Step2.live rfl ?_
      have ev : ∀ t, evalOf f (.tmp t) = f t := fun _ => rfl
      have ec : ∀ c, evalOf f (.const c) = c := fun _ => rfl
      have ef : ∀ g, evalOf f (.func g) = .func (.func g) #[] #[] := fun _ => rfl
      refine relUpon_value ?_ (hC.go (i := 2) (hLn 8 (by simp)) (by decide) (Below.refl _ _)) (fun _ _ => Below.refl _ _) rfl
      go_simp
    -- 3: slot 5 := load 67 t4
    · intro w L f hC hLi hLd hLn hF
      obtain ⟨d4, _⟩ := hF
      have d4 : f 4 = .pointer (some ⟨q.g, 2, none⟩) := d4
      refine Step2.live rfl ?_
      have f2 := (hD.out.below (hC.bel (hLn 8 (by simp)))).f2
      have ev : ∀ t, evalOf f (.tmp t) = f t := fun _ => rfl
      have ec : ∀ c, evalOf f (.const c) = c := fun _ => rfl
      have ef : ∀ g, evalOf f (.func g) = .func (.func g) #[] #[] := fun _ => rfl
      refine relUpon_value ?_ (hC.go (i := 3) (hLn 8 (by simp)) (by decide) (Below.refl _ _)) (fun _ _ => Below.refl _ _) rfl
      go_simp
    -- 4: slot 6 := move t0
    · intro w L f hC hLi hLd hLn hF
      obtain ⟨d0, _⟩ := hF
      have d0 : f 0 = .pointer (some ⟨q.g, 0, none⟩) := d0
      refine Step2.live rfl ?_
      exact relUpon_value (v := f 0) rfl (hC.go (i := 4) (hLn 8 (by simp)) (by decide) (Below.refl _ _)) (fun _ _ => Below.refl _ _) d0
    -- 5: slot 7 := nilCheck t6
    · intro w L f hC hLi hLd hLn hF
      obtain ⟨d6, _⟩ := hF
      have d6 : f 6 = .pointer (some ⟨q.g, 0, none⟩) := d6
      refine Step2.live rfl ?_
      have ev : ∀ t, evalOf f (.tmp t) = f t := fun _ => rfl
      have ec : ∀ c, evalOf f (.const c) = c := fun _ => rfl
      have ef : ∀ g, evalOf f (.func g) = .func (.func g) #[] #[] := fun _ => rfl
      refine relUpon_value ?_ (hC.go (i := 5) (hLn 8 (by simp)) (by decide) (Below.refl _ _)) (fun _ _ => Below.refl _ _) rfl
      go_simp
    -- 6: slot 8 := fieldAddr 69 t7 3
    · intro w L f hC hLi hLd hLn hF
      obtain ⟨d7, _⟩ := hF
      have d7 : f 7 = .pointer (some ⟨q.g, 0, none⟩) := d7
      refine Step2.live rfl ?_
      have ev : ∀ t, evalOf f (.tmp t) = f t := fun _ => rfl
      have ec : ∀ c, evalOf f (.const c) = c := fun _ => rfl
      have ef : ∀ g, evalOf f (.func g) = .func (.func g) #[] #[] := fun _ => rfl
      refine relUpon_value ?_ (hC.go (i := 6) (hLn 8 (by simp)) (by decide) (Below.refl _ _)) (fun _ _ => Below.refl _ _) rfl
      go_simp
    -- 7: slot 9 := load 67 t8
    · intro w L f hC hLi hLd hLn hF
      obtain ⟨d8, _⟩ := hF
      have d8 : f 8 = .pointer (some ⟨q.g, 3, none⟩) := d8
      refine Step2.live rfl ?_
      have f3 := (hD.out.below (hC.bel (hLn 8 (by simp)))).f3
      have ev : ∀ t, evalOf f (.tmp t) = f t := fun _ => rfl
      have ec : ∀ c, evalOf f (.const c) = c := fun _ => rfl
      have ef : ∀ g, evalOf f (.func g) = .func (.func g) #[] #[] := fun _ => rfl
      refine relUpon_value ?_ (hC.go (i := 7) (hLn 8 (by simp)) (by decide) (Below.refl _ _)) (fun _ _ => Below.refl _ _) rfl
      go_simp
    -- 8: slot 10 := call { value (Operand.func 67), args := #[t5, t9], argTypes := #[67, 67] }
    · intro w L f hC hLi hLd hLn hF
      obtain ⟨d5, d9, _⟩ := hF
      have d5 : f 5 = .map (some q.md) := d5
      have d9 : f 9 = .map (some q.mw) := d9
      refine Step2.live rfl ?_
      have hw := hC.bel hLi
      have hDw := hD.out.below hw
      have ev : ∀ t, evalOf f (.tmp t) = f t := fun _ => rfl
      have ec : ∀ c, evalOf f (.const c) = c := fun _ => rfl
      have ef : ∀ g, evalOf f (.func g) = .func (.func g) #[] #[] := fun _ => rfl
      refine relUpon_call (f := 67) (args := #[.map (some q.md), .map (some q.mw)]) (w := w) (by go_simp) (mapcopy_any w q.md q.mw _ _ hDw.md hDw.mw hDw.ne) ?_
      rintro e w1 ⟨he, hM, hW⟩
      exact ⟨_, he, CS.last (hLd 7 (by decide)) ⟨hM, (Writes.of_below hw _).trans hW⟩, fun _ h => absurd rfl h, rfl⟩
  intro x w' hC hV

  obtain ⟨hM0, hW0⟩ := (hC.2 rfl).2
  clear hV
  simp only [framed]
  have hmw0 : IMap w' q.mw (fun k => (q.wr k).map Pay.val) := hD.out.mw.loc (hW0.block _ hD.out.mw.lt (by simp; exact fun e => hD.out.ne e.symm))
  obtain ⟨w2, hrun, hm2, hg2, _⟩ := hmw0.clear
  have f3 : w'.cell? ⟨q.g, 3, none⟩ = some (.map (some q.mw)) := (hW0.holds hD.out.hold (by simp; exact fun e => hD.out.md_ne.1 e.symm)).cell 3
  have hfin := Lib.hid (hD.out.settle hM0 hW0 hm2 (Writes.of_grown hg2 (by simp)))
  clear hM0 hW0 hm2 hg2 hC hmw0
  go_wp2_with fail
  go_end0
  exact ⟨rfl, hfin.out⟩

/-- What was written is made sure. -/
def FlushE (q : DR) (w : World) (e : Ending) (w' : World) : Prop :=
  if q.dead = true then e = .returned (.int .i64 32) ∧ w' = w
  else if q.powered.dead = true then e = .returned (.int .i64 32) ∧ DStep q w q.powered w'
  else e = .returned (.int .i64 0) ∧ DStep q w q.powered.settled w'
set_option maxRecDepth 100000 in
set_option maxHeartbeats 1000000 in
theorem flush_any (w : World) (q : DR) (h : DiskP q w) : Calls Tryz.prog 43 #[.pointer (some ⟨q.g, 0, none⟩)] w (FlushE q w) := by
  have f4 := h.f4
  cases hd : q.dead with
  | true =>
    rw [hd] at f4
    have hd' := Lib.hid hd
    clear hd
    go_enter Tryz.func43, Tryz.ntmps43
    go_wp2_with fail
    go_ret
    unfold FlushE
    rw [if_pos hd'.out]
    exact ⟨rfl, rfl⟩
  | false =>
    rw [hd] at f4
    have hdn : Hid (¬ q.dead = true) := Lib.hid (by rw [hd]; simp)
    clear hd
    go_enter Tryz.func43, Tryz.ntmps43
    go_wp2_with fail
    refine (power_any w q h).mono ?_
    rintro e w1 ⟨rfl, hst⟩
    cases hpd : q.powered.dead with
    | true =>
      have hpd' := Lib.hid hpd
      have hst' := Lib.hid hst
      clear hpd hst
      go_wp2_with fail
      go_ret
      unfold FlushE
      rw [if_neg hdn.out, if_pos hpd'.out]
      exact ⟨rfl, hst'.out⟩
    | false =>
      have hpd' : Hid (¬ q.powered.dead = true) := Lib.hid (by rw [hpd]; simp)
      have hst' := Lib.hid hst
      have hg : Hid (q.powered.g = q.g) := Lib.hid (powered_n q).2.2.1
      have hc := settle_any w1 q.powered hst.post
      rw [hg.out] at hc
      clear hpd hst
      go_wp2_with fail
      refine hc.mono ?_
      clear hc
      rintro e w2 ⟨rfl, hs⟩
      have hs' := Lib.hid hs
      clear hs
      go_wp2_with fail
      go_ret
      unfold FlushE
      rw [if_neg hdn.out, if_neg hpd'.out]
      exact ⟨rfl, hst'.out.trans hs'.out⟩
end Go.Proofs.YtelglbblgkhcmaaGreat
