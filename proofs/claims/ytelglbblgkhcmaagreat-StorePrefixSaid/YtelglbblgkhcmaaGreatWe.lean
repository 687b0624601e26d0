/-
  Package wal: the walks of headers and Open.
-/
import Derived.Test.YtelglbblgkhcmaaGreatWd
import Derived.Test.YtelglbblgkhcmaaGreatRelG
import Derived.Maps.AppendAt
namespace Go.Proofs.YtelglbblgkhcmaaGreat
open Go.RowKit Go.Deep

/-- A region that makes a header (m) and stores it (n): the ghost is its block. -/
structure CHd (m n : Nat) (w0 : World) (R : Hdr → Prop) (L : Nat → Bool) (W : World × Option Nat) : Prop where
  bel : Below w0.heap.size w0 W.1
  done : L m = true → ∃ g, W.2 = some g ∧ w0.heap.size ≤ g ∧ g < W.1.heap.size ∧ (L n = false → Holds W.1 g 100 zeroH.cells) ∧ (L n = true → ∃ hx, R hx ∧ Holds W.1 g 100 hx.cells)
  ord : L n = true → L m = true
section
variable {m n i : Nat} {w0 w w' : World} {R : Hdr → Prop} {L : Nat → Bool} {γ : Option Nat}
theorem CHd.start (hb : Below w0.heap.size w0 w) (h1 : L m = false) (h2 : L n = false) : CHd m n w0 R L (w, γ) := ⟨hb, fun e => by simp [h1] at e, fun e => by simp [h2] at e⟩
theorem CHd.other (h : CHd m n w0 R L (w, γ)) (hm : i ≠ m) (hn : i ≠ n) (hb : Below w.heap.size w w') : CHd m n w0 R (fun k => k == i || L k) (w', γ) := by
  have e1 : (m == i) = false := by simpa using hm.symm
  have e2 : (n == i) = false := by simpa using hn.symm
  refine ⟨h.bel.trans (hb.mono h.bel.size), fun e => ?_, fun e => ?_⟩
  · simp only [e1, e2, Bool.false_or] at e ⊢
    obtain ⟨g, h1, h2, h3, h4, h5⟩ := h.done e
    exact ⟨g, h1, h2, Nat.lt_of_lt_of_le h3 hb.size, fun e => (h4 e).below hb h3, fun e => by
      obtain ⟨hx, h6, h7⟩ := h5 e
      exact ⟨hx, h6, h7.below hb h3⟩⟩
  · simp only [e1, e2, Bool.false_or] at e ⊢
    exact h.ord e
theorem CHd.alloc (h : CHd m n w0 R L (w, γ)) (hL : L m = false) (hmn : m ≠ n) : CHd m n w0 R (fun k => k == m || L k) (w.alloc (.cells zeroH.cells 100), some w.heap.size) := by
  have hb := below_new w (.cells zeroH.cells 100)
  have hn : L n = false := by
    cases e : L n with
    | false => rfl
    | true => rw [h.ord e] at hL; cases hL
  refine ⟨h.bel.trans (hb.mono h.bel.size), fun e => ⟨_, rfl, h.bel.size, by simp, fun _ => Holds.new w _ _, fun e => ?_⟩, fun e => by simp⟩
  simp [hn] at e
  exact absurd e.symm hmn
theorem CHd.zero (h : CHd m n w0 R L (w, γ)) (hn : L n = false) (hm : L m = true) {g : Nat} (hg : γ = some g) : Holds w g 100 zeroH.cells := by
  obtain ⟨g', h1, _, _, h4, _⟩ := h.done hm
  obtain rfl : g = g' := Option.some.inj (hg.symm.trans h1)
  exact h4 hn
theorem CHd.stored (h : CHd m n w0 R L (w, γ)) (hn : L n = false) (hm : L m = true) {g : Nat} (hg : γ = some g) (hx : Hdr) (hR : R hx) : CHd m n w0 R (fun k => k == n || L k) ((((w.setCell ⟨g, 0, none⟩ (.int .u64 hx.serial)).setCell ⟨g, 1, none⟩ (.int .i64 hx.area)).setCell ⟨g, 2, none⟩ (.int .i64 hx.used)).setCell ⟨g, 3, none⟩ (.int .i64 hx.count), γ) := by
  obtain ⟨g', h1, h2, h3, h4, _⟩ := h.done hm
  obtain rfl : g = g' := Option.some.inj (hg.symm.trans h1)
  have hZ := h4 hn
  have hW : Writes [some g] w ((((w.setCell ⟨g, 0, none⟩ (.int .u64 hx.serial)).setCell ⟨g, 1, none⟩ (.int .i64 hx.area)).setCell ⟨g, 2, none⟩ (.int .i64 hx.used)).setCell ⟨g, 3, none⟩ (.int .i64 hx.count)) :=
    (Writes.store w (p := ⟨g, 0, none⟩) (by simp) _).trans ((Writes.store _ (p := ⟨g, 1, none⟩) (by simp) _).trans ((Writes.store _ (p := ⟨g, 2, none⟩) (by simp) _).trans (Writes.store _ (p := ⟨g, 3, none⟩) (by simp) _)))
  refine ⟨h.bel.trans (hW.below h.bel.size (fun k hk => by simp at hk; omega)), fun _ => ⟨g, hg, h2, Nat.lt_of_lt_of_le h3 hW.size, fun e => by simp at e, fun _ => ⟨hx, hR, (((hZ.store 0 _).store 1 _).store 2 _).store 3 _⟩⟩, fun _ => by simp [hm]⟩
end
/-- The cells of a header with its slot. -/
def plC (p : Hdr × Nat) : List Value := [.int .u64 p.1.serial, .int .i64 p.1.area, .int .i64 p.1.used, .int .i64 p.1.count, .int .i64 p.2]
/-- A region that stores twice (n1, then n2). -/
structure CTwo (n1 n2 : Nat) (w0 : World) (F1 F2 : World → Prop) (L : Nat → Bool) (w : World) : Prop where
  a : L n1 = false → Below w0.heap.size w0 w
  b : L n1 = true → L n2 = false → F1 w
  c : L n2 = true → F2 w
theorem CTwo.keep {n1 n2 i : Nat} {w0 w : World} {F1 F2 : World → Prop} {L : Nat → Bool} (h : CTwo n1 n2 w0 F1 F2 L w) (h1 : i ≠ n1) (h2 : i ≠ n2) : CTwo n1 n2 w0 F1 F2 (fun k => k == i || L k) w := by
  have e1 : (n1 == i) = false := by simpa using h1.symm
  have e2 : (n2 == i) = false := by simpa using h2.symm
  exact ⟨fun e => h.a (by simpa [e1] using e), fun e e' => h.b (by simpa [e1] using e) (by simpa [e2] using e'), fun e => h.c (by simpa [e2] using e)⟩
set_option maxRecDepth 100000 in
set_option maxHeartbeats 4000000 in
theorem reverse_any (ws : World) (g cap : Nat) (x y : Hdr × Nat) (rest : List Value) (hh : Holds ws g 102 (plC x ++ (plC y ++ rest)).toArray) :
    Calls Tryz.prog 71 #[.slice (some ⟨g, 0, none⟩) 2 cap] ws fun e w' => e = .returned (.tuple #[]) ∧ Holds w' g 102 (plC y ++ (plC x ++ rest)).toArray ∧ Writes [some g] ws w' := by
  have hH := Lib.hid hh
  clear hh
  go_enter Tryz.func71, Tryz.ntmps71
  go_wp2_with fail
  go_loopw [2, 3] (fun a b wr => (a = .int .i64 0 ∧ b = .int .i64 1 ∧ Hid (wr = ws)) ∨ (a = .int .i64 1 ∧ b = .int .i64 0 ∧ Hid (Holds wr g 102 (plC y ++ (plC x ++ rest)).toArray) ∧ Hid (Writes [some g] ws wr))) (fun a _ _ => 2 - (intOf a).toNat)
  case atStart => exact .inl ⟨rfl, rfl, Lib.hid rfl⟩
  rcases hrel with ⟨rfl, rfl, hwr⟩ | ⟨rfl, rfl, hH2, hW2⟩
  · have hHr : Hid (Holds wr g 102 (plC x ++ (plC y ++ rest)).toArray) := Lib.hid (by rw [hwr.out]; exact hH.out)
    go_wp2_with fail
    -- THE REGION THAT DRAWS ITS ORDER, BY ONE LEXICAL WALK OVER GENERIC VALUES (written by relgen.py)
    refine wp_region_tabL ((fun _ _ v => v = .slice (some ⟨g, 0, none⟩) 2 cap) ::
      (fun _ _ v => v = .int .i64 0) ::
      (fun _ _ v => v = .slice (some ⟨g, 0, none⟩) 2 cap) ::
      (fun _ _ v => v = .int .i64 1) ::
      (fun _ _ v => v = .slice (some ⟨g, 0, none⟩) 2 cap) ::
      (fun _ _ v => v = .int .i64 1) ::
      (fun _ _ v => v = .pointer (some ⟨g, 5, none⟩)) ::
      (fun _ _ v => v = .agg #[.int .u64 y.1.serial, .int .i64 y.1.area, .int .i64 y.1.used, .int .i64 y.1.count, .int .i64 y.2]) ::
      (fun _ _ v => v = .slice (some ⟨g, 0, none⟩) 2 cap) ::
      (fun _ _ v => v = .int .i64 0) ::
      (fun _ _ v => v = .pointer (some ⟨g, 0, none⟩)) ::
      (fun _ _ v => v = .agg #[.int .u64 x.1.serial, .int .i64 x.1.area, .int .i64 x.1.used, .int .i64 x.1.count, .int .i64 x.2]) ::
      (fun _ _ v => v = .pointer (some ⟨g, 0, none⟩)) ::
      (fun _ _ _ => True) ::
      (fun _ _ v => v = .pointer (some ⟨g, 5, none⟩)) ::
      (fun _ _ _ => True) :: [])
      (⟨[(0, none)], 0, []⟩ :: ⟨[(2, none)], 0, []⟩ :: ⟨[(0, none)], 0, []⟩ :: ⟨[(3, none)], 0, []⟩ :: ⟨[(0, none)], 0, []⟩ :: ⟨[(3, none)], 0, []⟩ :: ⟨[(18, some 4), (19, some 5)], 0, []⟩ :: ⟨[(20, some 6)], 0, [13]⟩ :: ⟨[(0, none)], 0, []⟩ :: ⟨[(2, none)], 0, []⟩ :: ⟨[(22, some 8), (23, some 9)], 0, []⟩ :: ⟨[(24, some 10)], 0, [13]⟩ :: ⟨[(14, some 0), (15, some 1)], 0, []⟩ :: ⟨[(26, some 12), (21, some 7)], 0, [15]⟩ :: ⟨[(16, some 2), (17, some 3)], 0, []⟩ :: ⟨[(27, some 14), (25, some 11)], 0, []⟩ :: [])
      (none :: none :: none :: none :: none :: none :: none :: none :: none :: none :: none :: none :: none :: none :: some 0 :: some 1 :: some 2 :: some 3 :: some 4 :: some 5 :: some 6 :: some 7 :: some 8 :: some 9 :: some 10 :: some 11 :: some 12 :: some 14 :: [])
      (fun L w' => CTwo 13 15 wr (fun w' => Holds w' g 102 (plC y ++ (plC y ++ rest)).toArray ∧ Writes [some g] ws w') (fun w' => Holds w' g 102 (plC y ++ (plC x ++ rest)).toArray ∧ Writes [some g] ws w') L w') (fun i w w' => True) ?mixK3rev3 ?okK3rev3 ?tabK3rev3 ?frK3rev3 ?inK3rev3 ?keptK3rev3 ?startK3rev3 ?eachK3rev3 ?finK3rev3
    case mixK3rev3 => kernel_rfl
    case okK3rev3 => kernel_rfl
    case tabK3rev3 => kernel_rfl
    case frK3rev3 => kernel_rfl
    case inK3rev3 => rfl
    case keptK3rev3 => exact ⟨fun _ _ _ _ _ _ _ _ _ _ _ h => h, fun _ _ _ _ _ _ _ _ _ _ _ h => h, fun _ _ _ _ _ _ _ _ _ _ _ h => h, fun _ _ _ _ _ _ _ _ _ _ _ h => h, fun _ _ _ _ _ _ _ _ _ _ _ h => h, fun _ _ _ _ _ _ _ _ _ _ _ h => h, fun _ _ _ _ _ _ _ _ _ _ _ h => h, fun _ _ _ _ _ _ _ _ _ _ _ h => h, fun _ _ _ _ _ _ _ _ _ _ _ h => h, fun _ _ _ _ _ _ _ _ _ _ _ h => h, fun _ _ _ _ _ _ _ _ _ _ _ h => h, fun _ _ _ _ _ _ _ _ _ _ _ h => h, fun _ _ _ _ _ _ _ _ _ _ _ h => h, fun _ _ _ _ _ _ _ _ _ _ _ h => h, fun _ _ _ _ _ _ _ _ _ _ _ h => h, fun _ _ _ _ _ _ _ _ _ _ _ h => h, trivial⟩
    case startK3rev3 => exact ⟨fun _ => (Below.refl _ _).drew, fun e => by simp at e, fun e => by simp at e⟩
    case eachK3rev3 =>
      refine ⟨?_, ?_, ?_, ?_, ?_, ?_, ?_, ?_, ?_, ?_, ?_, ?_, ?_, ?_, ?_, ?_, trivial⟩
      -- 0: slot 14 := move t0
      · intro w L f hC hLi hLd hLn hF
        obtain ⟨d0, _⟩ := hF
        have d0 : f 0 = .slice (some ⟨g, 0, none⟩) 2 cap := d0
        refine Step2.live rfl ?_
        exact relUpon_value (v := f 0) rfl (hC.keep (i := 0) (by decide) (by decide)) (trivial) d0
      -- 1: slot 15 := move t2
      · intro w L f hC hLi hLd hLn hF
        obtain ⟨d2, _⟩ := hF
        have d2 : f 2 = .int .i64 0 := d2
        refine Step2.live rfl ?_
        exact relUpon_value (v := f 2) rfl (hC.keep (i := 1) (by decide) (by decide)) (trivial) d2
      -- 2: slot 16 := move t0
      · intro w L f hC hLi hLd hLn hF
        obtain ⟨d0, _⟩ := hF
        have d0 : f 0 = .slice (some ⟨g, 0, none⟩) 2 cap := d0
        refine Step2.live rfl ?_
        exact relUpon_value (v := f 0) rfl (hC.keep (i := 2) (by decide) (by decide)) (trivial) d0
      -- 3: slot 17 := move t3
      · intro w L f hC hLi hLd hLn hF
        obtain ⟨d3, _⟩ := hF
        have d3 : f 3 = .int .i64 1 := d3
        refine Step2.live rfl ?_
        exact relUpon_value (v := f 3) rfl (hC.keep (i := 3) (by decide) (by decide)) (trivial) d3
      -- 4: slot 18 := move t0
      · intro w L f hC hLi hLd hLn hF
        obtain ⟨d0, _⟩ := hF
        have d0 : f 0 = .slice (some ⟨g, 0, none⟩) 2 cap := d0
        refine Step2.live rfl ?_
        exact relUpon_value (v := f 0) rfl (hC.keep (i := 4) (by decide) (by decide)) (trivial) d0
      -- 5: slot 19 := move t3
      · intro w L f hC hLi hLd hLn hF
        obtain ⟨d3, _⟩ := hF
        have d3 : f 3 = .int .i64 1 := d3
        refine Step2.live rfl ?_
        exact relUpon_value (v := f 3) rfl (hC.keep (i := 5) (by decide) (by decide)) (trivial) d3
      -- 6: slot 20 := indexAddr 96 t18 t19
      · intro w L f hC hLi hLd hLn hF
        obtain ⟨d18, d19, _⟩ := hF
        have d18 : f 18 = .slice (some ⟨g, 0, none⟩) 2 cap := d18
        have d19 : f 19 = .int .i64 1 := d19
        refine Step2.live rfl ?_
        have ev : ∀ t, evalOf f (.tmp t) = f t := fun _ => rfl
        have ec : ∀ c, evalOf f (.const c) = c := fun _ => rfl
        have ef : ∀ g, evalOf f (.func g) = .func (.func g) #[] #[] := fun _ => rfl
        refine relUpon_value ?_ (hC.keep (i := 6) (by decide) (by decide)) trivial rfl
        go_simp
      -- 7: slot 21 := load 102 t20
      · intro w L f hC hLi hLd hLn hF
        obtain ⟨d20, _⟩ := hF
        have d20 : f 20 = .pointer (some ⟨g, 5, none⟩) := d20
        refine Step2.live rfl ?_
        have hh := hHr.out.below (hC.a (hLn 13 (by simp))) hHr.out.lt
        have c5 : w.cell? ⟨g, 5, none⟩ = some (.int .u64 y.1.serial) := hh.cell 5
        have c6 : w.cell? ⟨g, 6, none⟩ = some (.int .i64 y.1.area) := hh.cell 6
        have c7 : w.cell? ⟨g, 7, none⟩ = some (.int .i64 y.1.used) := hh.cell 7
        have c8 : w.cell? ⟨g, 8, none⟩ = some (.int .i64 y.1.count) := hh.cell 8
        have c9 : w.cell? ⟨g, 9, none⟩ = some (.int .i64 y.2) := hh.cell 9
        have ev : ∀ t, evalOf f (.tmp t) = f t := fun _ => rfl
        have ec : ∀ c, evalOf f (.const c) = c := fun _ => rfl
        have ef : ∀ g, evalOf f (.func g) = .func (.func g) #[] #[] := fun _ => rfl
        refine relUpon_value ?_ (hC.keep (i := 7) (by decide) (by decide)) trivial rfl
        go_simp
      -- 8: slot 22 := move t0
      · intro w L f hC hLi hLd hLn hF
        obtain ⟨d0, _⟩ := hF
        have d0 : f 0 = .slice (some ⟨g, 0, none⟩) 2 cap := d0
        refine Step2.live rfl ?_
        exact relUpon_value (v := f 0) rfl (hC.keep (i := 8) (by decide) (by decide)) (trivial) d0
      -- 9: slot 23 := move t2
      · intro w L f hC hLi hLd hLn hF
        obtain ⟨d2, _⟩ := hF
        have d2 : f 2 = .int .i64 0 := d2
        refine Step2.live rfl ?_
        exact relUpon_value (v := f 2) rfl (hC.keep (i := 9) (by decide) (by decide)) (trivial) d2
      -- 10: slot 24 := indexAddr 96 t22 t23
      · intro w L f hC hLi hLd hLn hF
        obtain ⟨d22, d23, _⟩ := hF
        have d22 : f 22 = .slice (some ⟨g, 0, none⟩) 2 cap := d22
        have d23 : f 23 = .int .i64 0 := d23
        refine Step2.live rfl ?_
        have ev : ∀ t, evalOf f (.tmp t) = f t := fun _ => rfl
        have ec : ∀ c, evalOf f (.const c) = c := fun _ => rfl
        have ef : ∀ g, evalOf f (.func g) = .func (.func g) #[] #[] := fun _ => rfl
        refine relUpon_value ?_ (hC.keep (i := 10) (by decide) (by decide)) trivial rfl
        go_simp
      -- 11: slot 25 := load 102 t24
      · intro w L f hC hLi hLd hLn hF
        obtain ⟨d24, _⟩ := hF
        have d24 : f 24 = .pointer (some ⟨g, 0, none⟩) := d24
        refine Step2.live rfl ?_
        have hh := hHr.out.below (hC.a (hLn 13 (by simp))) hHr.out.lt
        have c0 : w.cell? ⟨g, 0, none⟩ = some (.int .u64 x.1.serial) := hh.cell 0
        have c1 : w.cell? ⟨g, 1, none⟩ = some (.int .i64 x.1.area) := hh.cell 1
        have c2 : w.cell? ⟨g, 2, none⟩ = some (.int .i64 x.1.used) := hh.cell 2
        have c3 : w.cell? ⟨g, 3, none⟩ = some (.int .i64 x.1.count) := hh.cell 3
        have c4 : w.cell? ⟨g, 4, none⟩ = some (.int .i64 x.2) := hh.cell 4
        have ev : ∀ t, evalOf f (.tmp t) = f t := fun _ => rfl
        have ec : ∀ c, evalOf f (.const c) = c := fun _ => rfl
        have ef : ∀ g, evalOf f (.func g) = .func (.func g) #[] #[] := fun _ => rfl
        refine relUpon_value ?_ (hC.keep (i := 11) (by decide) (by decide)) trivial rfl
        go_simp
      -- 12: slot 26 := indexAddr 96 t14 t15
      · intro w L f hC hLi hLd hLn hF
        obtain ⟨d14, d15, _⟩ := hF
        have d14 : f 14 = .slice (some ⟨g, 0, none⟩) 2 cap := d14
        have d15 : f 15 = .int .i64 0 := d15
        refine Step2.live rfl ?_
        have ev : ∀ t, evalOf f (.tmp t) = f t := fun _ => rfl
        have ec : ∀ c, evalOf f (.const c) = c := fun _ => rfl
        have ef : ∀ g, evalOf f (.func g) = .func (.func g) #[] #[] := fun _ => rfl
        refine relUpon_value ?_ (hC.keep (i := 12) (by decide) (by decide)) trivial rfl
        go_simp
      -- 13: slot None := store 102 t26 t21
      · intro w L f hC hLi hLd hLn hF
        obtain ⟨d26, d21, _⟩ := hF
        have d26 : f 26 = .pointer (some ⟨g, 0, none⟩) := d26
        have d21 : f 21 = .agg #[.int .u64 y.1.serial, .int .i64 y.1.area, .int .i64 y.1.used, .int .i64 y.1.count, .int .i64 y.2] := d21
        refine Step2.live rfl ?_
        have hb := hC.a hLi
        have hh := hHr.out.below hb hHr.out.lt
        have c0 : w.cell? ⟨g, 0, none⟩ = some (.int .u64 x.1.serial) := hh.cell 0
        have z0 := hh.frozen 0
        have c1 : w.cell? ⟨g, 1, none⟩ = some (.int .i64 x.1.area) := hh.cell 1
        have z1 := hh.frozen 1
        have c2 : w.cell? ⟨g, 2, none⟩ = some (.int .i64 x.1.used) := hh.cell 2
        have z2 := hh.frozen 2
        have c3 : w.cell? ⟨g, 3, none⟩ = some (.int .i64 x.1.count) := hh.cell 3
        have z3 := hh.frozen 3
        have c4 : w.cell? ⟨g, 4, none⟩ = some (.int .i64 x.2) := hh.cell 4
        have z4 := hh.frozen 4
        have ev : ∀ t, evalOf f (.tmp t) = f t := fun _ => rfl
        have ec : ∀ c, evalOf f (.const c) = c := fun _ => rfl
        have ef : ∀ g, evalOf f (.func g) = .func (.func g) #[] #[] := fun _ => rfl
        refine relUpon_skip (w' := (((((w.setCell ⟨g, 0, none⟩ (.int .u64 y.1.serial)).setCell ⟨g, 1, none⟩ (.int .i64 y.1.area)).setCell ⟨g, 2, none⟩ (.int .i64 y.1.used)).setCell ⟨g, 3, none⟩ (.int .i64 y.1.count)).setCell ⟨g, 4, none⟩ (.int .i64 y.2))) ?_ ⟨fun e => by simp at e, fun _ _ => ⟨(((((hh.store 0 (.int .u64 y.1.serial)).store 1 (.int .i64 y.1.area)).store 2 (.int .i64 y.1.used)).store 3 (.int .i64 y.1.count)).store 4 (.int .i64 y.2)), (by rw [← hwr.out]; exact Writes.of_below hb _ : Writes [some g] ws w).trans ((Writes.store _ (p := ⟨g, 0, none⟩) (by simp) _).trans ((Writes.store _ (p := ⟨g, 1, none⟩) (by simp) _).trans ((Writes.store _ (p := ⟨g, 2, none⟩) (by simp) _).trans ((Writes.store _ (p := ⟨g, 3, none⟩) (by simp) _).trans (Writes.store _ (p := ⟨g, 4, none⟩) (by simp) _)))))⟩, fun e => by simp [hLn 15 (by decide)] at e⟩ trivial trivial
        go_simp
      -- 14: slot 27 := indexAddr 96 t16 t17
      · intro w L f hC hLi hLd hLn hF
        obtain ⟨d16, d17, _⟩ := hF
        have d16 : f 16 = .slice (some ⟨g, 0, none⟩) 2 cap := d16
        have d17 : f 17 = .int .i64 1 := d17
        refine Step2.live rfl ?_
        have ev : ∀ t, evalOf f (.tmp t) = f t := fun _ => rfl
        have ec : ∀ c, evalOf f (.const c) = c := fun _ => rfl
        have ef : ∀ g, evalOf f (.func g) = .func (.func g) #[] #[] := fun _ => rfl
        refine relUpon_value ?_ (hC.keep (i := 14) (by decide) (by decide)) trivial rfl
        go_simp
      -- 15: slot None := store 102 t27 t25
      · intro w L f hC hLi hLd hLn hF
        obtain ⟨d27, d25, _⟩ := hF
        have d27 : f 27 = .pointer (some ⟨g, 5, none⟩) := d27
        have d25 : f 25 = .agg #[.int .u64 x.1.serial, .int .i64 x.1.area, .int .i64 x.1.used, .int .i64 x.1.count, .int .i64 x.2] := d25
        refine Step2.live rfl ?_
        obtain ⟨hh, hw⟩ := hC.b (hLd 13 (by decide)) hLi
        have c5 : w.cell? ⟨g, 5, none⟩ = some (.int .u64 y.1.serial) := hh.cell 5
        have z5 := hh.frozen 5
        have c6 : w.cell? ⟨g, 6, none⟩ = some (.int .i64 y.1.area) := hh.cell 6
        have z6 := hh.frozen 6
        have c7 : w.cell? ⟨g, 7, none⟩ = some (.int .i64 y.1.used) := hh.cell 7
        have z7 := hh.frozen 7
        have c8 : w.cell? ⟨g, 8, none⟩ = some (.int .i64 y.1.count) := hh.cell 8
        have z8 := hh.frozen 8
        have c9 : w.cell? ⟨g, 9, none⟩ = some (.int .i64 y.2) := hh.cell 9
        have z9 := hh.frozen 9
        have ev : ∀ t, evalOf f (.tmp t) = f t := fun _ => rfl
        have ec : ∀ c, evalOf f (.const c) = c := fun _ => rfl
        have ef : ∀ g, evalOf f (.func g) = .func (.func g) #[] #[] := fun _ => rfl
        refine relUpon_skip (w' := (((((w.setCell ⟨g, 5, none⟩ (.int .u64 x.1.serial)).setCell ⟨g, 6, none⟩ (.int .i64 x.1.area)).setCell ⟨g, 7, none⟩ (.int .i64 x.1.used)).setCell ⟨g, 8, none⟩ (.int .i64 x.1.count)).setCell ⟨g, 9, none⟩ (.int .i64 x.2))) ?_ ⟨fun e => by simp [hLd 13 (by decide)] at e, fun _ e => by simp at e, fun _ => ⟨(((((hh.store 5 (.int .u64 x.1.serial)).store 6 (.int .i64 x.1.area)).store 7 (.int .i64 x.1.used)).store 8 (.int .i64 x.1.count)).store 9 (.int .i64 x.2)), hw.trans ((Writes.store _ (p := ⟨g, 5, none⟩) (by simp) _).trans ((Writes.store _ (p := ⟨g, 6, none⟩) (by simp) _).trans ((Writes.store _ (p := ⟨g, 7, none⟩) (by simp) _).trans ((Writes.store _ (p := ⟨g, 8, none⟩) (by simp) _).trans (Writes.store _ (p := ⟨g, 9, none⟩) (by simp) _)))))⟩⟩ trivial trivial
        go_simp
    intro x w' hC hV

    obtain ⟨hH3, hW3⟩ := hC.c rfl
    clear hV hC
    simp only [framed]
    have hH3' := Lib.hid hH3
    have hW3' := Lib.hid hW3
    clear hH3 hW3
    go_wp2_with fail
    refine ⟨.inr ⟨rfl, rfl, hH3', hW3'⟩, by simp [intOf]⟩
  · go_wp2_with fail
    go_end0
    exact ⟨rfl, hH2.out, hW2.out⟩
end Go.Proofs.YtelglbblgkhcmaaGreat
namespace Go.Proofs.YtelglbblgkhcmaaGreat
open Go.RowKit Go.Deep

def GHd (m i : Nat) (W W' : World × Option Nat) : Prop := i ≠ m → W'.2 = W.2
def foundF (X : Int → List UInt8) (n s : Nat) : Nat → List (Hdr × Nat)
  | 0 => []
  | k + 1 => foundF X n s k ++ (match parseF (X k) n s with | some h => [(h, k)] | none => [])
/-- The headers on a disk, that with the greater serial first. -/
def orderF : List (Hdr × Nat) → List (Hdr × Nat)
  | [a, b] => if a.1.serial < b.1.serial then [b, a] else [a, b]
  | l => l
def headersF (X : Int → List UInt8) (n s : Nat) : List (Hdr × Nat) := orderF (foundF X n s 2)
def cellsP (l : List (Hdr × Nat)) : List Value := l.flatMap plC
theorem cellsP_append (a b : List (Hdr × Nat)) : cellsP (a ++ b) = cellsP a ++ cellsP b := by simp [cellsP]
theorem cellsP_length (l : List (Hdr × Nat)) : (cellsP l).length = l.length * 5 := by
  induction l with
  | nil => rfl
  | cons a t ih => rw [show cellsP (a :: t) = plC a ++ cellsP t from by simp [cellsP], List.length_append, ih]; simp [plC]; omega
theorem foundF_le (X : Int → List UInt8) (n s : Nat) : ∀ k, (foundF X n s k).length ≤ k
  | 0 => by simp [foundF]
  | k + 1 => by
    have := foundF_le X n s k
    rw [foundF, List.length_append]
    split <;> simp <;> omega
theorem Tryz.infoPl : (Tryz.prog.info? 102).map (fun i => (i.zero, i.size, i.bytes)) = some (some (.agg #[.int .u64 0, .int .i64 0, .int .i64 0, .int .i64 0, .int .i64 0]), 5, 40) := by kernel_rfl
theorem ownN_ge {w : World} {base : Nat} {e : TypeId} {sz : Nat} {v : Value} {n : Nat} {xs : List Value} (h : w.ownsRow base e sz v n xs) {k : Nat} (hk : v.ownBlock = some k) : base ≤ k := by
  rcases h.2 with ⟨rfl, _⟩ | ⟨g, cap, cur, rfl, hb, _⟩
  · cases hk
  · simp [Value.ownBlock] at hk
    omega
theorem own_rowS {w : World} {base : Nat} {e : TypeId} {sz : Nat} {v : Value} {n : Nat} {xs : List Value} (h : w.ownsRow base e sz v n xs) : ∃ A c, v = .slice A n c ∧ RowAt w A xs ∧ n ≤ c := by
  rcases h.2 with ⟨rfl, rfl⟩ | ⟨g, cap, cur, rfl, hb, hh, hnc, _, _, htk⟩
  · refine ⟨none, 0, rfl, fun hn => ?_, Nat.le_refl _⟩
    have := h.1
    simp at this
    exact absurd this hn
  · refine ⟨some ⟨g, 0, none⟩, cap, rfl, fun _ => ⟨g, 0, rfl, fun j u hu => ?_⟩, hnc⟩
    rw [Nat.zero_add, cell_of_row w g j cur _ _ hh]
    rw [← htk, List.getElem?_take] at hu
    split at hu
    · simpa using hu
    · cases hu
set_option maxRecDepth 100000 in
set_option maxHeartbeats 4000000 in
theorem headers_any (w : World) (q : DR) (hq : DiskP q w) (hd : q.dead = false) (hn1 : 16 ≤ q.n) (hs3 : 128 ≤ q.size) :
    Calls Tryz.prog 44 #[.pointer (some ⟨q.g, 0, none⟩)] w fun e w' => (∃ A c, e = .returned (.tuple #[.slice A (headersF q.last q.n q.size).length c, .int .i64 0]) ∧ RowAt w' A (cellsP (headersF q.last q.n q.size)) ∧ (headersF q.last q.n q.size).length ≤ c) ∧ Below w.heap.size w w' := by
  obtain ⟨iP, hiP, hzP0, hzP1, hzP2⟩ := info_parts Tryz.infoPl
  have hn2 := hq.n2
  have hs2 := hq.s2
  have hD := Lib.hid hq
  have hdd := Lib.hid hd
  clear hq hd
  go_enter Tryz.func44, Tryz.ntmps44
  go_wp2_with fail
  go_loopw [4, 10] (fun v iv wr => ∃ k : Nat, k ≤ 2 ∧ iv = .int .i64 k ∧ Hid (wr.ownsRow w.heap.size 102 5 v (foundF q.last q.n q.size k).length (cellsP (foundF q.last q.n q.size k))) ∧ Hid (Below w.heap.size w wr)) (fun _ iv _ => 2 - (intOf iv).toNat)
  case atStart => exact ⟨0, by omega, rfl, Lib.hid (World.ownsRow_nil _ _ _ _), Lib.hid (Below.refl _ _)⟩
  obtain ⟨k, hk, rfl, hO, hB⟩ := hrel
  by_cases hk2 : k = 2
  · subst hk2
    obtain ⟨F, hF⟩ : ∃ F, F = foundF q.last q.n q.size 2 := ⟨_, rfl⟩
    have hl2 : F.length ≤ 2 := by rw [hF]; exact foundF_le _ _ _ 2
    have hhd : Hid (headersF q.last q.n q.size = orderF F) := Lib.hid (by rw [hF]; rfl)
    rw [← hF] at hO
    clear hF
    by_cases hl : F.length = 2
    · obtain ⟨pa, pb, rfl⟩ : ∃ pa pb, F = [pa, pb] := by
        match F, hl with
        | [a, b], _ => exact ⟨a, b, rfl⟩
      obtain ⟨g, cap, cur, rfl, hgB, hg, hnc, hcm, hcs, htk⟩ : ∃ g cap cur, u4 = .slice (some ⟨g, 0, none⟩) 2 cap ∧ w.heap.size ≤ g ∧ wr.heap[g]? = some (.cells cur 102 (0, 0)) ∧ 2 ≤ cap ∧ cap ≤ maxLen ∧ cur.size = cap * 5 ∧ cur.toList.take (2 * 5) = cellsP [pa, pb] := by
        rcases hO.out.2 with ⟨_, h1⟩ | h1
        · cases h1
        · exact h1
      have hrow : Hid (RowAt wr (some ⟨g, 0, none⟩) (cellsP [pa, pb])) := Lib.hid (by
        obtain ⟨A', c', e', h1, _⟩ := own_rowS hO.out
        injection e' with e1 e2 e3
        rw [e1]
        exact h1)
      have hcu : cur = (plC pa ++ (plC pb ++ cur.toList.drop 10)).toArray := by
        apply Array.toList_inj.1
        show cur.toList = plC pa ++ (plC pb ++ cur.toList.drop 10)
        conv => lhs; rw [← List.take_append_drop 10 cur.toList]
        rw [htk, ← List.append_assoc]
        simp [cellsP]
      obtain ⟨rest, hrest⟩ : ∃ r, r = cur.toList.drop 10 := ⟨_, rfl⟩
      rw [← hrest] at hcu
      have hH : Hid (Holds wr g 102 (plC pa ++ (plC pb ++ rest)).toArray) := Lib.hid (by rw [← hcu]; exact hg)
      have hc0 : Hid (wr.cell? ⟨g, 0, none⟩ = some (.int .u64 pa.1.serial)) := Lib.hid (hH.out.cell 0)
      have hc5 : Hid (wr.cell? ⟨g, 5, none⟩ = some (.int .u64 pb.1.serial)) := Lib.hid (hH.out.cell 5)
      have hN2 : Hid True := Lib.hid trivial
      have hgB' := Lib.hid hgB
      clear hcu hrest htk hcs hg hO hl hk hl2 hgB
      by_cases hlt : pa.1.serial < pb.1.serial
      · have hgt : Hid (pa.1.serial < pb.1.serial) := Lib.hid hlt
        have hhd2 : Hid (headersF q.last q.n q.size = [pb, pa]) := Lib.hid (by rw [hhd.out]; exact if_pos hlt)
        clear hlt hhd
        go_wp2_with fail
        -- THE REGION THAT DRAWS ITS ORDER, BY ONE LEXICAL WALK OVER GENERIC VALUES (written by relgen.py)
        refine wp_region_tab ((fun _ v => v = .slice (some ⟨g, 0, none⟩) 2 cap) ::
          (fun _ v => v = .int .i64 2) ::
          (fun _ v => v = .bool true) ::
          (fun _ v => v = .bool true) ::
          (fun _ v => v = .slice (some ⟨g, 0, none⟩) 2 cap) ::
          (fun _ v => v = .pointer (some ⟨g, 5, none⟩)) ::
          (fun _ v => v = .pointer (some ⟨g, 5, none⟩)) ::
          (fun _ v => v = .pointer (some ⟨g, 5, none⟩)) ::
          (fun _ v => v = .int .u64 pb.1.serial) ::
          (fun _ v => v = .slice (some ⟨g, 0, none⟩) 2 cap) ::
          (fun _ v => v = .pointer (some ⟨g, 0, none⟩)) ::
          (fun _ v => v = .pointer (some ⟨g, 0, none⟩)) ::
          (fun _ v => v = .pointer (some ⟨g, 0, none⟩)) ::
          (fun _ v => v = .int .u64 pa.1.serial) ::
          (fun _ v => v = .bool true) ::
          (fun _ v => v = .bool true) :: [])
          (⟨[(4, none)], 0, []⟩ :: ⟨[(44, some 0)], 0, []⟩ :: ⟨[(45, some 1)], 0, []⟩ :: ⟨[(46, some 2)], 0, []⟩ :: ⟨[(4, none), (47, some 3)], 47, []⟩ :: ⟨[(48, some 4), (47, some 3)], 47, []⟩ :: ⟨[(49, some 5), (47, some 3)], 47, []⟩ :: ⟨[(50, some 6), (47, some 3)], 47, []⟩ :: ⟨[(51, some 7), (47, some 3)], 47, []⟩ :: ⟨[(4, none), (47, some 3)], 47, []⟩ :: ⟨[(53, some 9), (47, some 3)], 47, []⟩ :: ⟨[(54, some 10), (47, some 3)], 47, []⟩ :: ⟨[(55, some 11), (47, some 3)], 47, []⟩ :: ⟨[(56, some 12), (47, some 3)], 47, []⟩ :: ⟨[(52, some 8), (57, some 13), (47, some 3)], 47, []⟩ :: ⟨[(47, some 3), (58, some 14)], 0, []⟩ :: [])
          (none :: none :: none :: none :: none :: none :: none :: none :: none :: none :: none :: none :: none :: none :: none :: none :: none :: none :: none :: none :: none :: none :: none :: none :: none :: none :: none :: none :: none :: none :: none :: none :: none :: none :: none :: none :: none :: none :: none :: none :: none :: none :: none :: none :: some 0 :: some 1 :: some 2 :: some 3 :: some 4 :: some 5 :: some 6 :: some 7 :: some 8 :: some 9 :: some 10 :: some 11 :: some 12 :: some 13 :: some 14 :: some 15 :: [])
          (fun _ w' => Below wr.heap.size wr w') (fun _ w w' => Below w.heap.size w w') ?mixK12hd12b ?okK12hd12b ?tabK12hd12b ?frK12hd12b ?inK12hd12b ?keptK12hd12b ?startK12hd12b ?eachK12hd12b ?finK12hd12b
        case mixK12hd12b => kernel_rfl
        case okK12hd12b => kernel_rfl
        case tabK12hd12b => kernel_rfl
        case frK12hd12b => kernel_rfl
        case inK12hd12b => rfl
        case keptK12hd12b => exact ⟨fun _ _ _ _ _ _ _ h => h, fun _ _ _ _ _ _ _ h => h, fun _ _ _ _ _ _ _ h => h, fun _ _ _ _ _ _ _ h => h, fun _ _ _ _ _ _ _ h => h, fun _ _ _ _ _ _ _ h => h, fun _ _ _ _ _ _ _ h => h, fun _ _ _ _ _ _ _ h => h, fun _ _ _ _ _ _ _ h => h, fun _ _ _ _ _ _ _ h => h, fun _ _ _ _ _ _ _ h => h, fun _ _ _ _ _ _ _ h => h, fun _ _ _ _ _ _ _ h => h, fun _ _ _ _ _ _ _ h => h, fun _ _ _ _ _ _ _ h => h, fun _ _ _ _ _ _ _ h => h, trivial⟩
        case startK12hd12b => exact (Below.refl _ _).drew
        case eachK12hd12b =>
          refine ⟨?_, ?_, ?_, ?_, ?_, ?_, ?_, ?_, ?_, ?_, ?_, ?_, ?_, ?_, ?_, ?_, trivial⟩
          -- 0: slot 44 := move t4
          · intro w L f hC hLi hLd hLn hF
            obtain ⟨d4, _⟩ := hF
            have d4 : f 4 = .slice (some ⟨g, 0, none⟩) 2 cap := d4
            refine Step2.live rfl ?_
            exact relUpon_value (v := f 4) rfl (hC) (Below.refl _ _) d4
          -- 1: slot 45 := call { builtin len, args := #[t44], argTypes := #[96] }
          · intro w L f hC hLi hLd hLn hF
            obtain ⟨d44, _⟩ := hF
            have d44 : f 44 = .slice (some ⟨g, 0, none⟩) 2 cap := d44
            refine Step2.live rfl ?_
            have ev : ∀ t, evalOf f (.tmp t) = f t := fun _ => rfl
            have ec : ∀ c, evalOf f (.const c) = c := fun _ => rfl
            have ef : ∀ g, evalOf f (.func g) = .func (.func g) #[] #[] := fun _ => rfl
            refine relUpon_value ?_ hC (Below.refl _ _) rfl
            go_simp
          -- 2: slot 46 := binOp BinOp.eql 3 t45 (const (2:i64)) 3
          · intro w L f hC hLi hLd hLn hF
            obtain ⟨d45, _⟩ := hF
            have d45 : f 45 = .int .i64 2 := d45
            refine Step2.live rfl ?_
            have ev : ∀ t, evalOf f (.tmp t) = f t := fun _ => rfl
            have ec : ∀ c, evalOf f (.const c) = c := fun _ => rfl
            have ef : ∀ g, evalOf f (.func g) = .func (.func g) #[] #[] := fun _ => rfl
            refine relUpon_value ?_ hC (Below.refl _ _) rfl
            go_simp
          -- 3: slot 47 := move t46
          · intro w L f hC hLi hLd hLn hF
            obtain ⟨d46, _⟩ := hF
            have d46 : f 46 = .bool true := d46
            refine Step2.live rfl ?_
            exact relUpon_value (v := f 46) rfl (hC) (Below.refl _ _) d46
          -- 4: slot 48 := move t4
          · intro w L f hC hLi hLd hLn hF
            obtain ⟨d4, d47, _⟩ := hF
            have d4 : f 4 = .slice (some ⟨g, 0, none⟩) 2 cap := d4
            have d47 : f 47 = .bool true := d47
            refine Step2.live (show wantedBy _ (f 47) = true by rw [d47]; rfl) ?_
            exact relUpon_value (v := f 4) rfl (hC) (Below.refl _ _) d4
          -- 5: slot 49 := indexAddr 96 t48 (const (1:i64))
          · intro w L f hC hLi hLd hLn hF
            obtain ⟨d48, d47, _⟩ := hF
            have d48 : f 48 = .slice (some ⟨g, 0, none⟩) 2 cap := d48
            have d47 : f 47 = .bool true := d47
            refine Step2.live (show wantedBy _ (f 47) = true by rw [d47]; rfl) ?_
            have ev : ∀ t, evalOf f (.tmp t) = f t := fun _ => rfl
            have ec : ∀ c, evalOf f (.const c) = c := fun _ => rfl
            have ef : ∀ g, evalOf f (.func g) = .func (.func g) #[] #[] := fun _ => rfl
            refine relUpon_value ?_ hC (Below.refl _ _) rfl
            go_simp
          -- 6: slot 50 := fieldAddr 102 t49 0
          · intro w L f hC hLi hLd hLn hF
            obtain ⟨d49, d47, _⟩ := hF
            have d49 : f 49 = .pointer (some ⟨g, 5, none⟩) := d49
            have d47 : f 47 = .bool true := d47
            refine Step2.live (show wantedBy _ (f 47) = true by rw [d47]; rfl) ?_
            have ev : ∀ t, evalOf f (.tmp t) = f t := fun _ => rfl
            have ec : ∀ c, evalOf f (.const c) = c := fun _ => rfl
            have ef : ∀ g, evalOf f (.func g) = .func (.func g) #[] #[] := fun _ => rfl
            refine relUpon_value ?_ hC (Below.refl _ _) rfl
            go_simp
          -- 7: slot 51 := fieldAddr 100 t50 0
          · intro w L f hC hLi hLd hLn hF
            obtain ⟨d50, d47, _⟩ := hF
            have d50 : f 50 = .pointer (some ⟨g, 5, none⟩) := d50
            have d47 : f 47 = .bool true := d47
            refine Step2.live (show wantedBy _ (f 47) = true by rw [d47]; rfl) ?_
            have ev : ∀ t, evalOf f (.tmp t) = f t := fun _ => rfl
            have ec : ∀ c, evalOf f (.const c) = c := fun _ => rfl
            have ef : ∀ g, evalOf f (.func g) = .func (.func g) #[] #[] := fun _ => rfl
            refine relUpon_value ?_ hC (Below.refl _ _) rfl
            go_simp
          -- 8: slot 52 := load 59 t51
          · intro w L f hC hLi hLd hLn hF
            obtain ⟨d51, d47, _⟩ := hF
            have d51 : f 51 = .pointer (some ⟨g, 5, none⟩) := d51
            have d47 : f 47 = .bool true := d47
            refine Step2.live (show wantedBy _ (f 47) = true by rw [d47]; rfl) ?_
            have f0 := (hC.cell (p := ⟨g, 5, none⟩) hH.out.lt).trans hc5.out
            have ev : ∀ t, evalOf f (.tmp t) = f t := fun _ => rfl
            have ec : ∀ c, evalOf f (.const c) = c := fun _ => rfl
            have ef : ∀ g, evalOf f (.func g) = .func (.func g) #[] #[] := fun _ => rfl
            refine relUpon_value ?_ hC (Below.refl _ _) rfl
            go_simp
          -- 9: slot 53 := move t4
          · intro w L f hC hLi hLd hLn hF
            obtain ⟨d4, d47, _⟩ := hF
            have d4 : f 4 = .slice (some ⟨g, 0, none⟩) 2 cap := d4
            have d47 : f 47 = .bool true := d47
            refine Step2.live (show wantedBy _ (f 47) = true by rw [d47]; rfl) ?_
            exact relUpon_value (v := f 4) rfl (hC) (Below.refl _ _) d4
          -- 10: slot 54 := indexAddr 96 t53 (const (0:i64))
          · intro w L f hC hLi hLd hLn hF
            obtain ⟨d53, d47, _⟩ := hF
            have d53 : f 53 = .slice (some ⟨g, 0, none⟩) 2 cap := d53
            have d47 : f 47 = .bool true := d47
            refine Step2.live (show wantedBy _ (f 47) = true by rw [d47]; rfl) ?_
            have ev : ∀ t, evalOf f (.tmp t) = f t := fun _ => rfl
            have ec : ∀ c, evalOf f (.const c) = c := fun _ => rfl
            have ef : ∀ g, evalOf f (.func g) = .func (.func g) #[] #[] := fun _ => rfl
            refine relUpon_value ?_ hC (Below.refl _ _) rfl
            go_simp
          -- 11: slot 55 := fieldAddr 102 t54 0
          · intro w L f hC hLi hLd hLn hF
            obtain ⟨d54, d47, _⟩ := hF
            have d54 : f 54 = .pointer (some ⟨g, 0, none⟩) := d54
            have d47 : f 47 = .bool true := d47
            refine Step2.live (show wantedBy _ (f 47) = true by rw [d47]; rfl) ?_
            have ev : ∀ t, evalOf f (.tmp t) = f t := fun _ => rfl
            have ec : ∀ c, evalOf f (.const c) = c := fun _ => rfl
            have ef : ∀ g, evalOf f (.func g) = .func (.func g) #[] #[] := fun _ => rfl
            refine relUpon_value ?_ hC (Below.refl _ _) rfl
            go_simp
          -- 12: slot 56 := fieldAddr 100 t55 0
          · intro w L f hC hLi hLd hLn hF
            obtain ⟨d55, d47, _⟩ := hF
            have d55 : f 55 = .pointer (some ⟨g, 0, none⟩) := d55
            have d47 : f 47 = .bool true := d47
            refine Step2.live (show wantedBy _ (f 47) = true by rw [d47]; rfl) ?_
            have ev : ∀ t, evalOf f (.tmp t) = f t := fun _ => rfl
            have ec : ∀ c, evalOf f (.const c) = c := fun _ => rfl
            have ef : ∀ g, evalOf f (.func g) = .func (.func g) #[] #[] := fun _ => rfl
            refine relUpon_value ?_ hC (Below.refl _ _) rfl
            go_simp
          -- 13: slot 57 := load 59 t56
          · intro w L f hC hLi hLd hLn hF
            obtain ⟨d56, d47, _⟩ := hF
            have d56 : f 56 = .pointer (some ⟨g, 0, none⟩) := d56
            have d47 : f 47 = .bool true := d47
            refine Step2.live (show wantedBy _ (f 47) = true by rw [d47]; rfl) ?_
            have f0 := (hC.cell (p := ⟨g, 0, none⟩) hH.out.lt).trans hc0.out
            have ev : ∀ t, evalOf f (.tmp t) = f t := fun _ => rfl
            have ec : ∀ c, evalOf f (.const c) = c := fun _ => rfl
            have ef : ∀ g, evalOf f (.func g) = .func (.func g) #[] #[] := fun _ => rfl
            refine relUpon_value ?_ hC (Below.refl _ _) rfl
            go_simp
          -- 14: slot 58 := binOp BinOp.gtr 59 t52 t57 59
          · intro w L f hC hLi hLd hLn hF
            obtain ⟨d52, d57, d47, _⟩ := hF
            have d52 : f 52 = .int .u64 pb.1.serial := d52
            have d57 : f 57 = .int .u64 pa.1.serial := d57
            have d47 : f 47 = .bool true := d47
            refine Step2.live (show wantedBy _ (f 47) = true by rw [d47]; rfl) ?_
            have ev : ∀ t, evalOf f (.tmp t) = f t := fun _ => rfl
            have ec : ∀ c, evalOf f (.const c) = c := fun _ => rfl
            have ef : ∀ g, evalOf f (.func g) = .func (.func g) #[] #[] := fun _ => rfl
            refine relUpon_value ?_ hC (Below.refl _ _) rfl
            go_simp
            exact hgt.out
          -- 15: slot 59 := pick t47 t58 (const (Value.bool false))
          · intro w L f hC hLi hLd hLn hF
            obtain ⟨d47, d58, _⟩ := hF
            have d47 : f 47 = .bool true := d47
            have d58 : f 58 = .bool true := d58
            refine Step2.live rfl ?_
            have ev : ∀ t, evalOf f (.tmp t) = f t := fun _ => rfl
            have ec : ∀ c, evalOf f (.const c) = c := fun _ => rfl
            have ef : ∀ g, evalOf f (.func g) = .func (.func g) #[] #[] := fun _ => rfl
            refine relUpon_value ?_ hC (Below.refl _ _) rfl
            go_simp
        intro x w' hC hV

        have e59 := hV 15 _ rfl rfl
        clear hV
        simp only [framed]
        rw [e59]
        clear e59
        have hrv := reverse_any w' g cap pa pb rest (hH.out.below hC hH.out.lt)
        have hC' := Lib.hid hC
        clear hC
        go_wp2_with fail
        refine hrv.mono ?_
        clear hrv
        rintro e w3 ⟨rfl, hH3, hW3⟩
        have hfin : Hid (RowAt w3 (some ⟨g, 0, none⟩) (cellsP [pb, pa]) ∧ Below w.heap.size w w3) := Lib.hid (by
          refine ⟨fun _ => ⟨g, 0, rfl, fun j u hu => ?_⟩, (hB.out.trans (hC'.out.mono hB.out.size)).trans ?_⟩
          · rw [Nat.zero_add, hH3.cell]
            rw [show (plC pb ++ (plC pa ++ rest)).toArray[j]? = (plC pb ++ (plC pa ++ rest))[j]? from by simp, ← List.append_assoc, List.getElem?_append_left (by
              rcases Nat.lt_or_ge j (plC pb ++ plC pa).length with h | h
              · exact h
              · rw [List.getElem?_eq_none (by simpa [cellsP] using h)] at hu; cases hu)]
            simpa [cellsP] using hu
          · exact hW3.below (Nat.le_trans hB.out.size hC'.out.size) (fun k hk => by simp at hk; have := hgB'.out; omega))
        clear hH3 hW3
        go_wp2_with fail
        go_ret2
        rw [hhd2.out]
        exact ⟨⟨_, _, rfl, hfin.out.1, hnc⟩, hfin.out.2⟩
      · have hgt : Hid (pb.1.serial ≤ pa.1.serial) := Lib.hid (by omega)
        have hhd2 : Hid (headersF q.last q.n q.size = [pa, pb]) := Lib.hid (by rw [hhd.out]; exact if_neg hlt)
        clear hlt hhd
        go_wp2_with fail
        -- THE REGION THAT DRAWS ITS ORDER, BY ONE LEXICAL WALK OVER GENERIC VALUES (written by relgen.py)
        refine wp_region_tab ((fun _ v => v = .slice (some ⟨g, 0, none⟩) 2 cap) ::
          (fun _ v => v = .int .i64 2) ::
          (fun _ v => v = .bool true) ::
          (fun _ v => v = .bool true) ::
          (fun _ v => v = .slice (some ⟨g, 0, none⟩) 2 cap) ::
          (fun _ v => v = .pointer (some ⟨g, 5, none⟩)) ::
          (fun _ v => v = .pointer (some ⟨g, 5, none⟩)) ::
          (fun _ v => v = .pointer (some ⟨g, 5, none⟩)) ::
          (fun _ v => v = .int .u64 pb.1.serial) ::
          (fun _ v => v = .slice (some ⟨g, 0, none⟩) 2 cap) ::
          (fun _ v => v = .pointer (some ⟨g, 0, none⟩)) ::
          (fun _ v => v = .pointer (some ⟨g, 0, none⟩)) ::
          (fun _ v => v = .pointer (some ⟨g, 0, none⟩)) ::
          (fun _ v => v = .int .u64 pa.1.serial) ::
          (fun _ v => v = .bool false) ::
          (fun _ v => v = .bool false) :: [])
          (⟨[(4, none)], 0, []⟩ :: ⟨[(44, some 0)], 0, []⟩ :: ⟨[(45, some 1)], 0, []⟩ :: ⟨[(46, some 2)], 0, []⟩ :: ⟨[(4, none), (47, some 3)], 47, []⟩ :: ⟨[(48, some 4), (47, some 3)], 47, []⟩ :: ⟨[(49, some 5), (47, some 3)], 47, []⟩ :: ⟨[(50, some 6), (47, some 3)], 47, []⟩ :: ⟨[(51, some 7), (47, some 3)], 47, []⟩ :: ⟨[(4, none), (47, some 3)], 47, []⟩ :: ⟨[(53, some 9), (47, some 3)], 47, []⟩ :: ⟨[(54, some 10), (47, some 3)], 47, []⟩ :: ⟨[(55, some 11), (47, some 3)], 47, []⟩ :: ⟨[(56, some 12), (47, some 3)], 47, []⟩ :: ⟨[(52, some 8), (57, some 13), (47, some 3)], 47, []⟩ :: ⟨[(47, some 3), (58, some 14)], 0, []⟩ :: [])
          (none :: none :: none :: none :: none :: none :: none :: none :: none :: none :: none :: none :: none :: none :: none :: none :: none :: none :: none :: none :: none :: none :: none :: none :: none :: none :: none :: none :: none :: none :: none :: none :: none :: none :: none :: none :: none :: none :: none :: none :: none :: none :: none :: none :: some 0 :: some 1 :: some 2 :: some 3 :: some 4 :: some 5 :: some 6 :: some 7 :: some 8 :: some 9 :: some 10 :: some 11 :: some 12 :: some 13 :: some 14 :: some 15 :: [])
          (fun _ w' => Below wr.heap.size wr w') (fun _ w w' => Below w.heap.size w w') ?mixK12hd12c ?okK12hd12c ?tabK12hd12c ?frK12hd12c ?inK12hd12c ?keptK12hd12c ?startK12hd12c ?eachK12hd12c ?finK12hd12c
        case mixK12hd12c => kernel_rfl
        case okK12hd12c => kernel_rfl
        case tabK12hd12c => kernel_rfl
        case frK12hd12c => kernel_rfl
        case inK12hd12c => rfl
        case keptK12hd12c => exact ⟨fun _ _ _ _ _ _ _ h => h, fun _ _ _ _ _ _ _ h => h, fun _ _ _ _ _ _ _ h => h, fun _ _ _ _ _ _ _ h => h, fun _ _ _ _ _ _ _ h => h, fun _ _ _ _ _ _ _ h => h, fun _ _ _ _ _ _ _ h => h, fun _ _ _ _ _ _ _ h => h, fun _ _ _ _ _ _ _ h => h, fun _ _ _ _ _ _ _ h => h, fun _ _ _ _ _ _ _ h => h, fun _ _ _ _ _ _ _ h => h, fun _ _ _ _ _ _ _ h => h, fun _ _ _ _ _ _ _ h => h, fun _ _ _ _ _ _ _ h => h, fun _ _ _ _ _ _ _ h => h, trivial⟩
        case startK12hd12c => exact (Below.refl _ _).drew
        case eachK12hd12c =>
          refine ⟨?_, ?_, ?_, ?_, ?_, ?_, ?_, ?_, ?_, ?_, ?_, ?_, ?_, ?_, ?_, ?_, trivial⟩
          -- 0: slot 44 := move t4
          · intro w L f hC hLi hLd hLn hF
            obtain ⟨d4, _⟩ := hF
            have d4 : f 4 = .slice (some ⟨g, 0, none⟩) 2 cap := d4
            refine Step2.live rfl ?_
            exact relUpon_value (v := f 4) rfl (hC) (Below.refl _ _) d4
          -- 1: slot 45 := call { builtin len, args := #[t44], argTypes := #[96] }
          · intro w L f hC hLi hLd hLn hF
            obtain ⟨d44, _⟩ := hF
            have d44 : f 44 = .slice (some ⟨g, 0, none⟩) 2 cap := d44
            refine Step2.live rfl ?_
            have ev : ∀ t, evalOf f (.tmp t) = f t := fun _ => rfl
            have ec : ∀ c, evalOf f (.const c) = c := fun _ => rfl
            have ef : ∀ g, evalOf f (.func g) = .func (.func g) #[] #[] := fun _ => rfl
            refine relUpon_value ?_ hC (Below.refl _ _) rfl
            go_simp
          -- 2: slot 46 := binOp BinOp.eql 3 t45 (const (2:i64)) 3
          · intro w L f hC hLi hLd hLn hF
            obtain ⟨d45, _⟩ := hF
            have d45 : f 45 = .int .i64 2 := d45
            refine Step2.live rfl ?_
            have ev : ∀ t, evalOf f (.tmp t) = f t := fun _ => rfl
            have ec : ∀ c, evalOf f (.const c) = c := fun _ => rfl
            have ef : ∀ g, evalOf f (.func g) = .func (.func g) #[] #[] := fun _ => rfl
            refine relUpon_value ?_ hC (Below.refl _ _) rfl
            go_simp
          -- 3: slot 47 := move t46
          · intro w L f hC hLi hLd hLn hF
            obtain ⟨d46, _⟩ := hF
            have d46 : f 46 = .bool true := d46
            refine Step2.live rfl ?_
            exact relUpon_value (v := f 46) rfl (hC) (Below.refl _ _) d46
          -- 4: slot 48 := move t4
          · intro w L f hC hLi hLd hLn hF
            obtain ⟨d4, d47, _⟩ := hF
            have d4 : f 4 = .slice (some ⟨g, 0, none⟩) 2 cap := d4
            have d47 : f 47 = .bool true := d47
            refine Step2.live (show wantedBy _ (f 47) = true by rw [d47]; rfl) ?_
            exact relUpon_value (v := f 4) rfl (hC) (Below.refl _ _) d4
          -- 5: slot 49 := indexAddr 96 t48 (const (1:i64))
          · intro w L f hC hLi hLd hLn hF
            obtain ⟨d48, d47, _⟩ := hF
            have d48 : f 48 = .slice (some ⟨g, 0, none⟩) 2 cap := d48
            have d47 : f 47 = .bool true := d47
            refine Step2.live (show wantedBy _ (f 47) = true by rw [d47]; rfl) ?_
            have ev : ∀ t, evalOf f (.tmp t) = f t := fun _ => rfl
            have ec : ∀ c, evalOf f (.const c) = c := fun _ => rfl
            have ef : ∀ g, evalOf f (.func g) = .func (.func g) #[] #[] := fun _ => rfl
            refine relUpon_value ?_ hC (Below.refl _ _) rfl
            go_simp
          -- 6: slot 50 := fieldAddr 102 t49 0
          · intro w L f hC hLi hLd hLn hF
            obtain ⟨d49, d47, _⟩ := hF
            have d49 : f 49 = .pointer (some ⟨g, 5, none⟩) := d49
            have d47 : f 47 = .bool true := d47
            refine Step2.live (show wantedBy _ (f 47) = true by rw [d47]; rfl) ?_
            have ev : ∀ t, evalOf f (.tmp t) = f t := fun _ => rfl
            have ec : ∀ c, evalOf f (.const c) = c := fun _ => rfl
            have ef : ∀ g, evalOf f (.func g) = .func (.func g) #[] #[] := fun _ => rfl
            refine relUpon_value ?_ hC (Below.refl _ _) rfl
            go_simp
          -- 7: slot 51 := fieldAddr 100 t50 0
          · intro w L f hC hLi hLd hLn hF
            obtain ⟨d50, d47, _⟩ := hF
            have d50 : f 50 = .pointer (some ⟨g, 5, none⟩) := d50
            have d47 : f 47 = .bool true := d47
            refine Step2.live (show wantedBy _ (f 47) = true by rw [d47]; rfl) ?_
            have ev : ∀ t, evalOf f (.tmp t) = f t := fun _ => rfl
            have ec : ∀ c, evalOf f (.const c) = c := fun _ => rfl
            have ef : ∀ g, evalOf f (.func g) = .func (.func g) #[] #[] := fun _ => rfl
            refine relUpon_value ?_ hC (Below.refl _ _) rfl
            go_simp
          -- 8: slot 52 := load 59 t51
          · intro w L f hC hLi hLd hLn hF
            obtain ⟨d51, d47, _⟩ := hF
            have d51 : f 51 = .pointer (some ⟨g, 5, none⟩) := d51
            have d47 : f 47 = .bool true := d47
            refine Step2.live (show wantedBy _ (f 47) = true by rw [d47]; rfl) ?_
            have f0 := (hC.cell (p := ⟨g, 5, none⟩) hH.out.lt).trans hc5.out
            have ev : ∀ t, evalOf f (.tmp t) = f t := fun _ => rfl
            have ec : ∀ c, evalOf f (.const c) = c := fun _ => rfl
            have ef : ∀ g, evalOf f (.func g) = .func (.func g) #[] #[] := fun _ => rfl
            refine relUpon_value ?_ hC (Below.refl _ _) rfl
            go_simp
          -- 9: slot 53 := move t4
          · intro w L f hC hLi hLd hLn hF
            obtain ⟨d4, d47, _⟩ := hF
            have d4 : f 4 = .slice (some ⟨g, 0, none⟩) 2 cap := d4
            have d47 : f 47 = .bool true := d47
            refine Step2.live (show wantedBy _ (f 47) = true by rw [d47]; rfl) ?_
            exact relUpon_value (v := f 4) rfl (hC) (Below.refl _ _) d4
          -- 10: slot 54 := indexAddr 96 t53 (const (0:i64))
          · intro w L f hC hLi hLd hLn hF
            obtain ⟨d53, d47, _⟩ := hF
            have d53 : f 53 = .slice (some ⟨g, 0, none⟩) 2 cap := d53
            have d47 : f 47 = .bool true := d47
            refine Step2.live (show wantedBy _ (f 47) = true by rw [d47]; rfl) ?_
            have ev : ∀ t, evalOf f (.tmp t) = f t := fun _ => rfl
            have ec : ∀ c, evalOf f (.const c) = c := fun _ => rfl
            have ef : ∀ g, evalOf f (.func g) = .func (.func g) #[] #[] := fun _ => rfl
            refine relUpon_value ?_ hC (Below.refl _ _) rfl
            go_simp
          -- 11: slot 55 := fieldAddr 102 t54 0
          · intro w L f hC hLi hLd hLn hF
            obtain ⟨d54, d47, _⟩ := hF
            have d54 : f 54 = .pointer (some ⟨g, 0, none⟩) := d54
            have d47 : f 47 = .bool true := d47
            refine Step2.live (show wantedBy _ (f 47) = true by rw [d47]; rfl) ?_
            have ev : ∀ t, evalOf f (.tmp t) = f t := fun _ => rfl
            have ec : ∀ c, evalOf f (.const c) = c := fun _ => rfl
            have ef : ∀ g, evalOf f (.func g) = .func (.func g) #[] #[] := fun _ => rfl
            refine relUpon_value ?_ hC (Below.refl _ _) rfl
            go_simp
          -- 12: slot 56 := fieldAddr 100 t55 0
          · intro w L f hC hLi hLd hLn hF
            obtain ⟨d55, d47, _⟩ := hF
            have d55 : f 55 = .pointer (some ⟨g, 0, none⟩) := d55
            have d47 : f 47 = .bool true := d47
            refine Step2.live (show wantedBy _ (f 47) = true by rw [d47]; rfl) ?_
            have ev : ∀ t, evalOf f (.tmp t) = f t := fun _ => rfl
            have ec : ∀ c, evalOf f (.const c) = c := fun _ => rfl
            have ef : ∀ g, evalOf f (.func g) = .func (.func g) #[] #[] := fun _ => rfl
            refine relUpon_value ?_ hC (Below.refl _ _) rfl
            go_simp
          -- 13: slot 57 := load 59 t56
          · intro w L f hC hLi hLd hLn hF
            obtain ⟨d56, d47, _⟩ := hF
            have d56 : f 56 = .pointer (some ⟨g, 0, none⟩) := d56
            have d47 : f 47 = .bool true := d47
            refine Step2.live (show wantedBy _ (f 47) = true by rw [d47]; rfl) ?_
            have f0 := (hC.cell (p := ⟨g, 0, none⟩) hH.out.lt).trans hc0.out
            have ev : ∀ t, evalOf f (.tmp t) = f t := fun _ => rfl
            have ec : ∀ c, evalOf f (.const c) = c := fun _ => rfl
            have ef : ∀ g, evalOf f (.func g) = .func (.func g) #[] #[] := fun _ => rfl
            refine relUpon_value ?_ hC (Below.refl _ _) rfl
            go_simp
          -- 14: slot 58 := binOp BinOp.gtr 59 t52 t57 59
          · intro w L f hC hLi hLd hLn hF
            obtain ⟨d52, d57, d47, _⟩ := hF
            have d52 : f 52 = .int .u64 pb.1.serial := d52
            have d57 : f 57 = .int .u64 pa.1.serial := d57
            have d47 : f 47 = .bool true := d47
            refine Step2.live (show wantedBy _ (f 47) = true by rw [d47]; rfl) ?_
            have ev : ∀ t, evalOf f (.tmp t) = f t := fun _ => rfl
            have ec : ∀ c, evalOf f (.const c) = c := fun _ => rfl
            have ef : ∀ g, evalOf f (.func g) = .func (.func g) #[] #[] := fun _ => rfl
            refine relUpon_value ?_ hC (Below.refl _ _) rfl
            go_simp
            exact hgt.out
          -- 15: slot 59 := pick t47 t58 (const (Value.bool false))
          · intro w L f hC hLi hLd hLn hF
            obtain ⟨d47, d58, _⟩ := hF
            have d47 : f 47 = .bool true := d47
            have d58 : f 58 = .bool false := d58
            refine Step2.live rfl ?_
            have ev : ∀ t, evalOf f (.tmp t) = f t := fun _ => rfl
            have ec : ∀ c, evalOf f (.const c) = c := fun _ => rfl
            have ef : ∀ g, evalOf f (.func g) = .func (.func g) #[] #[] := fun _ => rfl
            refine relUpon_value ?_ hC (Below.refl _ _) rfl
            go_simp
        intro x w' hC hV

        have e59 := hV 15 _ rfl rfl
        clear hV
        simp only [framed]
        rw [e59]
        clear e59
        have hfin : Hid (RowAt w' (some ⟨g, 0, none⟩) (cellsP [pa, pb]) ∧ Below w.heap.size w w') := Lib.hid ⟨hrow.out.below hC, hB.out.trans (hC.mono hB.out.size)⟩
        clear hC
        go_wp2_with fail
        go_ret2
        rw [hhd2.out]
        exact ⟨⟨_, _, rfl, hfin.out.1, hnc⟩, hfin.out.2⟩
    · obtain ⟨A, cap, rfl, hrow, hnc⟩ := own_rowS hO.out
      obtain ⟨N, hN⟩ : ∃ N, N = F.length := ⟨_, rfl⟩
      have hhd2 : Hid (headersF q.last q.n q.size = F) := Lib.hid (by
        rw [hhd.out]
        match F, hl with
        | [], _ => rfl
        | [a], _ => rfl
        | [a, b], h => exact absurd rfl h
        | a :: b :: c :: r, _ => rfl)
      rw [← hN] at hl hnc
      rw [← hN]
      have hN' := Lib.hid hN
      have hrow' := Lib.hid hrow
      have hN2 : Hid (¬ (N : Int) = 2) := Lib.hid (by omega)
      clear hN hrow hO hhd hk hl2
      go_wp2_with fail
      -- THE REGION THAT DRAWS ITS ORDER, BY ONE LEXICAL WALK OVER GENERIC VALUES (written by relgen.py)
      refine wp_region_tab ((fun _ v => v = .slice A N cap) ::
        (fun _ v => v = .int .i64 N) ::
        (fun _ v => v = .bool false) ::
        (fun _ v => v = .bool false) ::
        (fun _ _ => True) ::
        (fun _ _ => True) ::
        (fun _ _ => True) ::
        (fun _ _ => True) ::
        (fun _ _ => True) ::
        (fun _ _ => True) ::
        (fun _ _ => True) ::
        (fun _ _ => True) ::
        (fun _ _ => True) ::
        (fun _ _ => True) ::
        (fun _ _ => True) ::
        (fun _ v => v = .bool false) :: [])
        (⟨[(4, none)], 0, []⟩ :: ⟨[(44, some 0)], 0, []⟩ :: ⟨[(45, some 1)], 0, []⟩ :: ⟨[(46, some 2)], 0, []⟩ :: ⟨[(4, none), (47, some 3)], 47, []⟩ :: ⟨[(48, some 4), (47, some 3)], 47, []⟩ :: ⟨[(49, some 5), (47, some 3)], 47, []⟩ :: ⟨[(50, some 6), (47, some 3)], 47, []⟩ :: ⟨[(51, some 7), (47, some 3)], 47, []⟩ :: ⟨[(4, none), (47, some 3)], 47, []⟩ :: ⟨[(53, some 9), (47, some 3)], 47, []⟩ :: ⟨[(54, some 10), (47, some 3)], 47, []⟩ :: ⟨[(55, some 11), (47, some 3)], 47, []⟩ :: ⟨[(56, some 12), (47, some 3)], 47, []⟩ :: ⟨[(52, some 8), (57, some 13), (47, some 3)], 47, []⟩ :: ⟨[(47, some 3), (58, some 14)], 0, []⟩ :: [])
        (none :: none :: none :: none :: none :: none :: none :: none :: none :: none :: none :: none :: none :: none :: none :: none :: none :: none :: none :: none :: none :: none :: none :: none :: none :: none :: none :: none :: none :: none :: none :: none :: none :: none :: none :: none :: none :: none :: none :: none :: none :: none :: none :: none :: some 0 :: some 1 :: some 2 :: some 3 :: some 4 :: some 5 :: some 6 :: some 7 :: some 8 :: some 9 :: some 10 :: some 11 :: some 12 :: some 13 :: some 14 :: some 15 :: [])
        (fun _ w' => Below wr.heap.size wr w') (fun _ w w' => Below w.heap.size w w') ?mixK12hd12a ?okK12hd12a ?tabK12hd12a ?frK12hd12a ?inK12hd12a ?keptK12hd12a ?startK12hd12a ?eachK12hd12a ?finK12hd12a
      case mixK12hd12a => kernel_rfl
      case okK12hd12a => kernel_rfl
      case tabK12hd12a => kernel_rfl
      case frK12hd12a => kernel_rfl
      case inK12hd12a => rfl
      case keptK12hd12a => exact ⟨fun _ _ _ _ _ _ _ h => h, fun _ _ _ _ _ _ _ h => h, fun _ _ _ _ _ _ _ h => h, fun _ _ _ _ _ _ _ h => h, fun _ _ _ => fun _ _ _ _ h => h, fun _ _ _ => fun _ _ _ _ h => h, fun _ _ _ => fun _ _ _ _ h => h, fun _ _ _ => fun _ _ _ _ h => h, fun _ _ _ => fun _ _ _ _ h => h, fun _ _ _ => fun _ _ _ _ h => h, fun _ _ _ => fun _ _ _ _ h => h, fun _ _ _ => fun _ _ _ _ h => h, fun _ _ _ => fun _ _ _ _ h => h, fun _ _ _ => fun _ _ _ _ h => h, fun _ _ _ => fun _ _ _ _ h => h, fun _ _ _ _ _ _ _ h => h, trivial⟩
      case startK12hd12a => exact (Below.refl _ _).drew
      case eachK12hd12a =>
        refine ⟨?_, ?_, ?_, ?_, ?_, ?_, ?_, ?_, ?_, ?_, ?_, ?_, ?_, ?_, ?_, ?_, trivial⟩
        -- 0: slot 44 := move t4
        · intro w L f hC hLi hLd hLn hF
          obtain ⟨d4, _⟩ := hF
          have d4 : f 4 = .slice A N cap := d4
          refine Step2.live rfl ?_
          exact relUpon_value (v := f 4) rfl (hC) (Below.refl _ _) d4
        -- 1: slot 45 := call { builtin len, args := #[t44], argTypes := #[96] }
        · intro w L f hC hLi hLd hLn hF
          obtain ⟨d44, _⟩ := hF
          have d44 : f 44 = .slice A N cap := d44
          refine Step2.live rfl ?_
          have ev : ∀ t, evalOf f (.tmp t) = f t := fun _ => rfl
          have ec : ∀ c, evalOf f (.const c) = c := fun _ => rfl
          have ef : ∀ g, evalOf f (.func g) = .func (.func g) #[] #[] := fun _ => rfl
          refine relUpon_value ?_ hC (Below.refl _ _) rfl
          go_simp
        -- 2: slot 46 := binOp BinOp.eql 3 t45 (const (2:i64)) 3
        · intro w L f hC hLi hLd hLn hF
          obtain ⟨d45, _⟩ := hF
          have d45 : f 45 = .int .i64 N := d45
          refine Step2.live rfl ?_
          have ev : ∀ t, evalOf f (.tmp t) = f t := fun _ => rfl
          have ec : ∀ c, evalOf f (.const c) = c := fun _ => rfl
          have ef : ∀ g, evalOf f (.func g) = .func (.func g) #[] #[] := fun _ => rfl
          refine relUpon_value ?_ hC (Below.refl _ _) rfl
          go_simp
          exact hN2.out
        -- 3: slot 47 := move t46
        · intro w L f hC hLi hLd hLn hF
          obtain ⟨d46, _⟩ := hF
          have d46 : f 46 = .bool false := d46
          refine Step2.live rfl ?_
          exact relUpon_value (v := f 46) rfl (hC) (Below.refl _ _) d46
        -- 4: slot 48 := move t4
        · intro w L f hC hLi hLd hLn hF
          obtain ⟨d4, d47, _⟩ := hF
          have d4 : f 4 = .slice A N cap := d4
          have d47 : f 47 = .bool false := d47
          refine Step2.dead (show wantedBy _ (f 47) = false by rw [d47]; rfl) (hC) ?_
          trivial
        -- 5: slot 49 := indexAddr 96 t48 (const (1:i64))
        · intro w L f hC hLi hLd hLn hF
          obtain ⟨d48, d47, _⟩ := hF
          have d47 : f 47 = .bool false := d47
          refine Step2.dead (show wantedBy _ (f 47) = false by rw [d47]; rfl) (hC) ?_
          trivial
        -- 6: slot 50 := fieldAddr 102 t49 0
        · intro w L f hC hLi hLd hLn hF
          obtain ⟨d49, d47, _⟩ := hF
          have d47 : f 47 = .bool false := d47
          refine Step2.dead (show wantedBy _ (f 47) = false by rw [d47]; rfl) (hC) ?_
          trivial
        -- 7: slot 51 := fieldAddr 100 t50 0
        · intro w L f hC hLi hLd hLn hF
          obtain ⟨d50, d47, _⟩ := hF
          have d47 : f 47 = .bool false := d47
          refine Step2.dead (show wantedBy _ (f 47) = false by rw [d47]; rfl) (hC) ?_
          trivial
        -- 8: slot 52 := load 59 t51
        · intro w L f hC hLi hLd hLn hF
          obtain ⟨d51, d47, _⟩ := hF
          have d47 : f 47 = .bool false := d47
          refine Step2.dead (show wantedBy _ (f 47) = false by rw [d47]; rfl) (hC) ?_
          trivial
        -- 9: slot 53 := move t4
        · intro w L f hC hLi hLd hLn hF
          obtain ⟨d4, d47, _⟩ := hF
          have d4 : f 4 = .slice A N cap := d4
          have d47 : f 47 = .bool false := d47
          refine Step2.dead (show wantedBy _ (f 47) = false by rw [d47]; rfl) (hC) ?_
          trivial
        -- 10: slot 54 := indexAddr 96 t53 (const (0:i64))
        · intro w L f hC hLi hLd hLn hF
          obtain ⟨d53, d47, _⟩ := hF
          have d47 : f 47 = .bool false := d47
          refine Step2.dead (show wantedBy _ (f 47) = false by rw [d47]; rfl) (hC) ?_
          trivial
        -- 11: slot 55 := fieldAddr 102 t54 0
        · intro w L f hC hLi hLd hLn hF
          obtain ⟨d54, d47, _⟩ := hF
          have d47 : f 47 = .bool false := d47
          refine Step2.dead (show wantedBy _ (f 47) = false by rw [d47]; rfl) (hC) ?_
          trivial
        -- 12: slot 56 := fieldAddr 100 t55 0
        · intro w L f hC hLi hLd hLn hF
          obtain ⟨d55, d47, _⟩ := hF
          have d47 : f 47 = .bool false := d47
          refine Step2.dead (show wantedBy _ (f 47) = false by rw [d47]; rfl) (hC) ?_
          trivial
        -- 13: slot 57 := load 59 t56
        · intro w L f hC hLi hLd hLn hF
          obtain ⟨d56, d47, _⟩ := hF
          have d47 : f 47 = .bool false := d47
          refine Step2.dead (show wantedBy _ (f 47) = false by rw [d47]; rfl) (hC) ?_
          trivial
        -- 14: slot 58 := binOp BinOp.gtr 59 t52 t57 59
        · intro w L f hC hLi hLd hLn hF
          obtain ⟨d52, d57, d47, _⟩ := hF
          have d47 : f 47 = .bool false := d47
          refine Step2.dead (show wantedBy _ (f 47) = false by rw [d47]; rfl) (hC) ?_
          trivial
        -- 15: slot 59 := pick t47 t58 (const (Value.bool false))
        · intro w L f hC hLi hLd hLn hF
          obtain ⟨d47, d58, _⟩ := hF
          have d47 : f 47 = .bool false := d47
          refine Step2.live rfl ?_
          have ev : ∀ t, evalOf f (.tmp t) = f t := fun _ => rfl
          have ec : ∀ c, evalOf f (.const c) = c := fun _ => rfl
          have ef : ∀ g, evalOf f (.func g) = .func (.func g) #[] #[] := fun _ => rfl
          refine relUpon_value ?_ hC (Below.refl _ _) rfl
          go_simp
      intro x w' hC hV

      have e59 := hV 15 _ rfl rfl
      clear hV
      simp only [framed]
      rw [e59]
      clear e59
      have hfin : Hid (RowAt w' A (cellsP F) ∧ Below w.heap.size w w') := Lib.hid ⟨hrow'.out.below hC, hB.out.trans (hC.mono hB.out.size)⟩
      clear hC
      go_wp2_with fail
      go_ret2
      rw [hhd2.out, ← hN'.out]
      exact ⟨⟨_, _, rfl, hfin.out.1, hnc⟩, hfin.out.2⟩
  · have hlt : (k : Int) < 2 := by omega
    have hkw : IntKind.i64.wrap ((k : Int) + 1) = ((k + 1 : Nat) : Int) := by rw [IntWalk.i64_in _ (by omega)]; omega
    have hDr := Lib.hid (hD.out.below hB.out)
    have hrd := read_ok wr q hDr.out hdd.out (k : Int) (by omega)
    have hlw : Hid ((q.last k).length = q.size) := Lib.hid (hD.out.last_len _)
    go_wp2_with fail
    refine hrd.mono ?_
    clear hrd
    rintro e w2 ⟨⟨gb, cb, rfl, hbuf⟩, hb2⟩
    have hfk : Hid (foundF q.last q.n q.size (k + 1) = foundF q.last q.n q.size k ++ (match parseF (q.last k) q.n q.size with | some h => [(h, k)] | none => [])) := Lib.hid rfl
    obtain ⟨b, hbe⟩ : ∃ x, x = q.last k := ⟨_, rfl⟩
    rw [← hbe] at hbuf hlw hfk
    have hcb : q.size ≤ cb := by
      obtain ⟨_, _, _, h3, _⟩ := hbuf.parts
      rw [hlw.out] at h3
      exact h3
    have hbr := Lib.hid hbuf.rowAt
    have hO2 := Lib.hid (own_below hO.out hb2)
    have hB2 := Lib.hid (hB.out.trans (hb2.mono hB.out.size))
    have hD1 := Lib.hid (hDr.out.below hb2)
    have hbl := hlw
    clear hbuf hb2 hbe hlw hO hB hDr
    obtain ⟨wr, hwr⟩ : ∃ x, x = w2 := ⟨_, rfl⟩
    rw [← hwr] at hbr hO2 hB2 hD1 ⊢
    clear hwr
    go_wp2_with fail
    -- THE REGION THAT DRAWS ITS ORDER, BY ONE LEXICAL WALK OVER GENERIC VALUES (written by relgen.py)
    refine wp_region_tabG ((fun _ _ v => v = .slice (some ⟨gb, 0, none⟩) q.size cb) ::
      (fun _ _ v => v = .pointer (some ⟨q.g, 0, none⟩)) ::
      (fun _ _ v => v = .pointer (some ⟨q.g, 0, none⟩)) ::
      (fun _ _ v => v = .pointer (some ⟨q.g, 0, none⟩)) ::
      (fun _ _ v => v = .int .i64 q.n) ::
      (fun _ _ v => v = .pointer (some ⟨q.g, 0, none⟩)) ::
      (fun _ _ v => v = .pointer (some ⟨q.g, 0, none⟩)) ::
      (fun _ _ v => v = .pointer (some ⟨q.g, 0, none⟩)) ::
      (fun _ _ v => v = .int .i64 q.size) ::
      (fun _ _ v => v = .agg #[.int .i64 q.n, .int .i64 q.size]) ::
      (fun L (W : World × Option Nat) v => ∃ hx : Hdr, v = .tuple #[.agg hx.cells, .bool (parseF b q.n q.size).isSome] ∧ ∀ x, parseF b q.n q.size = some x → x = hx) ::
      (fun L (W : World × Option Nat) v => ∃ hx : Hdr, v = .tuple #[.agg hx.cells, .bool (parseF b q.n q.size).isSome] ∧ ∀ x, parseF b q.n q.size = some x → x = hx) ::
      (fun L (W : World × Option Nat) v => ∃ hx : Hdr, v = .agg hx.cells ∧ ∀ x, parseF b q.n q.size = some x → x = hx) ::
      (fun _ _ v => v = .bool (parseF b q.n q.size).isSome) ::
      (fun L (W : World × Option Nat) v => ∃ g, W.2 = some g ∧ v = .pointer (some ⟨g, 0, none⟩)) ::
      (fun _ _ _ => True) ::
      (fun _ _ v => v = .bool (parseF b q.n q.size).isSome) :: [])
      (⟨[(6, none)], 0, []⟩ :: ⟨[(0, none)], 0, []⟩ :: ⟨[(24, some 1)], 0, []⟩ :: ⟨[(25, some 2)], 0, []⟩ :: ⟨[(26, some 3)], 0, []⟩ :: ⟨[(0, none)], 0, []⟩ :: ⟨[(28, some 5)], 0, []⟩ :: ⟨[(29, some 6)], 0, []⟩ :: ⟨[(30, some 7)], 0, []⟩ :: ⟨[(27, some 4), (31, some 8)], 0, []⟩ :: ⟨[(23, some 0), (32, some 9)], 0, []⟩ :: ⟨[(33, some 10)], 0, []⟩ :: ⟨[(22, some 11)], 0, []⟩ :: ⟨[(22, some 11)], 0, []⟩ :: ⟨[], 0, []⟩ :: ⟨[(8, some 14), (34, some 12)], 0, []⟩ :: ⟨[(35, some 13)], 0, []⟩ :: [])
      (none :: none :: none :: none :: none :: none :: none :: none :: some 14 :: some 16 :: none :: none :: none :: none :: none :: none :: none :: none :: none :: none :: none :: none :: some 11 :: some 0 :: some 1 :: some 2 :: some 3 :: some 4 :: some 5 :: some 6 :: some 7 :: some 8 :: some 9 :: some 10 :: some 12 :: some 13 :: [])
      (fun L (W : World × Option Nat) => CHd 14 15 wr (fun hx => ∀ x, parseF b q.n q.size = some x → x = hx) L W) (fun i (W W' : World × Option Nat) => GHd 14 i W W') ?mixK8hd8 ?okK8hd8 ?tabK8hd8 ?frK8hd8 ?inK8hd8 ?keptK8hd8 (none : Option Nat) ?startK8hd8 ?eachK8hd8 ?finK8hd8
    case mixK8hd8 => kernel_rfl
    case okK8hd8 => kernel_rfl
    case tabK8hd8 => kernel_rfl
    case frK8hd8 => kernel_rfl
    case inK8hd8 => rfl
    case keptK8hd8 => exact ⟨fun _ _ _ _ _ _ _ _ _ _ _ h => h, fun _ _ _ _ _ _ _ _ _ _ _ h => h, fun _ _ _ _ _ _ _ _ _ _ _ h => h, fun _ _ _ _ _ _ _ _ _ _ _ h => h, fun _ _ _ _ _ _ _ _ _ _ _ h => h, fun _ _ _ _ _ _ _ _ _ _ _ h => h, fun _ _ _ _ _ _ _ _ _ _ _ h => h, fun _ _ _ _ _ _ _ _ _ _ _ h => h, fun _ _ _ _ _ _ _ _ _ _ _ h => h, fun _ _ _ _ _ _ _ _ _ _ _ h => h, fun i hne hrd L W W' v hLi hC hC' hG h => h, fun i hne hrd L W W' v hLi hC hC' hG h => h, fun i hne hrd L W W' v hLi hC hC' hG h => h, fun _ _ _ _ _ _ _ _ _ _ _ h => h, fun i hne hrd L W W' v hLi hC hC' hG ⟨g, h1, h2⟩ => ⟨g, (hG hne).trans h1, h2⟩, fun _ _ _ _ _ _ _ _ _ _ _ h => h, fun _ _ _ _ _ _ _ _ _ _ _ h => h, trivial⟩
    case startK8hd8 => exact CHd.start (Below.refl _ _).drew rfl rfl
    case eachK8hd8 =>
      refine ⟨?_, ?_, ?_, ?_, ?_, ?_, ?_, ?_, ?_, ?_, ?_, ?_, ?_, ?_, ?_, ?_, ?_, trivial⟩
      -- 0: slot 23 := move t6
      · intro w γ L f hC hLi hLd hLn hF
        obtain ⟨d6, _⟩ := hF
        have d6 : f 6 = .slice (some ⟨gb, 0, none⟩) q.size cb := d6
        refine Step2.live rfl ?_
        refine relUpon_ghost γ ?_
        exact relUpon_value (v := f 6) rfl (hC.other (i := 0) (by decide) (by decide) (Below.refl _ _)) (fun _ => rfl) d6
      -- 1: slot 24 := move t0
      · intro w γ L f hC hLi hLd hLn hF
        obtain ⟨d0, _⟩ := hF
        have d0 : f 0 = .pointer (some ⟨q.g, 0, none⟩) := d0
        refine Step2.live rfl ?_
        refine relUpon_ghost γ ?_
        exact relUpon_value (v := f 0) rfl (hC.other (i := 1) (by decide) (by decide) (Below.refl _ _)) (fun _ => rfl) d0
      -- 2: slot 25 := nilCheck t24
      · intro w γ L f hC hLi hLd hLn hF
        obtain ⟨d24, _⟩ := hF
        have d24 : f 24 = .pointer (some ⟨q.g, 0, none⟩) := d24
        refine Step2.live rfl ?_
        refine relUpon_ghost γ ?_
        have ev : ∀ t, evalOf f (.tmp t) = f t := fun _ => rfl
        have ec : ∀ c, evalOf f (.const c) = c := fun _ => rfl
        have ef : ∀ g, evalOf f (.func g) = .func (.func g) #[] #[] := fun _ => rfl
        refine relUpon_value ?_ (hC.other (i := 2) (by decide) (by decide) (Below.refl _ _)) (fun _ => rfl) rfl
        go_simp
      -- 3: slot 26 := fieldAddr 71 t25 0
      · intro w γ L f hC hLi hLd hLn hF
        obtain ⟨d25, _⟩ := hF
        have d25 : f 25 = .pointer (some ⟨q.g, 0, none⟩) := d25
        refine Step2.live rfl ?_
        refine relUpon_ghost γ ?_
        have ev : ∀ t, evalOf f (.tmp t) = f t := fun _ => rfl
        have ec : ∀ c, evalOf f (.const c) = c := fun _ => rfl
        have ef : ∀ g, evalOf f (.func g) = .func (.func g) #[] #[] := fun _ => rfl
        refine relUpon_value ?_ (hC.other (i := 3) (by decide) (by decide) (Below.refl _ _)) (fun _ => rfl) rfl
        go_simp
      -- 4: slot 27 := call { value (Operand.func 41), args := #[t26], argTypes := #[69] }
      · intro w γ L f hC hLi hLd hLn hF
        obtain ⟨d26, _⟩ := hF
        have d26 : f 26 = .pointer (some ⟨q.g, 0, none⟩) := d26
        refine Step2.live rfl ?_
        have hDw := hD1.out.below hC.bel
        refine relUpon_ghost γ ?_
        have ev : ∀ t, evalOf f (.tmp t) = f t := fun _ => rfl
        have ec : ∀ c, evalOf f (.const c) = c := fun _ => rfl
        have ef : ∀ g, evalOf f (.func g) = .func (.func g) #[] #[] := fun _ => rfl
        refine relUpon_call (f := 41) (args := #[.pointer (some ⟨q.g, 0, none⟩)]) (w := w) (by go_simp) (sectors_any w q hDw) ?_
        rintro e w1 ⟨he, hw⟩
        subst hw
        exact ⟨_, he, hC.other (i := 4) (by decide) (by decide) (Below.refl _ _), fun _ => rfl, rfl⟩
      -- 5: slot 28 := move t0
      · intro w γ L f hC hLi hLd hLn hF
        obtain ⟨d0, _⟩ := hF
        have d0 : f 0 = .pointer (some ⟨q.g, 0, none⟩) := d0
        refine Step2.live rfl ?_
        refine relUpon_ghost γ ?_
        exact relUpon_value (v := f 0) rfl (hC.other (i := 5) (by decide) (by decide) (Below.refl _ _)) (fun _ => rfl) d0
      -- 6: slot 29 := nilCheck t28
      · intro w γ L f hC hLi hLd hLn hF
        obtain ⟨d28, _⟩ := hF
        have d28 : f 28 = .pointer (some ⟨q.g, 0, none⟩) := d28
        refine Step2.live rfl ?_
        refine relUpon_ghost γ ?_
        have ev : ∀ t, evalOf f (.tmp t) = f t := fun _ => rfl
        have ec : ∀ c, evalOf f (.const c) = c := fun _ => rfl
        have ef : ∀ g, evalOf f (.func g) = .func (.func g) #[] #[] := fun _ => rfl
        refine relUpon_value ?_ (hC.other (i := 6) (by decide) (by decide) (Below.refl _ _)) (fun _ => rfl) rfl
        go_simp
      -- 7: slot 30 := fieldAddr 71 t29 0
      · intro w γ L f hC hLi hLd hLn hF
        obtain ⟨d29, _⟩ := hF
        have d29 : f 29 = .pointer (some ⟨q.g, 0, none⟩) := d29
        refine Step2.live rfl ?_
        refine relUpon_ghost γ ?_
        have ev : ∀ t, evalOf f (.tmp t) = f t := fun _ => rfl
        have ec : ∀ c, evalOf f (.const c) = c := fun _ => rfl
        have ef : ∀ g, evalOf f (.func g) = .func (.func g) #[] #[] := fun _ => rfl
        refine relUpon_value ?_ (hC.other (i := 7) (by decide) (by decide) (Below.refl _ _)) (fun _ => rfl) rfl
        go_simp
      -- 8: slot 31 := call { value (Operand.func 42), args := #[t30], argTypes := #[69] }
      · intro w γ L f hC hLi hLd hLn hF
        obtain ⟨d30, _⟩ := hF
        have d30 : f 30 = .pointer (some ⟨q.g, 0, none⟩) := d30
        refine Step2.live rfl ?_
        have hDw := hD1.out.below hC.bel
        refine relUpon_ghost γ ?_
        have ev : ∀ t, evalOf f (.tmp t) = f t := fun _ => rfl
        have ec : ∀ c, evalOf f (.const c) = c := fun _ => rfl
        have ef : ∀ g, evalOf f (.func g) = .func (.func g) #[] #[] := fun _ => rfl
        refine relUpon_call (f := 42) (args := #[.pointer (some ⟨q.g, 0, none⟩)]) (w := w) (by go_simp) (size_any w q hDw) ?_
        rintro e w1 ⟨he, hw⟩
        subst hw
        exact ⟨_, he, hC.other (i := 8) (by decide) (by decide) (Below.refl _ _), fun _ => rfl, rfl⟩
      -- 9: slot 32 := build 139 #[(0, t27), (1, t31)]
      · intro w γ L f hC hLi hLd hLn hF
        obtain ⟨d27, d31, _⟩ := hF
        have d27 : f 27 = .int .i64 q.n := d27
        have d31 : f 31 = .int .i64 q.size := d31
        refine Step2.live rfl ?_
        refine relUpon_ghost γ ?_
        have ev : ∀ t, evalOf f (.tmp t) = f t := fun _ => rfl
        have ec : ∀ c, evalOf f (.const c) = c := fun _ => rfl
        have ef : ∀ g, evalOf f (.func g) = .func (.func g) #[] #[] := fun _ => rfl
        refine relUpon_value ?_ (hC.other (i := 9) (by decide) (by decide) (Below.refl _ _)) (fun _ => rfl) rfl
        go_simp
      -- 10: slot 33 := call { value (Operand.func 70), args := #[t23, t32], argTypes := #[37, 139] }
      · intro w γ L f hC hLi hLd hLn hF
        obtain ⟨d23, d32, _⟩ := hF
        have d23 : f 23 = .slice (some ⟨gb, 0, none⟩) q.size cb := d23
        have d32 : f 32 = .agg #[.int .i64 q.n, .int .i64 q.size] := d32
        refine Step2.live rfl ?_
        refine relUpon_ghost γ ?_
        have ev : ∀ t, evalOf f (.tmp t) = f t := fun _ => rfl
        have ec : ∀ c, evalOf f (.const c) = c := fun _ => rfl
        have ef : ∀ g, evalOf f (.func g) = .func (.func g) #[] #[] := fun _ => rfl
        refine relUpon_call (f := 70) (args := #[.slice (some ⟨gb, 0, none⟩) q.size cb, .agg #[.int .i64 q.n, .int .i64 q.size]]) (w := w) (by go_simp) (parse_any w gb cb q.n q.size b hn1 hn2 hs3 hs2 hbl.out hcb (hbr.out.below hC.bel)) ?_
        rintro e w1 ⟨⟨hx, he, hpx⟩, hB⟩
        exact ⟨_, he, hC.other (i := 10) (by decide) (by decide) hB, fun _ => rfl, hx, rfl, hpx⟩
      -- 11: slot 22 := move t33
      · intro w γ L f hC hLi hLd hLn hF
        obtain ⟨d33, _⟩ := hF
        refine Step2.live rfl ?_
        refine relUpon_ghost γ ?_
        exact relUpon_value (v := f 33) rfl (hC.other (i := 11) (by decide) (by decide) (Below.refl _ _)) (fun _ => rfl) d33
      -- 12: slot 34 := extract t22 0
      · intro w γ L f hC hLi hLd hLn hF
        obtain ⟨d22, _⟩ := hF
        refine Step2.live rfl ?_
        obtain ⟨hx, e22, hpx⟩ := d22
        refine relUpon_ghost γ ?_
        have ev : ∀ t, evalOf f (.tmp t) = f t := fun _ => rfl
        have ec : ∀ c, evalOf f (.const c) = c := fun _ => rfl
        have ef : ∀ g, evalOf f (.func g) = .func (.func g) #[] #[] := fun _ => rfl
        refine relUpon_value (v := .agg hx.cells) ?_ (hC.other (i := 12) (by decide) (by decide) (Below.refl _ _)) (fun _ => rfl) ⟨hx, rfl, hpx⟩
        go_simp
      -- 13: slot 35 := extract t22 1
      · intro w γ L f hC hLi hLd hLn hF
        obtain ⟨d22, _⟩ := hF
        refine Step2.live rfl ?_
        obtain ⟨hx, e22, hpx⟩ := d22
        refine relUpon_ghost γ ?_
        have ev : ∀ t, evalOf f (.tmp t) = f t := fun _ => rfl
        have ec : ∀ c, evalOf f (.const c) = c := fun _ => rfl
        have ef : ∀ g, evalOf f (.func g) = .func (.func g) #[] #[] := fun _ => rfl
        refine relUpon_value ?_ (hC.other (i := 13) (by decide) (by decide) (Below.refl _ _)) (fun _ => rfl) rfl
        go_simp
      -- 14: slot 8 := alloc 100
      · intro w γ L f hC hLi hLd hLn hF
        refine Step2.live rfl ?_
        refine relUpon_ghost (some w.heap.size) ?_
        have ev : ∀ t, evalOf f (.tmp t) = f t := fun _ => rfl
        have ec : ∀ c, evalOf f (.const c) = c := fun _ => rfl
        have ef : ∀ g, evalOf f (.func g) = .func (.func g) #[] #[] := fun _ => rfl
        refine relUpon_value (w' := w.alloc (.cells #[.int .u64 (0 : Nat), .int .i64 (0 : Nat), .int .i64 (0 : Nat), .int .i64 (0 : Nat)] 100)) (v := .pointer (some ⟨w.heap.size, 0, none⟩)) (by go_simp) (hC.alloc hLi (by decide)) (fun h => absurd rfl h) ⟨_, rfl, rfl⟩
      -- 15: slot None := store 100 t8 t34
      · intro w γ L f hC hLi hLd hLn hF
        obtain ⟨d8, d34, _⟩ := hF
        refine Step2.live rfl ?_
        obtain ⟨g, hg, e8⟩ := d8
        obtain ⟨hx, e34, hpx⟩ := d34
        have hg : γ = some g := hg
        have hZ := hC.zero hLi (hLd 14 (by decide)) hg
        have c0 : w.cell? ⟨g, 0, none⟩ = some (.int .u64 (0 : Nat)) := hZ.cell 0
        have c1 : w.cell? ⟨g, 1, none⟩ = some (.int .i64 (0 : Nat)) := hZ.cell 1
        have c2 : w.cell? ⟨g, 2, none⟩ = some (.int .i64 (0 : Nat)) := hZ.cell 2
        have c3 : w.cell? ⟨g, 3, none⟩ = some (.int .i64 (0 : Nat)) := hZ.cell 3
        have z0 := hZ.frozen 0
        have z1 := hZ.frozen 1
        have z2 := hZ.frozen 2
        have z3 := hZ.frozen 3
        unfold Hdr.cells at e34
        refine relUpon_ghost γ ?_
        have ev : ∀ t, evalOf f (.tmp t) = f t := fun _ => rfl
        have ec : ∀ c, evalOf f (.const c) = c := fun _ => rfl
        have ef : ∀ g, evalOf f (.func g) = .func (.func g) #[] #[] := fun _ => rfl
        refine relUpon_skip (w' := (((w.setCell ⟨g, 0, none⟩ (.int .u64 hx.serial)).setCell ⟨g, 1, none⟩ (.int .i64 hx.area)).setCell ⟨g, 2, none⟩ (.int .i64 hx.used)).setCell ⟨g, 3, none⟩ (.int .i64 hx.count)) ?_ (hC.stored hLi (hLd 14 (by decide)) hg hx hpx) (fun _ => rfl) trivial
        go_simp
      -- 16: slot 9 := assign t35
      · intro w γ L f hC hLi hLd hLn hF
        obtain ⟨d35, _⟩ := hF
        have d35 : f 35 = .bool (parseF b q.n q.size).isSome := d35
        refine Step2.live rfl ?_
        refine relUpon_ghost γ ?_
        exact relUpon_value (v := f 35) rfl (hC.other (i := 16) (by decide) (by decide) (Below.refl _ _)) (fun _ => rfl) d35
    intro x w' γ hC hV

    obtain ⟨g8, hg1, hgB, hgl, _, hdn⟩ := hC.done rfl
    obtain ⟨hx, hpx, hH8⟩ := hdn rfl
    obtain ⟨g', hg2, e8⟩ : ∃ g, γ = some g ∧ x 14 = .pointer (some ⟨g, 0, none⟩) := hV 14 _ rfl rfl
    have hg1 : γ = some g8 := hg1
    obtain rfl : g8 = g' := Option.some.inj (hg1.symm.trans hg2)
    have e9 : x 16 = .bool (parseF b q.n q.size).isSome := hV 16 _ rfl rfl
    have hbC := hC.bel
    clear hV hC hg1 hg2 hdn
    simp only [framed]
    rw [e8, e9]
    clear e8 e9
    have hO3 := Lib.hid (own_below hO2.out hbC)
    have hB3 := Lib.hid (hB2.out.trans (hbC.mono hB2.out.size))
    have hH8' := Lib.hid hH8
    have hpx' := Lib.hid hpx
    clear hO2 hB2 hbC hH8 hpx hD1 hbr
    obtain ⟨w3, hw3⟩ : ∃ x, x = w' := ⟨_, rfl⟩
    rw [← hw3] at hO3 hB3 hH8' ⊢
    clear hw3
    cases hp : parseF b q.n q.size with
    | none =>
      have hrel : Hid (foundF q.last q.n q.size (k + 1) = foundF q.last q.n q.size k) := Lib.hid (by rw [hfk.out, hp]; simp)
      clear hp hfk hpx'
      rw [show (none : Option Hdr).isSome = false from rfl]
      go_wp2_with fail
      refine ⟨⟨k + 1, by omega, by simp, by rw [hrel.out]; exact hO3, hB3⟩, by simp [intOf]; omega⟩
    | some h0 =>
      obtain rfl : h0 = hx := hpx'.out h0 hp
      have hrel : Hid (foundF q.last q.n q.size (k + 1) = foundF q.last q.n q.size k ++ [(h0, k)]) := Lib.hid (by rw [hfk.out, hp])
      clear hp hfk hpx'
      rw [show (some h0).isSome = true from rfl]
      have c0 : w3.cell? ⟨g8, 0, none⟩ = some (.int .u64 h0.serial) := hH8'.out.cell 0
      have c1 : w3.cell? ⟨g8, 1, none⟩ = some (.int .i64 h0.area) := hH8'.out.cell 1
      have c2 : w3.cell? ⟨g8, 2, none⟩ = some (.int .i64 h0.used) := hH8'.out.cell 2
      have c3 : w3.cell? ⟨g8, 3, none⟩ = some (.int .i64 h0.count) := hH8'.out.cell 3
      have hbn := below_new w3 (.cells #[.int .u64 h0.serial, .int .i64 h0.area, .int .i64 h0.used, .int .i64 h0.count, .int .i64 k] 102)
      have hO4 := Lib.hid (own_below hO3.out hbn)
      have hB4 := Lib.hid (hB3.out.trans (hbn.mono hB3.out.size))
      have hnews : Hid (∀ (j : Nat) u, (plC (h0, k))[j]? = some u → (w3.alloc (.cells #[.int .u64 h0.serial, .int .i64 h0.area, .int .i64 h0.used, .int .i64 h0.count, .int .i64 k] 102)).cell? ((⟨w3.heap.size, 0, none⟩ : Addr).add j) = some u) := Lib.hid (fun j u hu => by
        have hh := Holds.new w3 102 #[.int .u64 h0.serial, .int .i64 h0.area, .int .i64 h0.used, .int .i64 h0.count, .int .i64 k]
        have hadd : (⟨w3.heap.size, 0, none⟩ : Addr).add j = ⟨w3.heap.size, j, none⟩ := by unfold Addr.add; split <;> simp_all
        rw [hadd, hh.cell]
        simpa [plC] using hu)
      obtain ⟨N, hN⟩ : ∃ N, N = (foundF q.last q.n q.size k).length := ⟨_, rfl⟩
      have hN2 : N ≤ 2 := by rw [hN]; have := foundF_le q.last q.n q.size k; omega
      rw [← hN] at hO4
      have hN' := Lib.hid hN
      clear hbn hN
      have hone : Hid (∀ u ∈ plC (h0, k), u.oneCell' = true) := Lib.hid (by simp [plC]; exact ⟨rfl, rfl, rfl, rfl, rfl⟩)
      have hsz4 : Hid (w.heap.size ≤ (w3.alloc (.cells #[.int .u64 h0.serial, .int .i64 h0.area, .int .i64 h0.used, .int .i64 h0.count, .int .i64 k] 102)).heap.size) := Lib.hid hB4.out.size
      go_wp2_with
        (with_reducible refine at_slot 42 ?_
         go_loud (refine wpList_append_own_at _ rfl (.tmp 37) (.tmp 41) 96 rfl w.heap.size 102 iP _ 5 40 rfl hiP hzP0 hzP1 hzP2 rfl (by omega) u4 N (cellsP (foundF q.last q.n q.size k)) rfl hO4.out ⟨w3.heap.size, 0, none⟩ 1 1 (plC (h0, k)) rfl rfl hnews.out hone.out (by unfold maxLen; omega) (by omega) hsz4.out ?_)
         intro v5 w5 ho5 hg5 _ _
         have hO5 : Hid (w5.ownsRow w.heap.size 102 5 v5 (N + 1) (cellsP (foundF q.last q.n q.size k) ++ plC (h0, k))) := Lib.hid ho5
         have hB5 : Hid (Below w.heap.size w w5) := Lib.hid (hB4.out.trans ((Writes.of_grown hg5 (M := [u4.ownBlock]) (by simp)).below hB4.out.size (fun j hj => ownN_ge hO4.out (List.mem_singleton.1 hj).symm)))
         clear ho5 hg5)
      refine ⟨⟨k + 1, by omega, by simp, ?_, hB5⟩, by simp [intOf]; omega⟩
      rw [hrel.out, List.length_append, List.length_singleton, ← hN'.out, cellsP_append]
      exact Lib.hid (by simpa [cellsP] using hO5.out)
end Go.Proofs.YtelglbblgkhcmaaGreat
namespace Go.Proofs.YtelglbblgkhcmaaGreat
open Go.RowKit Go.Deep

/-- The first header whose records can be told, with them. -/
def pickF (X : Int → List UInt8) (n : Nat) : List (Hdr × Nat) → Option ((Hdr × Nat) × List (List UInt8))
  | [] => none
  | f :: t => match unframeF ((areaF X n f.1.area).take f.1.used) f.1.count with
    | some rs => some (f, rs)
    | none => pickF X n t
def openF (X : Int → List UInt8) (n s : Nat) : (Hdr × Nat) × List (List UInt8) := (pickF X n (headersF X n s)).getD ((zeroH, 2), [])
def LR.of (g : Nat) (p : Hdr × Nat) : LR := ⟨g, p.1.serial, p.1.area, p.1.used, p.1.count, p.2⟩
/-- What Open answers on a disk of a good shape. -/
def OpenE (q : DR) (w : World) (e : Ending) (w' : World) : Prop :=
  if q.abs.flush.2 ≠ 0 then e = .returned (.tuple #[.pointer none, .slice none 0 0, .int .i64 q.abs.flush.2]) ∧ ∃ q', DStep q w q' w' ∧ q'.abs = q.abs.flush.1
  else ∃ q' g v ps, e = .returned (.tuple #[.pointer (some ⟨g, 0, none⟩), v, .int .i64 0]) ∧ DStep q w q' w' ∧ q'.abs = q.abs.flush.1 ∧ w.heap.size ≤ g ∧ LogP (LR.of g (openF q'.last q'.n q'.size).1) q' w' ∧ RecsAt w.heap.size w' v ps ∧ ps.map (·.l) = (openF q'.last q'.n q'.size).2
theorem RecsAt.nil_ (B : Nat) (w : World) : RecsAt B w (.slice none 0 0) [] := ⟨World.ownsRow_nil _ _ _ _, fun p hp => by cases hp⟩
theorem RecsAt.base {B B' : Nat} {w : World} {v : Value} {ps : List Pay} (h : RecsAt B w v ps) (hB : B' ≤ B) : RecsAt B' w v ps := ⟨own_base h.1 hB, fun p hp => own_base (h.2 p hp) hB⟩
theorem foundF_mem {X : Int → List UInt8} {n s : Nat} {f : Hdr × Nat} : ∀ {k : Nat}, f ∈ foundF X n s k → f.1.ok n s ∧ f.2 < k
  | 0, h => by simp [foundF] at h
  | k + 1, h => by
    rw [foundF, List.mem_append] at h
    rcases h with h | h
    · obtain ⟨h1, h2⟩ := foundF_mem h
      exact ⟨h1, by omega⟩
    · cases hp : parseF (X k) n s with
      | none => rw [hp] at h; cases h
      | some h0 =>
        rw [hp] at h
        simp at h
        subst h
        exact ⟨(parseF_some hp).1, by simp⟩
theorem orderF_mem {l : List (Hdr × Nat)} {f : Hdr × Nat} (h : f ∈ orderF l) : f ∈ l := by
  match l, h with
  | [], h => exact h
  | [a], h => exact h
  | [a, b], h =>
    by_cases e : a.1.serial < b.1.serial
    · have h' : f ∈ [b, a] := by
        rw [← show orderF [a, b] = [b, a] from if_pos e]
        exact h
      simp at h' ⊢
      rcases h' with h' | h'
      · exact .inr h'
      · exact .inl h'
    · have h' : f ∈ [a, b] := by
        rw [← show orderF [a, b] = [a, b] from if_neg e]
        exact h
      exact h'
  | a :: b :: c :: r, h => exact h
theorem orderF_two (a b : Hdr × Nat) : (orderF [a, b]).length ≤ 2 := by
  by_cases e : a.1.serial < b.1.serial
  · rw [show orderF [a, b] = [b, a] from if_pos e]; simp
  · rw [show orderF [a, b] = [a, b] from if_neg e]; simp
theorem headersF_mem {X : Int → List UInt8} {n s : Nat} {f : Hdr × Nat} (h : f ∈ headersF X n s) : f.1.ok n s ∧ f.2 < 2 := foundF_mem (orderF_mem h)
theorem cellsP_at : ∀ (l : List (Hdr × Nat)) (i : Nat) (h : i < l.length) (j : Nat), j < 5 → (cellsP l)[i * 5 + j]? = (plC l[i])[j]?
  | a :: t, 0, _, j, hj => by
    rw [show cellsP (a :: t) = plC a ++ cellsP t from by simp [cellsP], List.getElem?_append_left (by simp [plC]; omega)]
    simp
  | a :: t, i + 1, h, j, hj => by
    rw [show cellsP (a :: t) = plC a ++ cellsP t from by simp [cellsP], List.getElem?_append_right (by simp [plC]; omega)]
    have := cellsP_at t i (by simpa using h) j hj
    rw [show (i + 1) * 5 + j - (plC a).length = i * 5 + j by simp [plC]; omega, this]
    simp
theorem pickF_drop {X : Int → List UInt8} {n : Nat} {l : List (Hdr × Nat)} {i : Nat} (h : i < l.length) : pickF X n (l.drop i) = match unframeF ((areaF X n l[i].1.area).take l[i].1.used) l[i].1.count with
    | some rs => some (l[i], rs)
    | none => pickF X n (l.drop (i + 1)) := by
  rw [List.drop_eq_getElem_cons h]
  rfl
set_option maxRecDepth 100000 in
set_option maxHeartbeats 4000000 in
theorem open_any (w : World) (q : DR) (hq : DiskP q w) (hn1 : 16 ≤ q.n) (hs3 : 128 ≤ q.size) : Calls Tryz.prog 27 #[.pointer (some ⟨q.g, 0, none⟩)] w (OpenE q w) := by
  have hn2 := hq.n2
  have hs2 := hq.s2
  have hm : half q.n * q.size ≤ 2047 * 4096 := Nat.mul_le_mul (half_le q.n hn2) hs2
  have hD := Lib.hid hq
  have hi1 : ¬ (q.n : Int) < 16 := by omega
  have hi2 : ¬ (q.size : Int) < 128 := by omega
  have hsc := sectors_any w q hq
  have hsz := size_any w q hq
  have hfl := flush_abs w q hq
  clear hq
  go_enter Tryz.func27, Tryz.ntmps27
  go_wp2_with fail
  refine hsc.mono ?_
  clear hsc
  rintro e w2 ⟨rfl, e2⟩
  rw [e2]
  clear e2 w2
  go_wp2_with fail
  refine hsz.mono ?_
  clear hsz
  rintro e w2 ⟨rfl, e2⟩
  rw [e2]
  clear e2 w2
  go_wp2_with fail
  refine hfl.mono ?_
  clear hfl
  rintro e w2 ⟨rfl, q2, hst, hab⟩
  have hst' := Lib.hid hst
  have hab' := Lib.hid hab
  have hkf : Hid (q.abs.flush.2 = 0 → AD.Kept q.abs q2.abs) := Lib.hid (fun h => by rw [hab]; exact AD.flush_k h)
  clear hst hab
  obtain ⟨err, herr⟩ : ∃ e, e = q.abs.flush.2 := ⟨_, rfl⟩
  rw [← herr] at hkf ⊢
  have herr' := Lib.hid herr
  clear herr
  by_cases hz : err = 0
  case neg =>
    have hfin : Hid (OpenE q w (.returned (.tuple #[.pointer none, .slice none 0 0, .int .i64 err])) w2) := Lib.hid (by
      unfold OpenE
      rw [← herr'.out, if_pos hz]
      exact ⟨rfl, q2, hst'.out, hab'.out⟩)
    have hz1 : ((err : Int) == 0) = false := by simp; omega
    have hz2 : ((err : Int) != 0) = true := by simp; omega
    go_wp2_with fail
    go_ret3
    exact hfin.out
  subst hz
  have hk := hkf.out rfl
  have hqd : Hid (q2.dead = false) := Lib.hid hk.dead
  have hqn : Hid (q2.n = q.n) := Lib.hid hk.n
  have hqs : Hid (q2.size = q.size) := Lib.hid hk.size
  have hqg : Hid (q2.g = q.g) := Lib.hid hst'.out.g
  have hD2 : Hid (DiskP q2 w2) := Lib.hid hst'.out.post
  clear hk hkf
  have hhd := headers_any w2 q2 hD2.out hqd.out (by rw [hqn.out]; exact hn1) (by rw [hqs.out]; exact hs3)
  rw [hqg.out, hqn.out, hqs.out] at hhd
  obtain ⟨fs, hfs⟩ : ∃ fs, fs = headersF q2.last q.n q.size := ⟨_, rfl⟩
  rw [← hfs] at hhd
  have hmem : Hid (∀ f ∈ fs, f.1.ok q.n q.size ∧ f.2 < 2) := Lib.hid (fun f hf => by rw [hfs] at hf; exact headersF_mem hf)
  have hfs' := Lib.hid hfs
  clear hfs
  go_wp2_with fail
  refine hhd.mono ?_
  clear hhd
  rintro e w3 ⟨⟨A, c, rfl, hrow, hlc⟩, hb3⟩
  have hrow' := Lib.hid hrow
  have hb3' := Lib.hid hb3
  obtain ⟨N, hN⟩ : ∃ N, N = fs.length := ⟨_, rfl⟩
  rw [← hN] at hlc ⊢
  have hN' := Lib.hid hN
  have hN2 : N ≤ 2 := by
    rw [hN, hfs'.out]
    have := foundF_le q2.last q.n q.size 2
    unfold headersF
    generalize foundF q2.last q.n q.size 2 = l at *
    match l with
    | [] => simp [orderF]
    | [a] => simp [orderF]
    | [a, b] => exact orderF_two a b
    | a :: b :: c :: r => simp at this
  clear hN hrow hb3
  go_wp2_with fail
  go_loopw [46] (fun iv wr => ∃ i : Nat, i ≤ N ∧ iv = .int .i64 i ∧ Hid (pickF q2.last q.n fs = pickF q2.last q.n (fs.drop i)) ∧ Hid (Below w3.heap.size w3 wr)) (fun iv _ => N - (intOf iv).toNat)
  case atStart => exact ⟨0, by omega, rfl, Lib.hid rfl, Lib.hid (Below.refl _ _)⟩
  obtain ⟨i, hi, rfl, hpk, hB⟩ := hrel
  have hDr := Lib.hid ((hD2.out.below hb3'.out).below hB.out)
  by_cases hiN : i < N
  · have hil : i < fs.length := by rw [← hN'.out]; exact hiN
    obtain ⟨b, off, rfl, hcs⟩ := hrow'.out (by
      intro h
      have := cellsP_length fs
      rw [h] at this
      simp at this
      omega)
    obtain ⟨f, hf⟩ : ∃ f, f = fs[i] := ⟨_, rfl⟩
    have hpd := pickF_drop (X := q2.last) (n := q.n) hil
    rw [← hf] at hpd
    have hcell : ∀ j, j < 5 → ∀ u, (plC f)[j]? = some u → wr.cell? ⟨b, off + (i * 5 + j), none⟩ = some u := fun j hj u hu => by
      have h1 := hcs (i * 5 + j) u (by rw [cellsP_at fs i hil j hj, ← hf]; exact hu)
      exact (hB.out.cell (p := ⟨b, off + (i * 5 + j), none⟩) (cell_lt h1)).trans h1
    have hok : Hid (f.1.ok q.n q.size ∧ f.2 < 2) := Lib.hid (by rw [hf]; exact hmem.out _ (List.getElem_mem hil))
    have hpd' := Lib.hid hpd
    have c0 : wr.cell? ⟨b, off + i * 5, none⟩ = some (.int .u64 f.1.serial) := hcell 0 (by omega) _ rfl
    have c1 : wr.cell? ⟨b, off + i * 5 + 1, none⟩ = some (.int .i64 f.1.area) := hcell 1 (by omega) _ rfl
    have c2 : wr.cell? ⟨b, off + i * 5 + 2, none⟩ = some (.int .i64 f.1.used) := hcell 2 (by omega) _ rfl
    have c3 : wr.cell? ⟨b, off + i * 5 + 3, none⟩ = some (.int .i64 f.1.count) := hcell 3 (by omega) _ rfl
    have c4 : wr.cell? ⟨b, off + i * 5 + 4, none⟩ = some (.int .i64 f.2) := hcell 4 (by omega) _ rfl
    have hii : (i : Int) < (N : Int) := by omega
    clear hcs hf hpd hcell
    go_wp2_with fail
    obtain ⟨g9, hg9⟩ : ∃ g, g = wr.heap.size := ⟨_, rfl⟩
    have hb4 := below_new wr (.cells #[.int .u64 f.1.serial, .int .i64 f.1.area, .int .i64 f.1.used, .int .i64 f.1.count, .int .i64 f.2] 102)
    have hH0 := Holds.new wr 102 #[.int .u64 f.1.serial, .int .i64 f.1.area, .int .i64 f.1.used, .int .i64 f.1.count, .int .i64 f.2]
    obtain ⟨wa, hwa⟩ : ∃ x, x = wr.alloc (.cells #[.int .u64 f.1.serial, .int .i64 f.1.area, .int .i64 f.1.used, .int .i64 f.1.count, .int .i64 f.2] 102) := ⟨_, rfl⟩
    have hsa : wa.heap.size = g9 + 1 := by rw [hwa, hg9]; simp
    rw [← hwa] at hb4 hH0 ⊢
    rw [← hg9] at hH0 ⊢
    have hb5 := below_new wa (.cells ((LR.of (g9 + 1) f).cells q.g) 104)
    have hL0 := Holds.new wa 104 ((LR.of (g9 + 1) f).cells q.g)
    rw [hsa] at hL0
    have hB5 : Hid (Below w3.heap.size w3 (wa.alloc (.cells ((LR.of (g9 + 1) f).cells q.g) 104))) := Lib.hid (by
      have h1 := hB.out.trans (hb4.mono hB.out.size)
      exact h1.trans (hb5.mono h1.size))
    have hH5 : Hid (Holds (wa.alloc (.cells ((LR.of (g9 + 1) f).cells q.g) 104)) g9 102 #[.int .u64 f.1.serial, .int .i64 f.1.area, .int .i64 f.1.used, .int .i64 f.1.count, .int .i64 f.2]) := Lib.hid (hH0.below hb5 hH0.lt)
    have hge : Hid (w3.heap.size ≤ g9) := Lib.hid (by rw [hg9]; exact hB.out.size)
    have hL5 : Hid (LogP (LR.of (g9 + 1) f) q2 (wa.alloc (.cells ((LR.of (g9 + 1) f).cells q.g) 104))) := Lib.hid (by unfold LogP; rw [hqg.out]; exact hL0)
    unfold LR.cells LR.of at hB5 hH5 hL5
    clear hb4 hH0 hwa hsa hb5 hL0 hg9 c0 c1 c2 c3 c4
    obtain ⟨w5, hw5⟩ : ∃ x, x = wa.alloc (.cells #[.pointer (some ⟨q.g, 0, none⟩), .int .u64 f.1.serial, .int .i64 f.1.area, .int .i64 f.1.used, .int .i64 f.1.count, .int .i64 f.2] 104) := ⟨_, rfl⟩
    simp only at hB5 hH5 hL5
    rw [← hw5] at hB5 hH5 hL5 ⊢
    clear hw5
    have hD5 : Hid (DiskP q2 w5) := Lib.hid ((hD2.out.below hb3'.out).below hB5.out)
    have hlr := lread_any w5 _ q2 hL5.out hD5.out hqd.out (by rw [hqn.out]; exact hn1) (by exact hok.out.1.a1) (by rw [hqn.out, hqs.out]; exact hok.out.1.u1)
    simp only at hlr
    rw [hqn.out] at hlr
    obtain ⟨bs, hbs⟩ : ∃ bs, bs = (areaF q2.last q.n f.1.area).take f.1.used := ⟨_, rfl⟩
    rw [← hbs] at hlr
    have hbl : Hid (bs.length ≤ 2047 * 4096) := Lib.hid (by
      have := hok.out.1.u1
      rw [hbs, List.length_take]
      omega)
    have hpd := hpd'.out
    rw [← hbs] at hpd
    have hpd2 := Lib.hid hpd
    clear hbs hpd hpd'
    refine hlr.mono ?_
    clear hlr
    rintro e w6 ⟨⟨A6, c6, rfl, hr6, hc6⟩, hb6⟩
    have hr6' := Lib.hid hr6
    have hH6 := Lib.hid (hH5.out.below hb6 hH5.out.lt)
    have hL6 := Lib.hid (hL5.out.below hb6)
    have hB6 := Lib.hid (hB5.out.trans (hb6.mono hB5.out.size))
    have hun := unframe_any w6 A6 bs.length c6 bs f.1.count rfl hc6 (by have := hbl.out; omega) hr6'.out
    obtain ⟨m6, hm6⟩ : ∃ m, m = bs.length := ⟨_, rfl⟩
    rw [← hm6] at hun ⊢
    have c3 : w6.cell? ⟨g9, 3, none⟩ = some (.int .i64 f.1.count) := hH6.out.cell 3
    clear hr6 hb6 hH5 hL5 hB5 hD5 hm6
    go_wp2_with fail
    refine hun.mono ?_
    clear hun c3
    rintro e w7 ⟨hun, hb7⟩
    have hL7 := Lib.hid (hL6.out.below hb7)
    have hB7 := Lib.hid (hB6.out.trans (hb7.mono hB6.out.size))
    have hs67 : Hid (w3.heap.size ≤ w6.heap.size) := Lib.hid hB6.out.size
    clear hb7 hH6 hL6 hB6
    cases hu : unframeF bs f.1.count with
    | none =>
      rw [hu] at hun
      have hun : e = .returned (.tuple #[.slice none 0 0, .bool false]) := hun
      subst hun
      have hnx : Hid (pickF q2.last q.n fs = pickF q2.last q.n (fs.drop (i + 1))) := Lib.hid (by rw [hpk.out, hpd2.out, hu])
      have hiw : IntKind.i64.wrap ((i : Int) + 1) = ((i + 1 : Nat) : Int) := by rw [IntWalk.i64_in _ (by omega)]; omega
      clear hu hpd2
      go_wp2_with fail
      refine ⟨⟨i + 1, by omega, by simp, hnx, hB7⟩, by simp [intOf]; omega⟩
    | some rs =>
      rw [hu] at hun
      obtain ⟨v, ps, he, hrec, hps⟩ : ∃ v ps, e = .returned (.tuple #[v, .bool true]) ∧ RecsAt w6.heap.size w7 v ps ∧ ps.map (·.l) = rs := hun
      subst he
      have hopn : Hid (openF q2.last q2.n q2.size = (f, rs)) := Lib.hid (by
        unfold openF
        rw [hqn.out, hqs.out, ← hfs'.out, hpk.out, hpd2.out, hu]
        rfl)
      have hfin : Hid (OpenE q w (.returned (.tuple #[.pointer (some ⟨g9 + 1, 0, none⟩), v, .int .i64 0])) w7) := Lib.hid (by
        unfold OpenE
        rw [← herr'.out, if_neg (by simp)]
        have hsz := hst'.out.wrt.size
        refine ⟨q2, g9 + 1, v, ps, rfl, (hst'.out.below hb3'.out).below hB7.out, hab'.out, ?_, ?_, hrec.base ?_, ?_⟩
        · have := hge.out; have := hb3'.out.size; omega
        · rw [hopn.out]; exact hL7.out
        · have := hs67.out; have := hb3'.out.size; omega
        · rw [hopn.out]; exact hps)
      clear hu hpd2 hrec hps
      go_wp2_with fail
      go_ret3
      exact hfin.out
  · obtain rfl : N = i := by omega
    have hnone : Hid (pickF q2.last q.n fs = none) := Lib.hid (by rw [hpk.out, List.drop_of_length_le (by rw [← hN'.out]; exact Nat.le_refl _)]; rfl)
    have hgl := Holds.new wr 104 ((LR.of wr.heap.size (zeroH, 2)).cells q.g)
    have hbl := below_new wr (.cells ((LR.of wr.heap.size (zeroH, 2)).cells q.g) 104)
    have hfin : Hid (OpenE q w (.returned (.tuple #[.pointer (some ⟨wr.heap.size, 0, none⟩), .slice none 0 0, .int .i64 0])) (wr.alloc (.cells ((LR.of wr.heap.size (zeroH, 2)).cells q.g) 104))) := Lib.hid (by
      have hopn : openF q2.last q2.n q2.size = ((zeroH, 2), []) := by
        unfold openF
        rw [hqn.out, hqs.out, ← hfs'.out, hnone.out]
        rfl
      unfold OpenE
      rw [← herr'.out, if_neg (by simp)]
      have hsz := hst'.out.wrt.size
      refine ⟨q2, wr.heap.size, .slice none 0 0, [], rfl, ((hst'.out.below hb3'.out).below hB.out).below hbl, hab'.out, ?_, ?_, .nil_ _ _, ?_⟩
      · have := hB.out.size; have := hb3'.out.size; omega
      · rw [hopn]; unfold LogP; rw [hqg.out]; exact hgl
      · rw [hopn]; rfl)
    unfold LR.cells LR.of zeroH at hfin
    clear hgl hbl
    go_wp2_with fail
    go_ret3
    exact hfin.out
end Go.Proofs.YtelglbblgkhcmaaGreat
