/-
  The walk of Writer.Summary, at one summary.
-/
import Derived.Test.YtimhghmnnibajaaCodeT
namespace Go.Proofs.Ytimhghmnnibajaa
open Go.RowKit Go.ChangeShapes Go.WideShapes Go.Deep

def Sm.ok (M : Nat) (s : Sm) : Prop := (∀ a ∈ s.al, a.ok) ∧ s.ret.ok ∧ ∀ m ∈ s.md, m.ok M
theorem flatMap_at {α : Type} {f : α → List Value} {C : Nat} : ∀ (l : List α) (_ : ∀ x ∈ l, (f x).length = C) {k : Nat} (hk : k < l.length) {r : Nat} {v : Value}, (f l[k])[r]? = some v → (l.flatMap f)[k * C + r]? = some v
  | [], _, k, hk, _, _, _ => absurd hk (by simp)
  | a :: l, hl, k, hk, r, v, h => by
    have hc := hl a (List.mem_cons_self ..)
    rw [List.flatMap_cons]
    cases k with
    | zero =>
      have hr : r < (f a).length := (List.getElem?_eq_some_iff.1 h).1
      rw [Nat.zero_mul, Nat.zero_add, List.getElem?_append_left hr]
      exact h
    | succ k =>
      rw [List.getElem?_append_right (by rw [Nat.add_mul]; omega), hc]
      have := flatMap_at l (fun x hx => hl x (List.mem_cons_of_mem _ hx)) (k := k) (by simpa using hk) (r := r) (v := v) (by simpa using h)
      rw [← this]
      congr 1
      rw [Nat.add_mul]
      omega
/-- The cells of the k-th element. -/
theorem Row.elem {α : Type} {f : α → List Value} {C : Nat} {w : World} {B : Nat} {A : Option Addr} {l : List α} (h : Row w B A (l.flatMap f)) (hC : ∀ x ∈ l, (f x).length = C) (hC0 : 0 < C) {k : Nat} (hk : k < l.length) :
    ∃ b off, A = some ⟨b, off, none⟩ ∧ b < B ∧ l.flatMap f ≠ [] ∧ ∀ r v, (f l[k])[r]? = some v → w.cell? ⟨b, off + k * C + r, none⟩ = some v := by
  have hne : l.flatMap f ≠ [] := fun e => by
    have h0 : (f l[k])[0]? = some ((f l[k])[0]'(by rw [hC _ (List.getElem_mem hk)]; exact hC0)) := List.getElem?_eq_getElem _
    have := flatMap_at l hC hk h0
    rw [e] at this
    cases this
  obtain ⟨b, off, e, hb, hc⟩ := h hne
  exact ⟨b, off, e, hb, hne, fun r v hv => by rw [Nat.add_assoc]; exact hc _ v (flatMap_at l hC hk hv)⟩
theorem pair_fact {w : World} {b n : Nat} {p : Addr} {v : Value} (hp : p.block = b) (hb : b < n) (hn : n ≤ w.heap.size) (hc : w.cell? p = some v) : p.block < w.heap.size ∧ w.cell? p = some v := ⟨by omega, hc⟩

set_option maxRecDepth 100000 in
set_option maxHeartbeats 4000000 in
theorem summary_any (w0 : World) (B g ks : Nat) (t et : TypeId) (u : Value) (l : List UInt8) (s : Sm) (A1 A2 : Option Addr) (n1 c1 n2 c2 : Nat) (hw : Wrt w0 B g t u l) (hB : B ≤ w0.heap.size) (hs : s.ok 1000) (h1 : s.al.length = n1) (h2 : s.md.length = n2) (hn1 : n1 ≤ 1000) (hn2 : n2 ≤ 1000)
    (hk : Holds w0 ks et #[.slice A1 n1 c1, .bool s.ends, .bool s.ret.s, .int .i64 s.ret.lo, .int .i64 s.ret.hi, .slice A2 n2 c2])
    (hr1 : Row w0 w0.heap.size A1 (s.al.flatMap Al.cells)) (hg1 : s.al.flatMap Al.cells ≠ [] → blk A1 ∉ [some g, u.ownBlock]) (hr2 : Row w0 w0.heap.size A2 (s.md.flatMap Nm.cells)) (hg2 : s.md.flatMap Nm.cells ≠ [] → blk A2 ∉ [some g, u.ownBlock]) (hlen : l.length ≤ 99000000000) :
    Calls Try.prog 31 #[.pointer (some ⟨g, 0, none⟩), .slice (some ⟨ks, 0, none⟩) 1 1] w0 (Wrote w0 B g t u (l ++ smE s)) := by
  have hs := Lib.hid hs
  rename_i hs'
  have hh1 := Lib.hid h1
  have hh2 := Lib.hid h2
  have hl := Lib.hid hlen
  clear hs' hlen
  have e0 := (hk.fact 0 rfl).2
  have e1 := (hk.fact 1 rfl).2
  have e2 := (hk.fact 2 rfl).2
  have e3 := (hk.fact 3 rfl).2
  have e4 := (hk.fact 4 rfl).2
  have e5 := (hk.fact 5 rfl).2
  go_enter Try.func31, Try.ntmps31
  go_wp2_with fail
  go_loopw [12] (fun i wr => (i = .int .i64 0 ∧ wr = w0) ∨ (i = .int .i64 1 ∧ Wrote w0 B g t u (l ++ smE s) (.returned (.tuple #[])) wr)) (fun i _ => 1 - (intOf i).toNat)
  case atStart => exact .inl ⟨rfl, rfl⟩
  rcases hrel with ⟨rfl, rfl⟩ | ⟨rfl, hdone⟩
  case inr =>
    go_wp2_with fail
    go_end0
    exact hdone
  have hbx := Holds.new wr 61 #[.slice A1 n1 c1, .bool s.ends, .bool s.ret.s, .int .i64 s.ret.lo, .int .i64 s.ret.hi, .slice A2 n2 c2]
  have hb0 := below_new wr (.cells #[.slice A1 n1 c1, .bool s.ends, .bool s.ret.s, .int .i64 s.ret.lo, .int .i64 s.ret.hi, .slice A2 n2 c2] 61)
  go_wp2_with fail
  obtain ⟨wb, hwb⟩ : ∃ x, wr.alloc (.cells #[.slice A1 n1 c1, .bool s.ends, .bool s.ret.s, .int .i64 s.ret.lo, .int .i64 s.ret.hi, .slice A2 n2 c2] 61) = x := ⟨_, rfl⟩
  rw [hwb] at hbx hb0 ⊢
  clear hwb
  obtain ⟨bx, hbxe⟩ : ∃ x, wr.heap.size = x := ⟨_, rfl⟩
  rw [hbxe] at hbx ⊢
  -- the whole, out of what is told from wb on
  have hsE : Hid (l ++ smE s = l ++ numE n1 ++ s.al.flatMap alE ++ boolE s.ends ++ ivE s.ret ++ numE n2 ++ s.md.flatMap nmE) := Lib.hid (by unfold smE alsE; rw [h1, h2]; simp only [List.append_assoc])
  have hback : Hid (∀ e w', Wrote wb B g t u (l ++ numE n1 ++ s.al.flatMap alE ++ boolE s.ends ++ ivE s.ret ++ numE n2 ++ s.md.flatMap nmE) e w' → Wrote wr B g t u (l ++ smE s) e w') := Lib.hid fun e w' h => by
    rw [hsE.out]
    exact (Wrote.before hb0 h).1
  have hu := Lib.hid (hw.below hb0)
  have hBb : Hid (B ≤ wb.heap.size) := Lib.hid (Nat.le_trans hB hb0.size)
  have hkb : Hid (∀ wa, Writes [some g, u.ownBlock] wb wa → Holds wa bx 61 #[.slice A1 n1 c1, .bool s.ends, .bool s.ret.s, .int .i64 s.ret.lo, .int .i64 s.ret.hi, .slice A2 n2 c2]) := Lib.hid fun wa hM => hM.holds hbx (by rw [← hbxe]; exact hw.lt (Nat.le_refl _))
  have hrw1 : Hid (∀ wa, Writes [some g, u.ownBlock] wb wa → Row wa wb.heap.size A1 (s.al.flatMap Al.cells)) := Lib.hid fun wa hM => hM.row ((hr1.below hb0).more hb0.size) (Nat.le_refl _) hg1
  have hrw2 : Hid (∀ wa, Writes [some g, u.ownBlock] wb wa → Row wa wb.heap.size A2 (s.md.flatMap Nm.cells)) := Lib.hid fun wa hM => hM.row ((hr2.below hb0).more hb0.size) (Nat.le_refl _) hg2
  have f0 := Lib.hid (hbx.fact 0 rfl)
  have hwn1 : IntKind.u64.wrap (n1 : Int) = n1 := IntWalk.u64_in _ (by omega)
  have hwn2 : IntKind.u64.wrap (n2 : Int) = n2 := IntWalk.u64_in _ (by omega)
  clear hbx hb0 hr1 hr2 hg1 hg2 hw hB hk hbxe e0 e1 e2 e3 e4 e5 h1 h2
  -- THE REGION THAT DRAWS ITS ORDER, BY ONE LEXICAL WALK OVER GENERIC VALUES (written by relgen.py)
  refine wp_region_tabL ((fun _ _ v => v = .pointer (some ⟨g, 0, none⟩)) ::
    (fun _ _ v => v = .pointer (some ⟨g, 0, none⟩)) ::
    (fun _ _ v => v = .pointer (some ⟨g, 0, none⟩)) ::
    (fun _ _ v => v = .pointer (some ⟨bx, 0, none⟩)) ::
    (fun _ _ v => v = .slice A1 n1 c1) ::
    (fun _ _ v => v = .int .i64 n1) ::
    (fun _ _ v => v = .int .u64 n1) ::
    (fun L w v => Till 8 (fun w v => NewCells wb.heap.size 37 #[.int .u64 n1] 1 w v) L w v) ::
    (fun _ _ _ => True) :: [])
    (⟨[(0, none)], 0, [8]⟩ :: ⟨[(16, some 0)], 0, [8]⟩ :: ⟨[(17, some 1)], 0, [8]⟩ :: ⟨[(5, none)], 0, [8]⟩ :: ⟨[(19, some 3)], 0, [8]⟩ :: ⟨[(20, some 4)], 0, [8]⟩ :: ⟨[(21, some 5)], 0, [8]⟩ :: ⟨[(22, some 6)], 0, [8]⟩ :: ⟨[(18, some 2), (23, some 7)], 0, []⟩ :: [])
    (none :: none :: none :: none :: none :: none :: none :: none :: none :: none :: none :: none :: none :: none :: none :: none :: some 0 :: some 1 :: some 2 :: some 3 :: some 4 :: some 5 :: some 6 :: some 7 :: some 8 :: [])
    (fun L w' => PutAt wb B g t u (l ++ numE n1) (L 8) w') (fun i w w' => i ≠ 8 → Below w.heap.size w w') ?mixK3 ?okK3 ?tabK3 ?frK3 ?inK3 ?keptK3 ?startK3 ?eachK3 ?finK3
  case mixK3 => kernel_rfl
  case okK3 => kernel_rfl
  case tabK3 => kernel_rfl
  case frK3 => kernel_rfl
  case inK3 => rfl
  case keptK3 => exact ⟨fun _ _ _ _ _ _ _ _ _ _ _ h => h, fun _ _ _ _ _ _ _ _ _ _ _ h => h, fun _ _ _ _ _ _ _ _ _ _ _ h => h, fun _ _ _ _ _ _ _ _ _ _ _ h => h, fun _ _ _ _ _ _ _ _ _ _ _ h => h, fun _ _ _ _ _ _ _ _ _ _ _ h => h, fun _ _ _ _ _ _ _ _ _ _ _ h => h, fun _ _ _ _ _ _ _ _ _ _ hG h => Till.keep h fun hne h => h.keep (hG hne), fun _ _ _ _ _ _ _ _ _ _ _ h => h, trivial⟩
  case startK3 => exact ⟨fun _ => (Below.refl _ _).drew, fun h => by simp at h⟩
  case eachK3 =>
    refine ⟨?_, ?_, ?_, ?_, ?_, ?_, ?_, ?_, ?_, trivial⟩
    -- 0: slot 16 := move t0
    · intro w L f hC hLi hLd hLn hF
      obtain ⟨d0, _⟩ := hF
      have d0 : f 0 = .pointer (some ⟨g, 0, none⟩) := d0
      refine Step2.live rfl ?_
      exact relUpon_value (v := f 0) rfl (hC) (fun _ => Below.refl _ _) d0
    -- 1: slot 17 := nilCheck t16
    · intro w L f hC hLi hLd hLn hF
      obtain ⟨d16, _⟩ := hF
      have d16 : f 16 = .pointer (some ⟨g, 0, none⟩) := d16
      refine Step2.live rfl ?_
      have ev : ∀ t, evalOf f (.tmp t) = f t := fun _ => rfl
      have ec : ∀ c, evalOf f (.const c) = c := fun _ => rfl
      have ef : ∀ g, evalOf f (.func g) = .func (.func g) #[] #[] := fun _ => rfl
      refine relUpon_value ?_ hC (fun _ => Below.refl _ _) rfl
      go_simp
    -- 2: slot 18 := fieldAddr 30 t17 0
    · intro w L f hC hLi hLd hLn hF
      obtain ⟨d17, _⟩ := hF
      have d17 : f 17 = .pointer (some ⟨g, 0, none⟩) := d17
      refine Step2.live rfl ?_
      have ev : ∀ t, evalOf f (.tmp t) = f t := fun _ => rfl
      have ec : ∀ c, evalOf f (.const c) = c := fun _ => rfl
      have ef : ∀ g, evalOf f (.func g) = .func (.func g) #[] #[] := fun _ => rfl
      refine relUpon_value ?_ hC (fun _ => Below.refl _ _) rfl
      go_simp
    -- 3: slot 19 := fieldAddr 61 t5 0
    · intro w L f hC hLi hLd hLn hF
      obtain ⟨d5, _⟩ := hF
      have d5 : f 5 = .pointer (some ⟨bx, 0, none⟩) := d5
      refine Step2.live rfl ?_
      have ev : ∀ t, evalOf f (.tmp t) = f t := fun _ => rfl
      have ec : ∀ c, evalOf f (.const c) = c := fun _ => rfl
      have ef : ∀ g, evalOf f (.func g) = .func (.func g) #[] #[] := fun _ => rfl
      refine relUpon_value ?_ hC (fun _ => Below.refl _ _) rfl
      go_simp
    -- 4: slot 20 := load 56 t19
    · intro w L f hC hLi hLd hLn hF
      obtain ⟨d19, _⟩ := hF
      have d19 : f 19 = .pointer (some ⟨bx, 0, none⟩) := d19
      refine Step2.live rfl ?_
      have hcell0 := ((hC.m (hLn 8 (by simp))).cell f0.out.1).trans f0.out.2
      have ev : ∀ t, evalOf f (.tmp t) = f t := fun _ => rfl
      have ec : ∀ c, evalOf f (.const c) = c := fun _ => rfl
      have ef : ∀ g, evalOf f (.func g) = .func (.func g) #[] #[] := fun _ => rfl
      refine relUpon_value ?_ hC (fun _ => Below.refl _ _) rfl
      go_simp
    -- 5: slot 21 := call { builtin len, args := #[t20], argTypes := #[56] }
    · intro w L f hC hLi hLd hLn hF
      obtain ⟨d20, _⟩ := hF
      have d20 : f 20 = .slice A1 n1 c1 := d20
      refine Step2.live rfl ?_
      have ev : ∀ t, evalOf f (.tmp t) = f t := fun _ => rfl
      have ec : ∀ c, evalOf f (.const c) = c := fun _ => rfl
      have ef : ∀ g, evalOf f (.func g) = .func (.func g) #[] #[] := fun _ => rfl
      refine relUpon_value ?_ hC (fun _ => Below.refl _ _) rfl
      go_simp
    -- 6: slot 22 := convert 3 37 t21
    · intro w L f hC hLi hLd hLn hF
      obtain ⟨d21, _⟩ := hF
      have d21 : f 21 = .int .i64 n1 := d21
      refine Step2.live rfl ?_
      have ev : ∀ t, evalOf f (.tmp t) = f t := fun _ => rfl
      have ec : ∀ c, evalOf f (.const c) = c := fun _ => rfl
      have ef : ∀ g, evalOf f (.func g) = .func (.func g) #[] #[] := fun _ => rfl
      refine relUpon_value ?_ hC (fun _ => Below.refl _ _) rfl
      go_simp
    -- 7: slot 23 := buildSlice 47 1 #[(0, t22)]
    · intro w L f hC hLi hLd hLn hF
      obtain ⟨d22, _⟩ := hF
      have d22 : f 22 = .int .u64 n1 := d22
      refine Step2.live rfl ?_
      have ev : ∀ t, evalOf f (.tmp t) = f t := fun _ => rfl
      have ec : ∀ c, evalOf f (.const c) = c := fun _ => rfl
      have ef : ∀ g, evalOf f (.func g) = .func (.func g) #[] #[] := fun _ => rfl
      refine relUpon_value (w' := w.alloc (.cells #[.int .u64 n1] 37)) (v := .slice (some ⟨w.heap.size, 0, none⟩) 1 1) (by go_simp) (hC.alloc (hLn 8 (by simp)) _) (fun _ => below_new _ _) (fun _ => ⟨_, rfl, (hC.m (hLn 8 (by simp))).size, Holds.new _ _ _⟩)
    -- 8: slot 24 := call { value (Operand.func 27), args := #[t18, t23], argTypes := #[28, 47] }
    · intro w L f hC hLi hLd hLn hF
      obtain ⟨d18, d23, _⟩ := hF
      have d18 : f 18 = .pointer (some ⟨g, 0, none⟩) := d18
      refine Step2.live rfl ?_
      obtain ⟨kn, e0, hkn, hrow⟩ := d23 hLi
      have ev : ∀ t, evalOf f (.tmp t) = f t := fun _ => rfl
      have ec : ∀ c, evalOf f (.const c) = c := fun _ => rfl
      have ef : ∀ g, evalOf f (.func g) = .func (.func g) #[] #[] := fun _ => rfl
      refine relUpon_call (f := 27) (args := #[.pointer (some ⟨g, 0, none⟩), .slice (some ⟨kn, 0, none⟩) 1 1]) (w := w) (by go_simp) (num_puts (l2 := l ++ numE n1) (hC.m hLi) hu.out hBb.out [n1] 1 hrow hkn rfl (by simp [u64V]) (by simp; omega) (by have := hl.out; omega) (by simp)) ?_
      intro e w1 hw1
      exact ⟨_, hw1.1, ⟨fun e => by simp at e, fun _ => by have := hw1.1; subst this; exact hw1⟩, fun h => absurd rfl h, trivial⟩
  intro x w' hC hV

  have hd := Lib.hid (hC.d rfl)
  clear hV hC
  simp only [framed]
  have g0 : w'.cell? ⟨bx, 0, none⟩ = some (.slice A1 n1 c1) := by
    obtain ⟨_, u', _, hM, _⟩ := hd.out
    exact ((hkb.out w' hM).fact 0 rfl).2
  go_wp2_with fail
  clear g0
  go_loopw [28] (fun i wl => ∃ k : Nat, k ≤ n1 ∧ i = .int .i64 k ∧ Wrote wb B g t u (l ++ numE n1 ++ (s.al.take k).flatMap alE) (.returned (.tuple #[])) wl) (fun i _ => n1 - (intOf i).toNat)
  case atStart => exact ⟨0, by omega, rfl, by simpa using hd.out⟩
  clear hd f0 hu
  obtain ⟨k, hk, rfl, hd⟩ := hrel
  obtain ⟨-, u1, hu1, hM1, hF1⟩ := hd
  have hcn := numE_len10 n1 (by omega)
  have hcl : (l ++ numE n1 ++ (s.al.take k).flatMap alE).length ≤ 99000020020 := by
    have h2 := flat_len' alE 20 s.al (fun a ha => alE_len (hs.out.1 a ha)) k
    have := hl.out
    simp only [List.length_append]
    omega
  by_cases hlt : k < n1
  case pos =>
    have hlt2 : k < s.al.length := by rw [hh1.out]; exact hlt
    obtain ⟨b, off, rfl, hbl, hne, hcell⟩ := Row.elem (C := 2) (hrw1.out wr hM1) (fun _ _ => rfl) (by omega) (k := k) hlt2
    have q0 : wr.cell? ⟨b, off + k * 2, none⟩ = some (.int .i64 s.al[k].pos) := hcell 0 _ rfl
    have q1 : wr.cell? ⟨b, off + k * 2 + 1, none⟩ = some (.int .i64 s.al[k].kind) := hcell 1 _ rfl
    have hao := Lib.hid (hs.out.1 _ (List.getElem_mem hlt2))
    have hft := Lib.hid (flat_take alE s.al k hlt2)
    clear hcell hne
    generalize s.al[k] = a at *
    have hnx : Hid (∀ w2, Wrote wr B g t u1 (l ++ numE n1 ++ (s.al.take k).flatMap alE ++ (intE a.pos ++ intE a.kind)) (.returned (.tuple #[])) w2 → Wrote wb B g t u (l ++ numE n1 ++ (s.al.take (k + 1)).flatMap alE) (.returned (.tuple #[])) w2) := Lib.hid fun w2 h => by
      rw [hft.out, ← List.append_assoc]
      exact Wrote.next hM1 hF1 h
    generalize l ++ numE n1 ++ (s.al.take k).flatMap alE = cur at *
    have hlc := Lib.hid hcl
    have hox := Lib.hid (Holds.new wr 75 #[.int .i64 a.pos, .int .i64 a.kind])
    have hbn := Lib.hid (below_new wr (.cells #[.int .i64 a.pos, .int .i64 a.kind] 75))
    have hu2 := Lib.hid (hu1.below hbn.out)
    have hB2 := Lib.hid (Nat.le_trans hBb.out (Nat.le_trans hM1.size hbn.out.size))
    have hnx2 : Hid (∀ w2, Wrote (wr.alloc (.cells #[.int .i64 a.pos, .int .i64 a.kind] 75)) B g t u1 (cur ++ (intE a.pos ++ intE a.kind)) (.returned (.tuple #[])) w2 → Wrote wb B g t u (l ++ numE n1 ++ (s.al.take (k + 1)).flatMap alE) (.returned (.tuple #[])) w2) := Lib.hid fun w2 h => hnx.out _ (Wrote.before hbn.out h).1
    clear hnx hu1 hM1 hF1 hft hcl hcn hbl
    go_wp2_with fail
    generalize wr.alloc (.cells #[.int .i64 a.pos, .int .i64 a.kind] 75) = wx at hox hbn hu2 hB2 hnx2 ⊢
    clear hbn q0 q1
    generalize wr.heap.size = bx2 at hox ⊢
    have f1 := Lib.hid (hox.out.fact 0 rfl)
    have f2 := Lib.hid (hox.out.fact 1 rfl)
    -- THE REGION THAT DRAWS ITS ORDER, BY ONE LEXICAL WALK OVER GENERIC VALUES (written by relgen.py)
    refine wp_region_tabL ((fun _ _ v => v = .pointer (some ⟨g, 0, none⟩)) ::
      (fun _ _ v => v = .pointer (some ⟨g, 0, none⟩)) ::
      (fun _ _ v => v = .pointer (some ⟨g, 0, none⟩)) ::
      (fun _ _ v => v = .pointer (some ⟨bx2, 0, none⟩)) ::
      (fun _ _ v => v = .int .i64 a.pos) ::
      (fun _ _ v => v = .pointer (some ⟨bx2, 1, none⟩)) ::
      (fun _ _ v => v = .int .i64 a.kind) ::
      (fun L w v => Till 8 (fun w v => NewCells wx.heap.size 2 #[.int .i64 a.pos, .int .i64 a.kind] 2 w v) L w v) ::
      (fun _ _ _ => True) :: [])
      (⟨[(0, none)], 0, [8]⟩ :: ⟨[(32, some 0)], 0, [8]⟩ :: ⟨[(33, some 1)], 0, [8]⟩ :: ⟨[(7, none)], 0, [8]⟩ :: ⟨[(35, some 3)], 0, [8]⟩ :: ⟨[(7, none)], 0, [8]⟩ :: ⟨[(37, some 5)], 0, [8]⟩ :: ⟨[(36, some 4), (38, some 6)], 0, [8]⟩ :: ⟨[(34, some 2), (39, some 7)], 0, []⟩ :: [])
      (none :: none :: none :: none :: none :: none :: none :: none :: none :: none :: none :: none :: none :: none :: none :: none :: none :: none :: none :: none :: none :: none :: none :: none :: none :: none :: none :: none :: none :: none :: none :: none :: some 0 :: some 1 :: some 2 :: some 3 :: some 4 :: some 5 :: some 6 :: some 7 :: some 8 :: [])
      (fun L w' => PutAt wx B g t u1 (cur ++ (intE a.pos ++ intE a.kind)) (L 8) w') (fun i w w' => i ≠ 8 → Below w.heap.size w w') ?mixK7 ?okK7 ?tabK7 ?frK7 ?inK7 ?keptK7 ?startK7 ?eachK7 ?finK7
    case mixK7 => kernel_rfl
    case okK7 => kernel_rfl
    case tabK7 => kernel_rfl
    case frK7 => kernel_rfl
    case inK7 => rfl
    case keptK7 => exact ⟨fun _ _ _ _ _ _ _ _ _ _ _ h => h, fun _ _ _ _ _ _ _ _ _ _ _ h => h, fun _ _ _ _ _ _ _ _ _ _ _ h => h, fun _ _ _ _ _ _ _ _ _ _ _ h => h, fun _ _ _ _ _ _ _ _ _ _ _ h => h, fun _ _ _ _ _ _ _ _ _ _ _ h => h, fun _ _ _ _ _ _ _ _ _ _ _ h => h, fun _ _ _ _ _ _ _ _ _ _ hG h => Till.keep h fun hne h => h.keep (hG hne), fun _ _ _ _ _ _ _ _ _ _ _ h => h, trivial⟩
    case startK7 => exact ⟨fun _ => (Below.refl _ _).drew, fun h => by simp at h⟩
    case eachK7 =>
      refine ⟨?_, ?_, ?_, ?_, ?_, ?_, ?_, ?_, ?_, trivial⟩
      -- 0: slot 32 := move t0
      · intro w L f hC hLi hLd hLn hF
        obtain ⟨d0, _⟩ := hF
        have d0 : f 0 = .pointer (some ⟨g, 0, none⟩) := d0
        refine Step2.live rfl ?_
        exact relUpon_value (v := f 0) rfl (hC) (fun _ => Below.refl _ _) d0
      -- 1: slot 33 := nilCheck t32
      · intro w L f hC hLi hLd hLn hF
        obtain ⟨d32, _⟩ := hF
        have d32 : f 32 = .pointer (some ⟨g, 0, none⟩) := d32
        refine Step2.live rfl ?_
        have ev : ∀ t, evalOf f (.tmp t) = f t := fun _ => rfl
        have ec : ∀ c, evalOf f (.const c) = c := fun _ => rfl
        have ef : ∀ g, evalOf f (.func g) = .func (.func g) #[] #[] := fun _ => rfl
        refine relUpon_value ?_ hC (fun _ => Below.refl _ _) rfl
        go_simp
      -- 2: slot 34 := fieldAddr 30 t33 0
      · intro w L f hC hLi hLd hLn hF
        obtain ⟨d33, _⟩ := hF
        have d33 : f 33 = .pointer (some ⟨g, 0, none⟩) := d33
        refine Step2.live rfl ?_
        have ev : ∀ t, evalOf f (.tmp t) = f t := fun _ => rfl
        have ec : ∀ c, evalOf f (.const c) = c := fun _ => rfl
        have ef : ∀ g, evalOf f (.func g) = .func (.func g) #[] #[] := fun _ => rfl
        refine relUpon_value ?_ hC (fun _ => Below.refl _ _) rfl
        go_simp
      -- 3: slot 35 := fieldAddr 75 t7 0
      · intro w L f hC hLi hLd hLn hF
        obtain ⟨d7, _⟩ := hF
        have d7 : f 7 = .pointer (some ⟨bx2, 0, none⟩) := d7
        refine Step2.live rfl ?_
        have ev : ∀ t, evalOf f (.tmp t) = f t := fun _ => rfl
        have ec : ∀ c, evalOf f (.const c) = c := fun _ => rfl
        have ef : ∀ g, evalOf f (.func g) = .func (.func g) #[] #[] := fun _ => rfl
        refine relUpon_value ?_ hC (fun _ => Below.refl _ _) rfl
        go_simp
      -- 4: slot 36 := load 3 t35
      · intro w L f hC hLi hLd hLn hF
        obtain ⟨d35, _⟩ := hF
        have d35 : f 35 = .pointer (some ⟨bx2, 0, none⟩) := d35
        refine Step2.live rfl ?_
        have hcell0 := ((hC.m (hLn 8 (by simp))).cell f1.out.1).trans f1.out.2
        have ev : ∀ t, evalOf f (.tmp t) = f t := fun _ => rfl
        have ec : ∀ c, evalOf f (.const c) = c := fun _ => rfl
        have ef : ∀ g, evalOf f (.func g) = .func (.func g) #[] #[] := fun _ => rfl
        refine relUpon_value ?_ hC (fun _ => Below.refl _ _) rfl
        go_simp
      -- 5: slot 37 := fieldAddr 75 t7 1
      · intro w L f hC hLi hLd hLn hF
        obtain ⟨d7, _⟩ := hF
        have d7 : f 7 = .pointer (some ⟨bx2, 0, none⟩) := d7
        refine Step2.live rfl ?_
        have ev : ∀ t, evalOf f (.tmp t) = f t := fun _ => rfl
        have ec : ∀ c, evalOf f (.const c) = c := fun _ => rfl
        have ef : ∀ g, evalOf f (.func g) = .func (.func g) #[] #[] := fun _ => rfl
        refine relUpon_value ?_ hC (fun _ => Below.refl _ _) rfl
        go_simp
      -- 6: slot 38 := load 3 t37
      · intro w L f hC hLi hLd hLn hF
        obtain ⟨d37, _⟩ := hF
        have d37 : f 37 = .pointer (some ⟨bx2, 1, none⟩) := d37
        refine Step2.live rfl ?_
        have hcell0 := ((hC.m (hLn 8 (by simp))).cell f2.out.1).trans f2.out.2
        have ev : ∀ t, evalOf f (.tmp t) = f t := fun _ => rfl
        have ec : ∀ c, evalOf f (.const c) = c := fun _ => rfl
        have ef : ∀ g, evalOf f (.func g) = .func (.func g) #[] #[] := fun _ => rfl
        refine relUpon_value ?_ hC (fun _ => Below.refl _ _) rfl
        go_simp
      -- 7: slot 39 := buildSlice 48 2 #[(0, t36), (1, t38)]
      · intro w L f hC hLi hLd hLn hF
        obtain ⟨d36, d38, _⟩ := hF
        have d36 : f 36 = .int .i64 a.pos := d36
        have d38 : f 38 = .int .i64 a.kind := d38
        refine Step2.live rfl ?_
        have ev : ∀ t, evalOf f (.tmp t) = f t := fun _ => rfl
        have ec : ∀ c, evalOf f (.const c) = c := fun _ => rfl
        have ef : ∀ g, evalOf f (.func g) = .func (.func g) #[] #[] := fun _ => rfl
        refine relUpon_value (w' := w.alloc (.cells #[.int .i64 a.pos, .int .i64 a.kind] 2)) (v := .slice (some ⟨w.heap.size, 0, none⟩) 2 2) (by go_simp) (hC.alloc (hLn 8 (by simp)) _) (fun _ => below_new _ _) (fun _ => ⟨_, rfl, (hC.m (hLn 8 (by simp))).size, Holds.new _ _ _⟩)
      -- 8: slot 40 := call { value (Operand.func 16), args := #[t34, t39], argTypes := #[28, 48] }
      · intro w L f hC hLi hLd hLn hF
        obtain ⟨d34, d39, _⟩ := hF
        have d34 : f 34 = .pointer (some ⟨g, 0, none⟩) := d34
        refine Step2.live rfl ?_
        obtain ⟨kn, e0, hkn, hrow⟩ := d39 hLi
        have ev : ∀ t, evalOf f (.tmp t) = f t := fun _ => rfl
        have ec : ∀ c, evalOf f (.const c) = c := fun _ => rfl
        have ef : ∀ g, evalOf f (.func g) = .func (.func g) #[] #[] := fun _ => rfl
        refine relUpon_call (f := 16) (args := #[.pointer (some ⟨g, 0, none⟩), .slice (some ⟨kn, 0, none⟩) 2 2]) (w := w) (by go_simp) (int_puts (l2 := cur ++ (intE a.pos ++ intE a.kind)) (hC.m hLi) hu2.out hB2.out [a.pos, a.kind] 2 hrow hkn rfl rfl (by simpa [Al.ok, i64ok] using hao.out) (by have := hlc.out; omega) (by simp)) ?_
        intro e w1 hw1
        exact ⟨_, hw1.1, ⟨fun e => by simp at e, fun _ => by have := hw1.1; subst this; exact hw1⟩, fun h => absurd rfl h, trivial⟩
    intro x w' hC hV

    have hd := hnx2.out w' (hC.d rfl)
    clear hV hC
    simp only [framed]
    go_wp2_with fail
    go_roundw
    case rel => exact ⟨k + 1, by omega, by go_num, hd⟩
    case measure => simp [intOf]; omega
  obtain rfl : k = n1 := by omega
  rw [show s.al.take k = s.al from by rw [← hh1.out, List.take_length]] at hu1 hcl
  have hnx : Hid (∀ w2 L2 e, Wrote wr B g t u1 L2 e w2 → Wrote wb B g t u L2 e w2) := Lib.hid fun w2 L2 e h => Wrote.next hM1 hF1 h
  have hlc := Lib.hid hcl
  generalize hcur : l ++ numE k ++ s.al.flatMap alE = cur at *
  clear hcur
  have hu1 := Lib.hid hu1
  rename_i hu1'
  have hB1 := Lib.hid (Nat.le_trans hBb.out hM1.size)
  have f1 := Lib.hid ((hkb.out wr hM1).fact 1 rfl)
  clear hu1' hM1 hF1 hcl hcn hlt
  go_wp2_with fail
  -- THE REGION THAT DRAWS ITS ORDER, BY ONE LEXICAL WALK OVER GENERIC VALUES (written by relgen.py)
  refine wp_region_tabL ((fun _ _ v => v = .pointer (some ⟨g, 0, none⟩)) ::
    (fun _ _ v => v = .pointer (some ⟨g, 0, none⟩)) ::
    (fun _ _ v => v = .pointer (some ⟨g, 0, none⟩)) ::
    (fun _ _ v => v = .pointer (some ⟨bx, 1, none⟩)) ::
    (fun _ _ v => v = .bool s.ends) ::
    (fun L w v => Till 6 (fun w v => NewCells wr.heap.size 4 #[.bool s.ends] 1 w v) L w v) ::
    (fun _ _ _ => True) :: [])
    (⟨[(0, none)], 0, [6]⟩ :: ⟨[(42, some 0)], 0, [6]⟩ :: ⟨[(43, some 1)], 0, [6]⟩ :: ⟨[(5, none)], 0, [6]⟩ :: ⟨[(45, some 3)], 0, [6]⟩ :: ⟨[(46, some 4)], 0, [6]⟩ :: ⟨[(44, some 2), (47, some 5)], 0, []⟩ :: [])
    (none :: none :: none :: none :: none :: none :: none :: none :: none :: none :: none :: none :: none :: none :: none :: none :: none :: none :: none :: none :: none :: none :: none :: none :: none :: none :: none :: none :: none :: none :: none :: none :: none :: none :: none :: none :: none :: none :: none :: none :: none :: none :: some 0 :: some 1 :: some 2 :: some 3 :: some 4 :: some 5 :: some 6 :: [])
    (fun L w' => PutAt wr B g t u1 (cur ++ boolE s.ends) (L 6) w') (fun i w w' => i ≠ 6 → Below w.heap.size w w') ?mixK9 ?okK9 ?tabK9 ?frK9 ?inK9 ?keptK9 ?startK9 ?eachK9 ?finK9
  case mixK9 => kernel_rfl
  case okK9 => kernel_rfl
  case tabK9 => kernel_rfl
  case frK9 => kernel_rfl
  case inK9 => rfl
  case keptK9 => exact ⟨fun _ _ _ _ _ _ _ _ _ _ _ h => h, fun _ _ _ _ _ _ _ _ _ _ _ h => h, fun _ _ _ _ _ _ _ _ _ _ _ h => h, fun _ _ _ _ _ _ _ _ _ _ _ h => h, fun _ _ _ _ _ _ _ _ _ _ _ h => h, fun _ _ _ _ _ _ _ _ _ _ hG h => Till.keep h fun hne h => h.keep (hG hne), fun _ _ _ _ _ _ _ _ _ _ _ h => h, trivial⟩
  case startK9 => exact ⟨fun _ => (Below.refl _ _).drew, fun h => by simp at h⟩
  case eachK9 =>
    refine ⟨?_, ?_, ?_, ?_, ?_, ?_, ?_, trivial⟩
    -- 0: slot 42 := move t0
    · intro w L f hC hLi hLd hLn hF
      obtain ⟨d0, _⟩ := hF
      have d0 : f 0 = .pointer (some ⟨g, 0, none⟩) := d0
      refine Step2.live rfl ?_
      exact relUpon_value (v := f 0) rfl (hC) (fun _ => Below.refl _ _) d0
    -- 1: slot 43 := nilCheck t42
    · intro w L f hC hLi hLd hLn hF
      obtain ⟨d42, _⟩ := hF
      have d42 : f 42 = .pointer (some ⟨g, 0, none⟩) := d42
      refine Step2.live rfl ?_
      have ev : ∀ t, evalOf f (.tmp t) = f t := fun _ => rfl
      have ec : ∀ c, evalOf f (.const c) = c := fun _ => rfl
      have ef : ∀ g, evalOf f (.func g) = .func (.func g) #[] #[] := fun _ => rfl
      refine relUpon_value ?_ hC (fun _ => Below.refl _ _) rfl
      go_simp
    -- 2: slot 44 := fieldAddr 30 t43 0
    · intro w L f hC hLi hLd hLn hF
      obtain ⟨d43, _⟩ := hF
      have d43 : f 43 = .pointer (some ⟨g, 0, none⟩) := d43
      refine Step2.live rfl ?_
      have ev : ∀ t, evalOf f (.tmp t) = f t := fun _ => rfl
      have ec : ∀ c, evalOf f (.const c) = c := fun _ => rfl
      have ef : ∀ g, evalOf f (.func g) = .func (.func g) #[] #[] := fun _ => rfl
      refine relUpon_value ?_ hC (fun _ => Below.refl _ _) rfl
      go_simp
    -- 3: slot 45 := fieldAddr 61 t5 1
    · intro w L f hC hLi hLd hLn hF
      obtain ⟨d5, _⟩ := hF
      have d5 : f 5 = .pointer (some ⟨bx, 0, none⟩) := d5
      refine Step2.live rfl ?_
      have ev : ∀ t, evalOf f (.tmp t) = f t := fun _ => rfl
      have ec : ∀ c, evalOf f (.const c) = c := fun _ => rfl
      have ef : ∀ g, evalOf f (.func g) = .func (.func g) #[] #[] := fun _ => rfl
      refine relUpon_value ?_ hC (fun _ => Below.refl _ _) rfl
      go_simp
    -- 4: slot 46 := load 4 t45
    · intro w L f hC hLi hLd hLn hF
      obtain ⟨d45, _⟩ := hF
      have d45 : f 45 = .pointer (some ⟨bx, 1, none⟩) := d45
      refine Step2.live rfl ?_
      have hcell0 := ((hC.m (hLn 6 (by simp))).cell f1.out.1).trans f1.out.2
      have ev : ∀ t, evalOf f (.tmp t) = f t := fun _ => rfl
      have ec : ∀ c, evalOf f (.const c) = c := fun _ => rfl
      have ef : ∀ g, evalOf f (.func g) = .func (.func g) #[] #[] := fun _ => rfl
      refine relUpon_value ?_ hC (fun _ => Below.refl _ _) rfl
      go_simp
    -- 5: slot 47 := buildSlice 49 1 #[(0, t46)]
    · intro w L f hC hLi hLd hLn hF
      obtain ⟨d46, _⟩ := hF
      have d46 : f 46 = .bool s.ends := d46
      refine Step2.live rfl ?_
      have ev : ∀ t, evalOf f (.tmp t) = f t := fun _ => rfl
      have ec : ∀ c, evalOf f (.const c) = c := fun _ => rfl
      have ef : ∀ g, evalOf f (.func g) = .func (.func g) #[] #[] := fun _ => rfl
      refine relUpon_value (w' := w.alloc (.cells #[.bool s.ends] 4)) (v := .slice (some ⟨w.heap.size, 0, none⟩) 1 1) (by go_simp) (hC.alloc (hLn 6 (by simp)) _) (fun _ => below_new _ _) (fun _ => ⟨_, rfl, (hC.m (hLn 6 (by simp))).size, Holds.new _ _ _⟩)
    -- 6: slot 48 := call { value (Operand.func 28), args := #[t44, t47], argTypes := #[28, 49] }
    · intro w L f hC hLi hLd hLn hF
      obtain ⟨d44, d47, _⟩ := hF
      have d44 : f 44 = .pointer (some ⟨g, 0, none⟩) := d44
      refine Step2.live rfl ?_
      obtain ⟨kn, e0, hkn, hrow⟩ := d47 hLi
      have ev : ∀ t, evalOf f (.tmp t) = f t := fun _ => rfl
      have ec : ∀ c, evalOf f (.const c) = c := fun _ => rfl
      have ef : ∀ g, evalOf f (.func g) = .func (.func g) #[] #[] := fun _ => rfl
      refine relUpon_call (f := 28) (args := #[.pointer (some ⟨g, 0, none⟩), .slice (some ⟨kn, 0, none⟩) 1 1]) (w := w) (by go_simp) (bool_puts (l2 := cur ++ boolE s.ends) (hC.m hLi) hu1.out hB1.out [s.ends] 1 hrow hkn rfl rfl (by have := hlc.out; omega) (by simp)) ?_
      intro e w1 hw1
      exact ⟨_, hw1.1, ⟨fun e => by simp at e, fun _ => by have := hw1.1; subst this; exact hw1⟩, fun h => absurd rfl h, trivial⟩
  intro x w' hC hV

  have hd := Lib.hid (hnx.out w' _ _ (hC.d rfl))
  clear hV hC
  simp only [framed]
  obtain ⟨-, u2, hu2, hM2, hF2⟩ := hd.out
  have hz := hkb.out w' hM2
  have g2 := (hz.fact 2 rfl).2
  have g3 := (hz.fact 3 rfl).2
  have g4 := (hz.fact 4 rfl).2
  have hnx2 : Hid (∀ w2 L2 e, Wrote w' B g t u2 L2 e w2 → Wrote wb B g t u L2 e w2) := Lib.hid fun w2 L2 e h => Wrote.next hM2 hF2 h
  have hu2 := Lib.hid hu2
  rename_i hu2'
  have hB2 := Lib.hid (Nat.le_trans hBb.out hM2.size)
  clear hd hu2' hM2 hF2 hz hnx f1
  go_wp2_with fail
  refine (interval_any w' B g t u2 _ s.ret hu2.out hB2.out hs.out.2.1 (by have := hlc.out; simp [boolE]; omega)).mono ?_
  intro e wi hwi
  obtain rfl := hwi.1
  have hd := Lib.hid (hnx2.out _ _ _ hwi)
  clear hwi hnx2 hu2 hB2 g2 g3 g4
  obtain ⟨-, u3, hu3, hM3, hF3⟩ := hd.out
  have hnx3 : Hid (∀ w2 L2 e, Wrote wi B g t u3 L2 e w2 → Wrote wb B g t u L2 e w2) := Lib.hid fun w2 L2 e h => Wrote.next hM3 hF3 h
  have hu3 := Lib.hid hu3
  rename_i hu3'
  have hB3 := Lib.hid (Nat.le_trans hBb.out hM3.size)
  have f5 := Lib.hid ((hkb.out wi hM3).fact 5 rfl)
  have hlc3 : Hid ((cur ++ boolE s.ends ++ ivE s.ret).length ≤ 99000030000) := Lib.hid (by
    have h1 := hlc.out
    have h2 := ivE_len hs.out.2.1
    simp [boolE]
    omega)
  clear hd hu3' hM3 hF3
  generalize hcur3 : cur ++ boolE s.ends ++ ivE s.ret = cur3 at *
  clear hcur3
  go_wp2_with fail
  -- THE REGION THAT DRAWS ITS ORDER, BY ONE LEXICAL WALK OVER GENERIC VALUES (written by relgen.py)
  refine wp_region_tabL ((fun _ _ v => v = .pointer (some ⟨g, 0, none⟩)) ::
    (fun _ _ v => v = .pointer (some ⟨g, 0, none⟩)) ::
    (fun _ _ v => v = .pointer (some ⟨g, 0, none⟩)) ::
    (fun _ _ v => v = .pointer (some ⟨bx, 5, none⟩)) ::
    (fun _ _ v => v = .slice A2 n2 c2) ::
    (fun _ _ v => v = .int .i64 n2) ::
    (fun _ _ v => v = .int .u64 n2) ::
    (fun L w v => Till 8 (fun w v => NewCells wi.heap.size 37 #[.int .u64 n2] 1 w v) L w v) ::
    (fun _ _ _ => True) :: [])
    (⟨[(0, none)], 0, [8]⟩ :: ⟨[(53, some 0)], 0, [8]⟩ :: ⟨[(54, some 1)], 0, [8]⟩ :: ⟨[(5, none)], 0, [8]⟩ :: ⟨[(56, some 3)], 0, [8]⟩ :: ⟨[(57, some 4)], 0, [8]⟩ :: ⟨[(58, some 5)], 0, [8]⟩ :: ⟨[(59, some 6)], 0, [8]⟩ :: ⟨[(55, some 2), (60, some 7)], 0, []⟩ :: [])
    (none :: none :: none :: none :: none :: none :: none :: none :: none :: none :: none :: none :: none :: none :: none :: none :: none :: none :: none :: none :: none :: none :: none :: none :: none :: none :: none :: none :: none :: none :: none :: none :: none :: none :: none :: none :: none :: none :: none :: none :: none :: none :: none :: none :: none :: none :: none :: none :: none :: none :: none :: none :: none :: some 0 :: some 1 :: some 2 :: some 3 :: some 4 :: some 5 :: some 6 :: some 7 :: some 8 :: [])
    (fun L w' => PutAt wi B g t u3 (cur3 ++ numE n2) (L 8) w') (fun i w w' => i ≠ 8 → Below w.heap.size w w') ?mixK11 ?okK11 ?tabK11 ?frK11 ?inK11 ?keptK11 ?startK11 ?eachK11 ?finK11
  case mixK11 => kernel_rfl
  case okK11 => kernel_rfl
  case tabK11 => kernel_rfl
  case frK11 => kernel_rfl
  case inK11 => rfl
  case keptK11 => exact ⟨fun _ _ _ _ _ _ _ _ _ _ _ h => h, fun _ _ _ _ _ _ _ _ _ _ _ h => h, fun _ _ _ _ _ _ _ _ _ _ _ h => h, fun _ _ _ _ _ _ _ _ _ _ _ h => h, fun _ _ _ _ _ _ _ _ _ _ _ h => h, fun _ _ _ _ _ _ _ _ _ _ _ h => h, fun _ _ _ _ _ _ _ _ _ _ _ h => h, fun _ _ _ _ _ _ _ _ _ _ hG h => Till.keep h fun hne h => h.keep (hG hne), fun _ _ _ _ _ _ _ _ _ _ _ h => h, trivial⟩
  case startK11 => exact ⟨fun _ => (Below.refl _ _).drew, fun h => by simp at h⟩
  case eachK11 =>
    refine ⟨?_, ?_, ?_, ?_, ?_, ?_, ?_, ?_, ?_, trivial⟩
    -- 0: slot 53 := move t0
    · intro w L f hC hLi hLd hLn hF
      obtain ⟨d0, _⟩ := hF
      have d0 : f 0 = .pointer (some ⟨g, 0, none⟩) := d0
      refine Step2.live rfl ?_
      exact relUpon_value (v := f 0) rfl (hC) (fun _ => Below.refl _ _) d0
    -- 1: slot 54 := nilCheck t53
    · intro w L f hC hLi hLd hLn hF
      obtain ⟨d53, _⟩ := hF
      have d53 : f 53 = .pointer (some ⟨g, 0, none⟩) := d53
      refine Step2.live rfl ?_
      have ev : ∀ t, evalOf f (.tmp t) = f t := fun _ => rfl
      have ec : ∀ c, evalOf f (.const c) = c := fun _ => rfl
      have ef : ∀ g, evalOf f (.func g) = .func (.func g) #[] #[] := fun _ => rfl
      refine relUpon_value ?_ hC (fun _ => Below.refl _ _) rfl
      go_simp
    -- 2: slot 55 := fieldAddr 30 t54 0
    · intro w L f hC hLi hLd hLn hF
      obtain ⟨d54, _⟩ := hF
      have d54 : f 54 = .pointer (some ⟨g, 0, none⟩) := d54
      refine Step2.live rfl ?_
      have ev : ∀ t, evalOf f (.tmp t) = f t := fun _ => rfl
      have ec : ∀ c, evalOf f (.const c) = c := fun _ => rfl
      have ef : ∀ g, evalOf f (.func g) = .func (.func g) #[] #[] := fun _ => rfl
      refine relUpon_value ?_ hC (fun _ => Below.refl _ _) rfl
      go_simp
    -- 3: slot 56 := fieldAddr 61 t5 3
    · intro w L f hC hLi hLd hLn hF
      obtain ⟨d5, _⟩ := hF
      have d5 : f 5 = .pointer (some ⟨bx, 0, none⟩) := d5
      refine Step2.live rfl ?_
      have ev : ∀ t, evalOf f (.tmp t) = f t := fun _ => rfl
      have ec : ∀ c, evalOf f (.const c) = c := fun _ => rfl
      have ef : ∀ g, evalOf f (.func g) = .func (.func g) #[] #[] := fun _ => rfl
      refine relUpon_value ?_ hC (fun _ => Below.refl _ _) rfl
      go_simp
    -- 4: slot 57 := load 59 t56
    · intro w L f hC hLi hLd hLn hF
      obtain ⟨d56, _⟩ := hF
      have d56 : f 56 = .pointer (some ⟨bx, 5, none⟩) := d56
      refine Step2.live rfl ?_
      have hcell0 := ((hC.m (hLn 8 (by simp))).cell f5.out.1).trans f5.out.2
      have ev : ∀ t, evalOf f (.tmp t) = f t := fun _ => rfl
      have ec : ∀ c, evalOf f (.const c) = c := fun _ => rfl
      have ef : ∀ g, evalOf f (.func g) = .func (.func g) #[] #[] := fun _ => rfl
      refine relUpon_value ?_ hC (fun _ => Below.refl _ _) rfl
      go_simp
    -- 5: slot 58 := call { builtin len, args := #[t57], argTypes := #[59] }
    · intro w L f hC hLi hLd hLn hF
      obtain ⟨d57, _⟩ := hF
      have d57 : f 57 = .slice A2 n2 c2 := d57
      refine Step2.live rfl ?_
      have ev : ∀ t, evalOf f (.tmp t) = f t := fun _ => rfl
      have ec : ∀ c, evalOf f (.const c) = c := fun _ => rfl
      have ef : ∀ g, evalOf f (.func g) = .func (.func g) #[] #[] := fun _ => rfl
      refine relUpon_value ?_ hC (fun _ => Below.refl _ _) rfl
      go_simp
    -- 6: slot 59 := convert 3 37 t58
    · intro w L f hC hLi hLd hLn hF
      obtain ⟨d58, _⟩ := hF
      have d58 : f 58 = .int .i64 n2 := d58
      refine Step2.live rfl ?_
      have ev : ∀ t, evalOf f (.tmp t) = f t := fun _ => rfl
      have ec : ∀ c, evalOf f (.const c) = c := fun _ => rfl
      have ef : ∀ g, evalOf f (.func g) = .func (.func g) #[] #[] := fun _ => rfl
      refine relUpon_value ?_ hC (fun _ => Below.refl _ _) rfl
      go_simp
    -- 7: slot 60 := buildSlice 47 1 #[(0, t59)]
    · intro w L f hC hLi hLd hLn hF
      obtain ⟨d59, _⟩ := hF
      have d59 : f 59 = .int .u64 n2 := d59
      refine Step2.live rfl ?_
      have ev : ∀ t, evalOf f (.tmp t) = f t := fun _ => rfl
      have ec : ∀ c, evalOf f (.const c) = c := fun _ => rfl
      have ef : ∀ g, evalOf f (.func g) = .func (.func g) #[] #[] := fun _ => rfl
      refine relUpon_value (w' := w.alloc (.cells #[.int .u64 n2] 37)) (v := .slice (some ⟨w.heap.size, 0, none⟩) 1 1) (by go_simp) (hC.alloc (hLn 8 (by simp)) _) (fun _ => below_new _ _) (fun _ => ⟨_, rfl, (hC.m (hLn 8 (by simp))).size, Holds.new _ _ _⟩)
    -- 8: slot 61 := call { value (Operand.func 27), args := #[t55, t60], argTypes := #[28, 47] }
    · intro w L f hC hLi hLd hLn hF
      obtain ⟨d55, d60, _⟩ := hF
      have d55 : f 55 = .pointer (some ⟨g, 0, none⟩) := d55
      refine Step2.live rfl ?_
      obtain ⟨kn, e0, hkn, hrow⟩ := d60 hLi
      have ev : ∀ t, evalOf f (.tmp t) = f t := fun _ => rfl
      have ec : ∀ c, evalOf f (.const c) = c := fun _ => rfl
      have ef : ∀ g, evalOf f (.func g) = .func (.func g) #[] #[] := fun _ => rfl
      refine relUpon_call (f := 27) (args := #[.pointer (some ⟨g, 0, none⟩), .slice (some ⟨kn, 0, none⟩) 1 1]) (w := w) (by go_simp) (num_puts (l2 := cur3 ++ numE n2) (hC.m hLi) hu3.out hB3.out [n2] 1 hrow hkn rfl (by simp [u64V]) (by simp; omega) (by have := hlc3.out; omega) (by simp)) ?_
      intro e w1 hw1
      exact ⟨_, hw1.1, ⟨fun e => by simp at e, fun _ => by have := hw1.1; subst this; exact hw1⟩, fun h => absurd rfl h, trivial⟩
  intro x w' hC hV

  have hd := Lib.hid (hnx3.out w' _ _ (hC.d rfl))
  clear hV hC hnx3 hu3 hB3 f5
  simp only [framed]
  have g0 : w'.cell? ⟨bx, 5, none⟩ = some (.slice A2 n2 c2) := by
    obtain ⟨_, u', _, hM, _⟩ := hd.out
    exact ((hkb.out w' hM).fact 5 rfl).2
  go_wp2_with fail
  clear g0
  go_loopw [65] (fun i wl => ∃ j : Nat, j ≤ n2 ∧ i = .int .i64 j ∧ Wrote wb B g t u (cur3 ++ numE n2 ++ (s.md.take j).flatMap nmE) (.returned (.tuple #[])) wl) (fun i _ => n2 - (intOf i).toNat)
  case atStart => exact ⟨0, by omega, rfl, by simpa using hd.out⟩
  clear hd
  obtain ⟨j, hj, rfl, hd⟩ := hrel
  obtain ⟨-, u1, hu1, hM1, hF1⟩ := hd
  have hcn := numE_len10 n2 (by omega)
  have hcl : (cur3 ++ numE n2 ++ (s.md.take j).flatMap nmE).length ≤ 99001100000 := by
    have h2 := flat_len' nmE 1031 s.md (fun a ha => nmE_len (hs.out.2.2 a ha) (by omega)) j
    have := hlc3.out
    simp only [List.length_append]
    omega
  by_cases hlt : j < n2
  case pos =>
    have hlt2 : j < s.md.length := by rw [hh2.out]; exact hlt
    obtain ⟨b, off, rfl, hbl, hne, hcell⟩ := Row.elem (C := 4) (hrw2.out wr hM1) (fun _ _ => rfl) (by omega) (k := j) hlt2
    have q0 : wr.cell? ⟨b, off + j * 4, none⟩ = some (.string s.md[j].name) := hcell 0 _ rfl
    have q1 : wr.cell? ⟨b, off + j * 4 + 1, none⟩ = some (.bool s.md[j].v.s) := hcell 1 _ rfl
    have q2 : wr.cell? ⟨b, off + j * 4 + 2, none⟩ = some (.int .i64 s.md[j].v.lo) := hcell 2 _ rfl
    have q3 : wr.cell? ⟨b, off + j * 4 + 3, none⟩ = some (.int .i64 s.md[j].v.hi) := hcell 3 _ rfl
    have hao := Lib.hid (hs.out.2.2 _ (List.getElem_mem hlt2))
    have hft := Lib.hid (flat_take nmE s.md j hlt2)
    clear hcell hne
    generalize s.md[j] = a at *
    have hnx : Hid (∀ w2, Wrote wr B g t u1 (cur3 ++ numE n2 ++ (s.md.take j).flatMap nmE ++ txtE a.name ++ ivE a.v) (.returned (.tuple #[])) w2 → Wrote wb B g t u (cur3 ++ numE n2 ++ (s.md.take (j + 1)).flatMap nmE) (.returned (.tuple #[])) w2) := Lib.hid fun w2 h => by
      rw [hft.out, ← List.append_assoc]
      refine Wrote.next hM1 hF1 ?_
      rw [List.append_assoc] at h
      exact h
    generalize cur3 ++ numE n2 ++ (s.md.take j).flatMap nmE = cur at *
    have hlc := Lib.hid hcl
    have hox := Lib.hid (Holds.new wr 118 #[.string a.name, .bool a.v.s, .int .i64 a.v.lo, .int .i64 a.v.hi])
    have hbn := Lib.hid (below_new wr (.cells #[.string a.name, .bool a.v.s, .int .i64 a.v.lo, .int .i64 a.v.hi] 118))
    have hu2 := Lib.hid (hu1.below hbn.out)
    have hB2 := Lib.hid (Nat.le_trans hBb.out (Nat.le_trans hM1.size hbn.out.size))
    have hnx2 : Hid (∀ w2, Wrote (wr.alloc (.cells #[.string a.name, .bool a.v.s, .int .i64 a.v.lo, .int .i64 a.v.hi] 118)) B g t u1 (cur ++ txtE a.name ++ ivE a.v) (.returned (.tuple #[])) w2 → Wrote wb B g t u (cur3 ++ numE n2 ++ (s.md.take (j + 1)).flatMap nmE) (.returned (.tuple #[])) w2) := Lib.hid fun w2 h => hnx.out _ (Wrote.before hbn.out h).1
    have hko : Hid (some wr.heap.size ∉ [some g, u1.ownBlock]) := Lib.hid (hu1.lt (Nat.le_refl _))
    clear hnx hu1 hM1 hF1 hft hcl hcn hbl
    go_wp2_with fail
    generalize wr.alloc (.cells #[.string a.name, .bool a.v.s, .int .i64 a.v.lo, .int .i64 a.v.hi] 118) = wx at hox hbn hu2 hB2 hnx2 ⊢
    clear hbn q0 q1 q2 q3
    generalize wr.heap.size = bx2 at hox hko ⊢
    have f1 := Lib.hid (hox.out.fact 0 rfl)
    -- THE REGION THAT DRAWS ITS ORDER, BY ONE LEXICAL WALK OVER GENERIC VALUES (written by relgen.py)
    refine wp_region_tabL ((fun _ _ v => v = .pointer (some ⟨g, 0, none⟩)) ::
      (fun _ _ v => v = .pointer (some ⟨g, 0, none⟩)) ::
      (fun _ _ v => v = .pointer (some ⟨g, 0, none⟩)) ::
      (fun _ _ v => v = .pointer (some ⟨bx2, 0, none⟩)) ::
      (fun _ _ v => v = .string a.name) ::
      (fun L w v => Till 6 (fun w v => NewCells wx.heap.size 9 #[.string a.name] 1 w v) L w v) ::
      (fun _ _ _ => True) :: [])
      (⟨[(0, none)], 0, [6]⟩ :: ⟨[(69, some 0)], 0, [6]⟩ :: ⟨[(70, some 1)], 0, [6]⟩ :: ⟨[(9, none)], 0, [6]⟩ :: ⟨[(72, some 3)], 0, [6]⟩ :: ⟨[(73, some 4)], 0, [6]⟩ :: ⟨[(71, some 2), (74, some 5)], 0, []⟩ :: [])
      (none :: none :: none :: none :: none :: none :: none :: none :: none :: none :: none :: none :: none :: none :: none :: none :: none :: none :: none :: none :: none :: none :: none :: none :: none :: none :: none :: none :: none :: none :: none :: none :: none :: none :: none :: none :: none :: none :: none :: none :: none :: none :: none :: none :: none :: none :: none :: none :: none :: none :: none :: none :: none :: none :: none :: none :: none :: none :: none :: none :: none :: none :: none :: none :: none :: none :: none :: none :: none :: some 0 :: some 1 :: some 2 :: some 3 :: some 4 :: some 5 :: some 6 :: [])
      (fun L w' => PutAt wx B g t u1 (cur ++ txtE a.name) (L 6) w') (fun i w w' => i ≠ 6 → Below w.heap.size w w') ?mixK15 ?okK15 ?tabK15 ?frK15 ?inK15 ?keptK15 ?startK15 ?eachK15 ?finK15
    case mixK15 => kernel_rfl
    case okK15 => kernel_rfl
    case tabK15 => kernel_rfl
    case frK15 => kernel_rfl
    case inK15 => rfl
    case keptK15 => exact ⟨fun _ _ _ _ _ _ _ _ _ _ _ h => h, fun _ _ _ _ _ _ _ _ _ _ _ h => h, fun _ _ _ _ _ _ _ _ _ _ _ h => h, fun _ _ _ _ _ _ _ _ _ _ _ h => h, fun _ _ _ _ _ _ _ _ _ _ _ h => h, fun _ _ _ _ _ _ _ _ _ _ hG h => Till.keep h fun hne h => h.keep (hG hne), fun _ _ _ _ _ _ _ _ _ _ _ h => h, trivial⟩
    case startK15 => exact ⟨fun _ => (Below.refl _ _).drew, fun h => by simp at h⟩
    case eachK15 =>
      refine ⟨?_, ?_, ?_, ?_, ?_, ?_, ?_, trivial⟩
      -- 0: slot 69 := move t0
      · intro w L f hC hLi hLd hLn hF
        obtain ⟨d0, _⟩ := hF
        have d0 : f 0 = .pointer (some ⟨g, 0, none⟩) := d0
        refine Step2.live rfl ?_
        exact relUpon_value (v := f 0) rfl (hC) (fun _ => Below.refl _ _) d0
      -- 1: slot 70 := nilCheck t69
      · intro w L f hC hLi hLd hLn hF
        obtain ⟨d69, _⟩ := hF
        have d69 : f 69 = .pointer (some ⟨g, 0, none⟩) := d69
        refine Step2.live rfl ?_
        have ev : ∀ t, evalOf f (.tmp t) = f t := fun _ => rfl
        have ec : ∀ c, evalOf f (.const c) = c := fun _ => rfl
        have ef : ∀ g, evalOf f (.func g) = .func (.func g) #[] #[] := fun _ => rfl
        refine relUpon_value ?_ hC (fun _ => Below.refl _ _) rfl
        go_simp
      -- 2: slot 71 := fieldAddr 30 t70 0
      · intro w L f hC hLi hLd hLn hF
        obtain ⟨d70, _⟩ := hF
        have d70 : f 70 = .pointer (some ⟨g, 0, none⟩) := d70
        refine Step2.live rfl ?_
        have ev : ∀ t, evalOf f (.tmp t) = f t := fun _ => rfl
        have ec : ∀ c, evalOf f (.const c) = c := fun _ => rfl
        have ef : ∀ g, evalOf f (.func g) = .func (.func g) #[] #[] := fun _ => rfl
        refine relUpon_value ?_ hC (fun _ => Below.refl _ _) rfl
        go_simp
      -- 3: slot 72 := fieldAddr 118 t9 0
      · intro w L f hC hLi hLd hLn hF
        obtain ⟨d9, _⟩ := hF
        have d9 : f 9 = .pointer (some ⟨bx2, 0, none⟩) := d9
        refine Step2.live rfl ?_
        have ev : ∀ t, evalOf f (.tmp t) = f t := fun _ => rfl
        have ec : ∀ c, evalOf f (.const c) = c := fun _ => rfl
        have ef : ∀ g, evalOf f (.func g) = .func (.func g) #[] #[] := fun _ => rfl
        refine relUpon_value ?_ hC (fun _ => Below.refl _ _) rfl
        go_simp
      -- 4: slot 73 := load 9 t72
      · intro w L f hC hLi hLd hLn hF
        obtain ⟨d72, _⟩ := hF
        have d72 : f 72 = .pointer (some ⟨bx2, 0, none⟩) := d72
        refine Step2.live rfl ?_
        have hcell0 := ((hC.m (hLn 6 (by simp))).cell f1.out.1).trans f1.out.2
        have ev : ∀ t, evalOf f (.tmp t) = f t := fun _ => rfl
        have ec : ∀ c, evalOf f (.const c) = c := fun _ => rfl
        have ef : ∀ g, evalOf f (.func g) = .func (.func g) #[] #[] := fun _ => rfl
        refine relUpon_value ?_ hC (fun _ => Below.refl _ _) rfl
        go_simp
      -- 5: slot 74 := buildSlice 40 1 #[(0, t73)]
      · intro w L f hC hLi hLd hLn hF
        obtain ⟨d73, _⟩ := hF
        have d73 : f 73 = .string a.name := d73
        refine Step2.live rfl ?_
        have ev : ∀ t, evalOf f (.tmp t) = f t := fun _ => rfl
        have ec : ∀ c, evalOf f (.const c) = c := fun _ => rfl
        have ef : ∀ g, evalOf f (.func g) = .func (.func g) #[] #[] := fun _ => rfl
        refine relUpon_value (w' := w.alloc (.cells #[.string a.name] 9)) (v := .slice (some ⟨w.heap.size, 0, none⟩) 1 1) (by go_simp) (hC.alloc (hLn 6 (by simp)) _) (fun _ => below_new _ _) (fun _ => ⟨_, rfl, (hC.m (hLn 6 (by simp))).size, Holds.new _ _ _⟩)
      -- 6: slot 75 := call { value (Operand.func 22), args := #[t71, t74], argTypes := #[28, 40] }
      · intro w L f hC hLi hLd hLn hF
        obtain ⟨d71, d74, _⟩ := hF
        have d71 : f 71 = .pointer (some ⟨g, 0, none⟩) := d71
        refine Step2.live rfl ?_
        obtain ⟨kn, e0, hkn, hrow⟩ := d74 hLi
        have ev : ∀ t, evalOf f (.tmp t) = f t := fun _ => rfl
        have ec : ∀ c, evalOf f (.const c) = c := fun _ => rfl
        have ef : ∀ g, evalOf f (.func g) = .func (.func g) #[] #[] := fun _ => rfl
        refine relUpon_call (f := 22) (args := #[.pointer (some ⟨g, 0, none⟩), .slice (some ⟨kn, 0, none⟩) 1 1]) (w := w) (by go_simp) (text_puts (l2 := cur ++ txtE a.name) (hC.m hLi) hu2.out hB2.out [a.name] 1 1000 hrow hkn rfl rfl (by simpa using hao.out.1) (by omega) (by have := hlc.out; omega) (by simp)) ?_
        intro e w1 hw1
        exact ⟨_, hw1.1, ⟨fun e => by simp at e, fun _ => by have := hw1.1; subst this; exact hw1⟩, fun h => absurd rfl h, trivial⟩
    intro x w' hC hV

    have hd := Lib.hid (hC.d rfl)
    clear hV hC
    simp only [framed]
    obtain ⟨-, u4, hu4, hM4, hF4⟩ := hd.out
    have hz := hM4.holds hox.out hko.out
    have g1 := (hz.fact 1 rfl).2
    have g2 := (hz.fact 2 rfl).2
    have g3 := (hz.fact 3 rfl).2
    have hnx4 : Hid (∀ w2 L2 e, Wrote w' B g t u4 L2 e w2 → Wrote wx B g t u1 L2 e w2) := Lib.hid fun w2 L2 e h => Wrote.next hM4 hF4 h
    have hu4 := Lib.hid hu4
    rename_i hu4'
    have hB4 := Lib.hid (Nat.le_trans hB2.out hM4.size)
    clear hd hu4' hM4 hF4 hz f1
    go_wp2_with fail
    refine (interval_any w' B g t u4 _ a.v hu4.out hB4.out hao.out.2 (by have := hlc.out; have h9 := txtE_len 1000 a.name hao.out.1 (by omega); rw [List.length_append]; omega)).mono ?_
    intro e wi hwi
    obtain rfl := hwi.1
    have hd := hnx2.out _ (hnx4.out _ _ _ hwi)
    clear hwi
    go_wp2_with fail
    go_roundw
    case rel => exact ⟨j + 1, by omega, by go_num, hd⟩
    case measure => simp [intOf]; omega
  obtain rfl : j = n2 := by omega
  rw [show s.md.take j = s.md from by rw [← hh2.out, List.take_length]] at hu1
  have hd : Wrote wb B g t u (cur3 ++ numE j ++ s.md.flatMap nmE) (.returned (.tuple #[])) wr := ⟨rfl, u1, hu1, hM1, hF1⟩
  have hd := hback.out _ _ hd
  clear hu1 hM1 hF1 hcl
  go_wp2_with fail
  go_roundw
  case rel => exact .inr ⟨by go_num, hd⟩
  case measure => simp [intOf]
end Go.Proofs.Ytimhghmnnibajaa
