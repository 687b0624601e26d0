/-
  Summaries: what they hold, how they lie in memory, how they are written. Calls of the writer over rows of several values made on the spot. The walk of Writer.interval.
-/
import Derived.Test.YtimhghmnnibajaaCodeR
import Derived.Test.YtimhghmnnibajaaRelL
namespace Go.Proofs.Ytimhghmnnibajaa
open Go.RowKit Go.ChangeShapes Go.WideShapes Go.Deep

/-- A row of several cells, made behind the world of size n. -/
def NewCells (n : Nat) (t : TypeId) (cs : Array Value) (m : Nat) (w : World) (v : Value) : Prop := ∃ k, v = .slice (some ⟨k, 0, none⟩) m m ∧ n ≤ k ∧ Holds w k t cs
theorem NewCells.keep {n m : Nat} {t : TypeId} {cs : Array Value} {w w' : World} {v : Value} (h : NewCells n t cs m w v) (hb : Below w.heap.size w w') : NewCells n t cs m w' v := by
  obtain ⟨k, h1, h2, h3⟩ := h
  exact ⟨k, h1, h2, h3.below hb h3.lt⟩
section
variable {wr w : World} {B g k : Nat} {t et : TypeId} {u : Value} {l l2 : List UInt8}
theorem Row.heldN {w : World} {k : Nat} {t : TypeId} {cs : Array Value} {vs : List Value} (h : Holds w k t cs) (hc : vs.toArray = cs) : Row w w.heap.size (some ⟨k, 0, none⟩) vs := by
  subst hc
  have := Row.ofHolds h h.lt
  simpa using this
theorem num_puts (hb : Below wr.heap.size wr w) (hw : Wrt wr B g t u l) (hB : B ≤ wr.heap.size) (ns : List Nat) (m : Nat) {cs : Array Value} (h : Holds w k et cs) (hk : wr.heap.size ≤ k) (hm : ns.length = m) (hcs : (ns.map u64V).toArray = cs) (hn : ∀ n ∈ ns, n < 18446744073709551616) (hlen : l.length + 10 * m ≤ 99999999990) (hl2 : l ++ ns.flatMap numE = l2) :
    Calls Try.prog 27 #[.pointer (some ⟨g, 0, none⟩), .slice (some ⟨k, 0, none⟩) m m] w (Wrote wr B g t u l2) := by
  subst hm hl2
  refine (num_any w B g t u l (some ⟨k, 0, none⟩) _ ns (hw.below hb) (Nat.le_trans hB hb.size) hn (Row.heldN h hcs) (fun _ => hw.lt hk) (by omega)).mono ?_
  intro e w' h
  exact (Wrote.before hb h).1
theorem int_puts (hb : Below wr.heap.size wr w) (hw : Wrt wr B g t u l) (hB : B ≤ wr.heap.size) (ns : List Int) (m : Nat) {cs : Array Value} (h : Holds w k et cs) (hk : wr.heap.size ≤ k) (hm : ns.length = m) (hcs : (ns.map i64V).toArray = cs) (hn : ∀ n ∈ ns, -9223372036854775808 ≤ n ∧ n ≤ 9223372036854775807) (hlen : l.length + 10 * m ≤ 99999999990) (hl2 : l ++ ns.flatMap intE = l2) :
    Calls Try.prog 16 #[.pointer (some ⟨g, 0, none⟩), .slice (some ⟨k, 0, none⟩) m m] w (Wrote wr B g t u l2) := by
  subst hm hl2
  refine (int_any w B g t u l (some ⟨k, 0, none⟩) _ ns (hw.below hb) (Nat.le_trans hB hb.size) hn (Row.heldN h hcs) (fun _ => hw.lt hk) (by omega)).mono ?_
  intro e w' h
  exact (Wrote.before hb h).1
theorem text_puts (hb : Below wr.heap.size wr w) (hw : Wrt wr B g t u l) (hB : B ≤ wr.heap.size) (ss : List ByteArray) (m M : Nat) {cs : Array Value} (h : Holds w k et cs) (hk : wr.heap.size ≤ k) (hm : ss.length = m) (hcs : (ss.map Value.string).toArray = cs) (hn : ∀ s ∈ ss, s.size ≤ M) (hM : M ≤ 10000000000) (hlen : l.length + (10 + M) * m ≤ 99999999990) (hl2 : l ++ ss.flatMap txtE = l2) :
    Calls Try.prog 22 #[.pointer (some ⟨g, 0, none⟩), .slice (some ⟨k, 0, none⟩) m m] w (Wrote wr B g t u l2) := by
  subst hm hl2
  refine (text_any w B g t u l (some ⟨k, 0, none⟩) _ M ss (hw.below hb) (Nat.le_trans hB hb.size) hn hM (Row.heldN h hcs) (fun _ => hw.lt hk) (by omega)).mono ?_
  intro e w' h
  exact (Wrote.before hb h).1
theorem bool_puts (hb : Below wr.heap.size wr w) (hw : Wrt wr B g t u l) (hB : B ≤ wr.heap.size) (bs : List Bool) (m : Nat) {cs : Array Value} (h : Holds w k et cs) (hk : wr.heap.size ≤ k) (hm : bs.length = m) (hcs : (bs.map Value.bool).toArray = cs) (hlen : l.length + 1 * m ≤ 99999999990) (hl2 : l ++ bs.flatMap boolE = l2) :
    Calls Try.prog 28 #[.pointer (some ⟨g, 0, none⟩), .slice (some ⟨k, 0, none⟩) m m] w (Wrote wr B g t u l2) := by
  subst hm hl2
  refine (bool_any w B g t u l (some ⟨k, 0, none⟩) _ bs (hw.below hb) (Nat.le_trans hB hb.size) (Row.heldN h hcs) (fun _ => hw.lt hk) (by omega)).mono ?_
  intro e w' h
  exact (Wrote.before hb h).1
end
/-- One call of a writer behind another. -/
theorem Wrote.then_ {w w' w'' : World} {B g : Nat} {t : TypeId} {v : Value} {l l2 : List UInt8} {e e2 : Ending} (h : Wrote w B g t v l e w') (h2 : ∀ u, Wrt w' B g t u l → Wrote w' B g t u l2 e2 w'') : Wrote w B g t v l2 e2 w'' := by
  obtain ⟨_, v', h1, hM, hF⟩ := h
  obtain ⟨he, v'', h3, hM2, hF2⟩ := h2 v' h1
  exact ⟨he, v'', h3, writes_then hM hF hM2, hF.trans hF2 hM.size⟩

theorem Wrote.next {w w' w'' : World} {B g : Nat} {t : TypeId} {v u : Value} {l2 : List UInt8} {e2 : Ending} (hM : Writes [some g, v.ownBlock] w w') (hF : Fresh w v u) (h2 : Wrote w' B g t u l2 e2 w'') : Wrote w B g t v l2 e2 w'' := by
  obtain ⟨he, v'', h3, hM2, hF2⟩ := h2
  exact ⟨he, v'', h3, writes_then hM hF hM2, hF.trans hF2 hM.size⟩

/-- An interval, an alarm, a named interval, a summary. -/
structure Iv where
  s : Bool
  lo : Int
  hi : Int
structure Al where
  pos : Int
  kind : Int
structure Nm where
  name : ByteArray
  v : Iv
structure Sm where
  al : List Al
  ends : Bool
  ret : Iv
  md : List Nm
def i64ok (z : Int) : Prop := -9223372036854775808 ≤ z ∧ z ≤ 9223372036854775807
def Iv.ok (v : Iv) : Prop := i64ok v.lo ∧ i64ok v.hi
def Al.ok (a : Al) : Prop := i64ok a.pos ∧ i64ok a.kind
def Nm.ok (M : Nat) (m : Nm) : Prop := m.name.size ≤ M ∧ m.v.ok
def Iv.cells (v : Iv) : List Value := [.bool v.s, .int .i64 v.lo, .int .i64 v.hi]
def Al.cells (a : Al) : List Value := [.int .i64 a.pos, .int .i64 a.kind]
def Nm.cells (m : Nm) : List Value := .string m.name :: m.v.cells
/-- What is written of each. -/
def ivE (v : Iv) : List UInt8 := boolE v.s ++ if v.s = true then intE v.lo ++ intE v.hi else []
def alE (a : Al) : List UInt8 := intE a.pos ++ intE a.kind
def nmE (m : Nm) : List UInt8 := txtE m.name ++ ivE m.v
def alsE (l : List Al) : List UInt8 := numE l.length ++ l.flatMap alE
def smE (s : Sm) : List UInt8 := alsE s.al ++ boolE s.ends ++ ivE s.ret ++ numE s.md.length ++ s.md.flatMap nmE
theorem intE_len {z : Int} (h : i64ok z) : (intE z).length ≤ 10 := numE_len10 _ (zigN_lt z h.1 h.2)
theorem ivE_len {v : Iv} (h : v.ok) : (ivE v).length ≤ 21 := by
  have h1 := intE_len h.1
  have h2 := intE_len h.2
  unfold ivE
  split <;> simp [boolE] <;> omega
theorem alE_len {a : Al} (h : a.ok) : (alE a).length ≤ 20 := by
  have h1 := intE_len h.1
  have h2 := intE_len h.2
  unfold alE
  simp
  omega
theorem nmE_len {M : Nat} {m : Nm} (h : m.ok M) (hM : M ≤ 10000000000) : (nmE m).length ≤ M + 31 := by
  have h1 := txtE_len M m.name h.1 (by omega)
  have h2 := ivE_len h.2
  unfold nmE
  simp
  omega

theorem Holds.fact {w : World} {k : Nat} {t : TypeId} {cs : Array Value} (h : Holds w k t cs) (i : Nat) {v : Value} (hv : cs[i]? = some v) : k < w.heap.size ∧ w.cell? ⟨k, i, none⟩ = some v := ⟨h.lt, by rw [h.cell]; exact hv⟩

theorem ivE_true (lo hi : Int) (l : List UInt8) : l ++ boolE true ++ (intE lo ++ intE hi) = l ++ ivE ⟨true, lo, hi⟩ := by simp [ivE]
theorem ivE_false (lo hi : Int) (l : List UInt8) : l ++ boolE false = l ++ ivE ⟨false, lo, hi⟩ := by simp [ivE]

set_option maxRecDepth 100000 in
set_option maxHeartbeats 2000000 in
theorem interval_any (w0 : World) (B g : Nat) (t : TypeId) (u : Value) (l : List UInt8) (v : Iv) (hw : Wrt w0 B g t u l) (hB : B ≤ w0.heap.size) (hv : v.ok) (hlen : l.length ≤ 99999999900) :
    Calls Try.prog 67 #[.pointer (some ⟨g, 0, none⟩), .agg #[.bool v.s, .int .i64 v.lo, .int .i64 v.hi]] w0 (Wrote w0 B g t u (l ++ ivE v)) := by
  obtain ⟨s, lo, hi⟩ := v
  have hlo := Lib.hid hv.1
  have hhi := Lib.hid hv.2
  clear hv
  have hlen := Lib.hid hlen
  rename_i hlen'
  clear hlen'
  simp only
  obtain ⟨E, hE⟩ : ∃ E, E = ivE ⟨s, lo, hi⟩ := ⟨_, rfl⟩
  rw [← hE]
  have hE := Lib.hid hE
  rename_i hE'
  clear hE'
  have hbx := Holds.new w0 58 #[.bool s, .int .i64 lo, .int .i64 hi]
  have hw1 := Lib.hid (hw.below (below_new w0 (.cells #[.bool s, .int .i64 lo, .int .i64 hi] 58)))
  have hB1 : Hid (B ≤ (w0.alloc (.cells #[.bool s, .int .i64 lo, .int .i64 hi] 58)).heap.size) := Lib.hid (by simp; omega)
  have hback : Hid (∀ e w', Wrote (w0.alloc (.cells #[.bool s, .int .i64 lo, .int .i64 hi] 58)) B g t u (l ++ E) e w' → Wrote w0 B g t u (l ++ E) e w') := Lib.hid fun e w' h => (Wrote.before (below_new w0 _) h).1
  have hkb : Hid (∀ wa, Writes [some g, u.ownBlock] (w0.alloc (.cells #[.bool s, .int .i64 lo, .int .i64 hi] 58)) wa → Holds wa w0.heap.size 58 #[.bool s, .int .i64 lo, .int .i64 hi]) := Lib.hid fun wa hM => hM.holds hbx (hw.lt (Nat.le_refl _))
  have f0 := Lib.hid (hbx.fact 0 rfl)
  clear hbx hw hB
  go_enter Try.func67, Try.ntmps67
  go_wp2_with fail
  generalize w0.alloc (.cells #[.bool s, .int .i64 lo, .int .i64 hi] 58) = wr at hw1 hB1 hback hkb f0 ⊢
  generalize w0.heap.size = bx at hkb f0 ⊢
  -- THE REGION THAT DRAWS ITS ORDER, BY ONE LEXICAL WALK OVER GENERIC VALUES (written by relgen.py)
  refine wp_region_tabL ((fun _ _ v => v = .pointer (some ⟨g, 0, none⟩)) ::
    (fun _ _ v => v = .pointer (some ⟨g, 0, none⟩)) ::
    (fun _ _ v => v = .pointer (some ⟨g, 0, none⟩)) ::
    (fun _ _ v => v = .pointer (some ⟨bx, 0, none⟩)) ::
    (fun _ _ v => v = .bool s) ::
    (fun L w v => Till 6 (fun w v => NewCells wr.heap.size 4 #[.bool s] 1 w v) L w v) ::
    (fun _ _ _ => True) :: [])
    (⟨[(0, none)], 0, [6]⟩ :: ⟨[(4, some 0)], 0, [6]⟩ :: ⟨[(5, some 1)], 0, [6]⟩ :: ⟨[(3, none)], 0, [6]⟩ :: ⟨[(7, some 3)], 0, [6]⟩ :: ⟨[(8, some 4)], 0, [6]⟩ :: ⟨[(6, some 2), (9, some 5)], 0, []⟩ :: [])
    (none :: none :: none :: none :: some 0 :: some 1 :: some 2 :: some 3 :: some 4 :: some 5 :: some 6 :: [])
    (fun L w' => PutAt wr B g t u (l ++ boolE s) (L 6) w') (fun i w w' => i ≠ 6 → Below w.heap.size w w') ?mixK1 ?okK1 ?tabK1 ?frK1 ?inK1 ?keptK1 ?startK1 ?eachK1 ?finK1
  case mixK1 => kernel_rfl
  case okK1 => kernel_rfl
  case tabK1 => kernel_rfl
  case frK1 => kernel_rfl
  case inK1 => rfl
  case keptK1 => exact ⟨fun _ _ _ _ _ _ _ _ _ _ _ h => h, fun _ _ _ _ _ _ _ _ _ _ _ h => h, fun _ _ _ _ _ _ _ _ _ _ _ h => h, fun _ _ _ _ _ _ _ _ _ _ _ h => h, fun _ _ _ _ _ _ _ _ _ _ _ h => h, fun _ _ _ _ _ _ _ _ _ _ hG h => Till.keep h fun hne h => h.keep (hG hne), fun _ _ _ _ _ _ _ _ _ _ _ h => h, trivial⟩
  case startK1 => exact ⟨fun _ => (Below.refl _ _).drew, fun h => by simp at h⟩
  case eachK1 =>
    refine ⟨?_, ?_, ?_, ?_, ?_, ?_, ?_, trivial⟩
    -- 0: slot 4 := move t0
    · intro w L f hC hLi hLd hLn hF
      obtain ⟨d0, _⟩ := hF
      have d0 : f 0 = .pointer (some ⟨g, 0, none⟩) := d0
      refine Step2.live rfl ?_
      exact relUpon_value (v := f 0) rfl (hC) (fun _ => Below.refl _ _) d0
    -- 1: slot 5 := nilCheck t4
    · intro w L f hC hLi hLd hLn hF
      obtain ⟨d4, _⟩ := hF
      have d4 : f 4 = .pointer (some ⟨g, 0, none⟩) := d4
      refine Step2.live rfl ?_
      have ev : ∀ t, evalOf f (.tmp t) = f t := fun _ => rfl
      have ec : ∀ c, evalOf f (.const c) = c := fun _ => rfl
      have ef : ∀ g, evalOf f (.func g) = .func (.func g) #[] #[] := fun _ => rfl
      refine relUpon_value ?_ hC (fun _ => Below.refl _ _) rfl
      go_simp
    -- 2: slot 6 := fieldAddr 30 t5 0
    · intro w L f hC hLi hLd hLn hF
      obtain ⟨d5, _⟩ := hF
      have d5 : f 5 = .pointer (some ⟨g, 0, none⟩) := d5
      refine Step2.live rfl ?_
      have ev : ∀ t, evalOf f (.tmp t) = f t := fun _ => rfl
      have ec : ∀ c, evalOf f (.const c) = c := fun _ => rfl
      have ef : ∀ g, evalOf f (.func g) = .func (.func g) #[] #[] := fun _ => rfl
      refine relUpon_value ?_ hC (fun _ => Below.refl _ _) rfl
      go_simp
    -- 3: slot 7 := fieldAddr 58 t3 0
    · intro w L f hC hLi hLd hLn hF
      obtain ⟨d3, _⟩ := hF
      have d3 : f 3 = .pointer (some ⟨bx, 0, none⟩) := d3
      refine Step2.live rfl ?_
      have ev : ∀ t, evalOf f (.tmp t) = f t := fun _ => rfl
      have ec : ∀ c, evalOf f (.const c) = c := fun _ => rfl
      have ef : ∀ g, evalOf f (.func g) = .func (.func g) #[] #[] := fun _ => rfl
      refine relUpon_value ?_ hC (fun _ => Below.refl _ _) rfl
      go_simp
    -- 4: slot 8 := load 4 t7
    · intro w L f hC hLi hLd hLn hF
      obtain ⟨d7, _⟩ := hF
      have d7 : f 7 = .pointer (some ⟨bx, 0, none⟩) := d7
      refine Step2.live rfl ?_
      have hcell0 := ((hC.m (hLn 6 (by simp))).cell f0.out.1).trans f0.out.2
      have ev : ∀ t, evalOf f (.tmp t) = f t := fun _ => rfl
      have ec : ∀ c, evalOf f (.const c) = c := fun _ => rfl
      have ef : ∀ g, evalOf f (.func g) = .func (.func g) #[] #[] := fun _ => rfl
      refine relUpon_value ?_ hC (fun _ => Below.refl _ _) rfl
      go_simp
    -- 5: slot 9 := buildSlice 49 1 #[(0, t8)]
    · intro w L f hC hLi hLd hLn hF
      obtain ⟨d8, _⟩ := hF
      have d8 : f 8 = .bool s := d8
      refine Step2.live rfl ?_
      have ev : ∀ t, evalOf f (.tmp t) = f t := fun _ => rfl
      have ec : ∀ c, evalOf f (.const c) = c := fun _ => rfl
      have ef : ∀ g, evalOf f (.func g) = .func (.func g) #[] #[] := fun _ => rfl
      refine relUpon_value (w' := w.alloc (.cells #[.bool s] 4)) (v := .slice (some ⟨w.heap.size, 0, none⟩) 1 1) (by go_simp) (hC.alloc (hLn 6 (by simp)) _) (fun _ => below_new _ _) (fun _ => ⟨_, rfl, (hC.m (hLn 6 (by simp))).size, Holds.new _ _ _⟩)
    -- 6: slot 10 := call { value (Operand.func 28), args := #[t6, t9], argTypes := #[28, 49] }
    · intro w L f hC hLi hLd hLn hF
      obtain ⟨d6, d9, _⟩ := hF
      have d6 : f 6 = .pointer (some ⟨g, 0, none⟩) := d6
      refine Step2.live rfl ?_
      obtain ⟨kn, e0, hkn, hrow⟩ := d9 hLi
      have ev : ∀ t, evalOf f (.tmp t) = f t := fun _ => rfl
      have ec : ∀ c, evalOf f (.const c) = c := fun _ => rfl
      have ef : ∀ g, evalOf f (.func g) = .func (.func g) #[] #[] := fun _ => rfl
      refine relUpon_call (f := 28) (args := #[.pointer (some ⟨g, 0, none⟩), .slice (some ⟨kn, 0, none⟩) 1 1]) (w := w) (by go_simp) (bool_puts (l2 := l ++ boolE s) (hC.m hLi) hw1.out hB1.out [s] 1 hrow hkn rfl rfl (by have := hlen.out; omega) (by simp)) ?_
      intro e w1 hw1
      exact ⟨_, hw1.1, ⟨fun e => by simp at e, fun _ => by have := hw1.1; subst this; exact hw1⟩, fun h => absurd rfl h, trivial⟩
  case finK1 =>
    intro x w' hC hV
    have hr1 := hC.d rfl
    clear hV hC
    simp only [framed]
    obtain ⟨u1, hu1, hM1, hF1⟩ := hr1.2
    have hbx := hkb.out w' hM1
    have c0 := (hbx.fact 0 rfl).2
    have f1 := Lib.hid (hbx.fact 1 rfl)
    have f2 := Lib.hid (hbx.fact 2 rfl)
    have hr1 := Lib.hid hr1
    rename_i hr1'
    have hu1 := Lib.hid hu1
    rename_i hu1'
    have hB2 : Hid (B ≤ w'.heap.size) := Lib.hid (Nat.le_trans hB1.out hM1.size)
    have hM1 := Lib.hid hM1
    rename_i hM1'
    have hF1 := Lib.hid hF1
    rename_i hF1'
    clear hr1' hu1' hbx hM1' hF1' hw1 hB1 hkb f0
    cases s with
    | false =>
      go_wp2_with fail
      go_end0
      exact hback.out _ _ (by rw [hE.out, ← ivE_false]; exact hr1.out)
    | true =>
      obtain ⟨wb, rfl⟩ : ∃ x, x = w' := ⟨_, rfl⟩
      go_wp2_with fail
      -- THE REGION THAT DRAWS ITS ORDER, BY ONE LEXICAL WALK OVER GENERIC VALUES (written by relgen.py)
      refine wp_region_tabL ((fun _ _ v => v = .pointer (some ⟨g, 0, none⟩)) ::
        (fun _ _ v => v = .pointer (some ⟨g, 0, none⟩)) ::
        (fun _ _ v => v = .pointer (some ⟨g, 0, none⟩)) ::
        (fun _ _ v => v = .pointer (some ⟨bx, 1, none⟩)) ::
        (fun _ _ v => v = .int .i64 lo) ::
        (fun _ _ v => v = .pointer (some ⟨bx, 2, none⟩)) ::
        (fun _ _ v => v = .int .i64 hi) ::
        (fun L w v => Till 8 (fun w v => NewCells wb.heap.size 2 #[.int .i64 lo, .int .i64 hi] 2 w v) L w v) ::
        (fun _ _ _ => True) :: [])
        (⟨[(0, none)], 0, [8]⟩ :: ⟨[(13, some 0)], 0, [8]⟩ :: ⟨[(14, some 1)], 0, [8]⟩ :: ⟨[(3, none)], 0, [8]⟩ :: ⟨[(16, some 3)], 0, [8]⟩ :: ⟨[(3, none)], 0, [8]⟩ :: ⟨[(18, some 5)], 0, [8]⟩ :: ⟨[(17, some 4), (19, some 6)], 0, [8]⟩ :: ⟨[(15, some 2), (20, some 7)], 0, []⟩ :: [])
        (none :: none :: none :: none :: none :: none :: none :: none :: none :: none :: none :: none :: none :: some 0 :: some 1 :: some 2 :: some 3 :: some 4 :: some 5 :: some 6 :: some 7 :: some 8 :: [])
        (fun L w' => PutAt wb B g t u1 (l ++ boolE true ++ (intE lo ++ intE hi)) (L 8) w') (fun i w w' => i ≠ 8 → Below w.heap.size w w') ?mixK3 ?okK3 ?tabK3 ?frK3 ?inK3 ?keptK3 ?startK3 ?eachK3 ?finK3
      case mixK3 => kernel_rfl
      case okK3 => kernel_rfl
      case tabK3 => kernel_rfl
      case frK3 => kernel_rfl
      case inK3 => rfl
      case keptK3 => exact ⟨fun _ _ _ _ _ _ _ _ _ _ _ h => h, fun _ _ _ _ _ _ _ _ _ _ _ h => h, fun _ _ _ _ _ _ _ _ _ _ _ h => h, fun _ _ _ _ _ _ _ _ _ _ _ h => h, fun _ _ _ _ _ _ _ _ _ _ _ h => h, fun _ _ _ _ _ _ _ _ _ _ _ h => h, fun _ _ _ _ _ _ _ _ _ _ _ h => h, fun _ _ _ _ _ _ _ _ _ _ hG h => Till.keep h fun hne h => h.keep (hG hne), fun _ _ _ _ _ _ _ _ _ _ _ h => h, trivial⟩
      case startK3 => exact ⟨fun _ => (Below.refl _ _).drew, fun h => by simp at h⟩
      case eachK3 =>
        refine ⟨?_, ?_, ?_, ?_, ?_, ?_, ?_, ?_, ?_, trivial⟩
        -- 0: slot 13 := move t0
        · intro w L f hC hLi hLd hLn hF
          obtain ⟨d0, _⟩ := hF
          have d0 : f 0 = .pointer (some ⟨g, 0, none⟩) := d0
          refine Step2.live rfl ?_
          exact relUpon_value (v := f 0) rfl (hC) (fun _ => Below.refl _ _) d0
        -- 1: slot 14 := nilCheck t13
        · intro w L f hC hLi hLd hLn hF
          obtain ⟨d13, _⟩ := hF
          have d13 : f 13 = .pointer (some ⟨g, 0, none⟩) := d13
          refine Step2.live rfl ?_
          have ev : ∀ t, evalOf f (.tmp t) = f t := fun _ => rfl
          have ec : ∀ c, evalOf f (.const c) = c := fun _ => rfl
          have ef : ∀ g, evalOf f (.func g) = .func (.func g) #[] #[] := fun _ => rfl
          refine relUpon_value ?_ hC (fun _ => Below.refl _ _) rfl
          go_simp
        -- 2: slot 15 := fieldAddr 30 t14 0
        · intro w L f hC hLi hLd hLn hF
          obtain ⟨d14, _⟩ := hF
          have d14 : f 14 = .pointer (some ⟨g, 0, none⟩) := d14
          refine Step2.live rfl ?_
          have ev : ∀ t, evalOf f (.tmp t) = f t := fun _ => rfl
          have ec : ∀ c, evalOf f (.const c) = c := fun _ => rfl
          have ef : ∀ g, evalOf f (.func g) = .func (.func g) #[] #[] := fun _ => rfl
          refine relUpon_value ?_ hC (fun _ => Below.refl _ _) rfl
          go_simp
        -- 3: slot 16 := fieldAddr 58 t3 1
        · intro w L f hC hLi hLd hLn hF
          obtain ⟨d3, _⟩ := hF
          have d3 : f 3 = .pointer (some ⟨bx, 0, none⟩) := d3
          refine Step2.live rfl ?_
          have ev : ∀ t, evalOf f (.tmp t) = f t := fun _ => rfl
          have ec : ∀ c, evalOf f (.const c) = c := fun _ => rfl
          have ef : ∀ g, evalOf f (.func g) = .func (.func g) #[] #[] := fun _ => rfl
          refine relUpon_value ?_ hC (fun _ => Below.refl _ _) rfl
          go_simp
        -- 4: slot 17 := load 2 t16
        · intro w L f hC hLi hLd hLn hF
          obtain ⟨d16, _⟩ := hF
          have d16 : f 16 = .pointer (some ⟨bx, 1, none⟩) := d16
          refine Step2.live rfl ?_
          have hcell0 := ((hC.m (hLn 8 (by simp))).cell f1.out.1).trans f1.out.2
          have ev : ∀ t, evalOf f (.tmp t) = f t := fun _ => rfl
          have ec : ∀ c, evalOf f (.const c) = c := fun _ => rfl
          have ef : ∀ g, evalOf f (.func g) = .func (.func g) #[] #[] := fun _ => rfl
          refine relUpon_value ?_ hC (fun _ => Below.refl _ _) rfl
          go_simp
        -- 5: slot 18 := fieldAddr 58 t3 2
        · intro w L f hC hLi hLd hLn hF
          obtain ⟨d3, _⟩ := hF
          have d3 : f 3 = .pointer (some ⟨bx, 0, none⟩) := d3
          refine Step2.live rfl ?_
          have ev : ∀ t, evalOf f (.tmp t) = f t := fun _ => rfl
          have ec : ∀ c, evalOf f (.const c) = c := fun _ => rfl
          have ef : ∀ g, evalOf f (.func g) = .func (.func g) #[] #[] := fun _ => rfl
          refine relUpon_value ?_ hC (fun _ => Below.refl _ _) rfl
          go_simp
        -- 6: slot 19 := load 2 t18
        · intro w L f hC hLi hLd hLn hF
          obtain ⟨d18, _⟩ := hF
          have d18 : f 18 = .pointer (some ⟨bx, 2, none⟩) := d18
          refine Step2.live rfl ?_
          have hcell0 := ((hC.m (hLn 8 (by simp))).cell f2.out.1).trans f2.out.2
          have ev : ∀ t, evalOf f (.tmp t) = f t := fun _ => rfl
          have ec : ∀ c, evalOf f (.const c) = c := fun _ => rfl
          have ef : ∀ g, evalOf f (.func g) = .func (.func g) #[] #[] := fun _ => rfl
          refine relUpon_value ?_ hC (fun _ => Below.refl _ _) rfl
          go_simp
        -- 7: slot 20 := buildSlice 48 2 #[(0, t17), (1, t19)]
        · intro w L f hC hLi hLd hLn hF
          obtain ⟨d17, d19, _⟩ := hF
          have d17 : f 17 = .int .i64 lo := d17
          have d19 : f 19 = .int .i64 hi := d19
          refine Step2.live rfl ?_
          have ev : ∀ t, evalOf f (.tmp t) = f t := fun _ => rfl
          have ec : ∀ c, evalOf f (.const c) = c := fun _ => rfl
          have ef : ∀ g, evalOf f (.func g) = .func (.func g) #[] #[] := fun _ => rfl
          refine relUpon_value (w' := w.alloc (.cells #[.int .i64 lo, .int .i64 hi] 2)) (v := .slice (some ⟨w.heap.size, 0, none⟩) 2 2) (by go_simp) (hC.alloc (hLn 8 (by simp)) _) (fun _ => below_new _ _) (fun _ => ⟨_, rfl, (hC.m (hLn 8 (by simp))).size, Holds.new _ _ _⟩)
        -- 8: slot 21 := call { value (Operand.func 16), args := #[t15, t20], argTypes := #[28, 48] }
        · intro w L f hC hLi hLd hLn hF
          obtain ⟨d15, d20, _⟩ := hF
          have d15 : f 15 = .pointer (some ⟨g, 0, none⟩) := d15
          refine Step2.live rfl ?_
          obtain ⟨kn, e0, hkn, hrow⟩ := d20 hLi
          have ev : ∀ t, evalOf f (.tmp t) = f t := fun _ => rfl
          have ec : ∀ c, evalOf f (.const c) = c := fun _ => rfl
          have ef : ∀ g, evalOf f (.func g) = .func (.func g) #[] #[] := fun _ => rfl
          refine relUpon_call (f := 16) (args := #[.pointer (some ⟨g, 0, none⟩), .slice (some ⟨kn, 0, none⟩) 2 2]) (w := w) (by go_simp) (int_puts (l2 := l ++ boolE true ++ (intE lo ++ intE hi)) (hC.m hLi) hu1.out hB2.out [lo, hi] 2 hrow hkn rfl rfl (by simp; exact ⟨hlo.out, hhi.out⟩) (by have := hlen.out; simp [boolE]; omega) (by simp)) ?_
          intro e w1 hw1
          exact ⟨_, hw1.1, ⟨fun e => by simp at e, fun _ => by have := hw1.1; subst this; exact hw1⟩, fun h => absurd rfl h, trivial⟩
      case finK3 =>
        intro x w' hC hV
        have hr2 := hC.d rfl
        clear hV hC
        simp only [framed]
        go_wp2_with fail
        go_end0
        exact hback.out _ _ (by rw [hE.out, ← ivE_true]; exact Wrote.next hM1.out hF1.out hr2)


end Go.Proofs.Ytimhghmnnibajaa
