/-
  The walk of CodeCuts.
-/
import Derived.Test.YtimhghmnnibajaaCodeR
import Derived.Test.YtimhghmnnibajaaCodeS
namespace Go.Proofs.Ytimhghmnnibajaa
open Go.RowKit Go.ChangeShapes Go.WideShapes Go.Deep

theorem Try.infoInt : (Try.prog.info? 3).map (fun i => (i.zero, i.size, i.bytes)) = some (some (.int .i64 0), 1, 8) := by kernel_rfl

theorem own_ne {w : World} {base base' : Nat} {e e' : TypeId} {size size' : Nat} {v v' : Value} {n n' : Nat} {xs xs' : List Value} (h : w.ownsRow base e size v n xs) (h' : w.ownsRow base' e' size' v' n' xs') (hne : e ≠ e') :
    v.ownBlock = none ∨ v.ownBlock ≠ v'.ownBlock := by
  rcases h.2 with ⟨rfl, _⟩ | ⟨g, cap, cur, rfl, _, hh, _⟩
  · exact .inl rfl
  · right
    rcases h'.2 with ⟨rfl, _⟩ | ⟨g', cap', cur', rfl, _, hh', _⟩
    · simp [Value.ownBlock]
    · intro he
      have : g = g' := by simpa [Value.ownBlock] using he
      subst this
      rw [hh] at hh'
      injection hh' with h1
      injection h1 with _ h2
      exact hne h2
theorem own_ne_holds {w : World} {base g : Nat} {e t : TypeId} {size : Nat} {v : Value} {n : Nat} {xs : List Value} {cs : Array Value} (h : w.ownsRow base e size v n xs) (h' : Holds w g t cs) (hne : e ≠ t) : v.ownBlock ≠ some g := by
  rcases h.2 with ⟨rfl, _⟩ | ⟨k, cap, cur, rfl, _, hh, _⟩
  · simp [Value.ownBlock]
  · intro he
    have : k = g := by simpa [Value.ownBlock] using he
    subst this
    unfold Holds at h'
    rw [hh] at h'
    injection h' with h1
    injection h1 with _ h2
    exact hne h2

/-- A writer and a row of numbers, both of the call's own. -/
structure WE (W w : World) (g : Nat) (u : Value) (L : List UInt8) (ve : Value) (es : List Nat) : Prop where
  b : Below W.heap.size W w
  x : Wrt w W.heap.size g 30 u L
  o : w.ownsRow W.heap.size 3 1 ve es.length (es.map fun n => .int .i64 (n : Nat))
section
variable {W w w' : World} {g : Nat} {u ve : Value} {L l : List UInt8} {es : List Nat} {e : Ending}
theorem WE.below (h : WE W w g u L ve es) (hb : Below w.heap.size w w') : WE W w' g u L ve es := ⟨h.b.trans (hb.mono h.b.size), h.x.below hb, own_below h.o hb⟩
theorem WE.put (h : WE W w g u L ve es) (hw : Wrote w W.heap.size g 30 u l e w') : e = .returned (.tuple #[]) ∧ ∃ v', WE W w' g v' l ve es := by
  have hb := hw.below h.x h.b.size
  obtain ⟨he, v', h1, h2, h3⟩ := hw
  refine ⟨he, v', h.b.trans hb, h1, h2.own h.o ?_⟩
  rcases own_ne h.o h.x.own (by decide) with h4 | h4
  · exact .inl h4
  · refine .inr ?_
    simp only [List.mem_cons, List.mem_nil_iff, or_false, not_or]
    exact ⟨own_ne_holds h.o h.x.cell (by decide), h4⟩
theorem WE.app (h : WE W w g u L ve es) {wa w3 : World} {v3 : Value} {n : Nat} (hb : Below w.heap.size w wa) (ho : w3.ownsRow W.heap.size 3 1 v3 (es.length + 1) (es.map (fun n => .int .i64 (n : Nat)) ++ [.int .i64 (n : Nat)])) (hg : wa.grownBy w3 ve.ownBlock) :
    WE W w3 g u L v3 (es ++ [n]) := by
  have ha := h.below hb
  have hM : Writes [ve.ownBlock] wa w3 := Writes.of_grown hg (by simp)
  have hb3 : Below W.heap.size wa w3 := hM.below ha.b.size fun k hk => by
    simp only [List.mem_cons, List.mem_nil_iff, or_false] at hk
    exact own_low ha.o hk
  refine ⟨ha.b.trans hb3, ⟨hM.holds ha.x.cell ?_, hM.own ha.x.own ?_, ha.x.low, ha.x.kind⟩, by simpa using ho⟩
  · simp only [List.mem_cons, List.mem_nil_iff, or_false]
    exact fun e => own_ne_holds ha.o ha.x.cell (by decide) e.symm
  · rcases own_ne ha.x.own ha.o (by decide) with h4 | h4
    · exact .inl h4
    · exact .inr (by simpa using h4)
end

theorem place_any (w : World) (k : Int) (n : Nat) (h0 : 0 < n) (hn : n ≤ 100000000000) :
    Calls Try.prog 23 #[.int .i64 k, .int .i64 n] w fun e w' => (∃ r : Nat, e = .returned (.int .i64 r) ∧ r < n) ∧ w' = w := by
  have hr1 := Int.tmod_lt_of_pos k (show (0 : Int) < n by omega)
  have hr2 : -(n : Int) < Int.tmod k n := by
    have := Int.tmod_lt_of_pos (-k) (show (0 : Int) < n by omega)
    rw [Int.neg_tmod] at this
    omega
  have hne : ¬ (n : Int) = 0 := by omega
  by_cases hneg : Int.tmod k n < 0
  · go_enter Try.func23, Try.ntmps23
    go_wp2
    go_ret
    exact ⟨⟨(Int.tmod k n + n).toNat, ret_int (by omega), by omega⟩, rfl⟩
  · go_enter Try.func23, Try.ntmps23
    go_wp2
    go_ret
    exact ⟨⟨(Int.tmod k n).toNat, ret_int (by omega), by omega⟩, rfl⟩

theorem Took.cut {α : Type} {w w' : World} {g : Nat} {val : α → Value} {r : List UInt8 → Option (α × List UInt8)} {zero : α} {st : Option (List UInt8)} {e : Ending} (h : Took w g val r zero st e w') (hst : st = none ∨ ∃ l, st = some l ∧ r l = none) :
    e = .returned (val zero) ∧ Rdr w' g none ∧ Writes [some g] w w' := by
  rcases hst with rfl | ⟨l, rfl, hl⟩
  · exact h.fail
  · exact h.no hl
theorem newReader_len (w : World) (A : Option Addr) (n c : Nat) (l : List UInt8) (hl : Bytes w w.heap.size A l) (hn : l.length = n) (hlen : n ≤ 100000000000) :
    Calls Try.prog 17 #[.slice A n c] w fun e w' => ∃ g, e = .returned (.pointer (some ⟨g, 0, none⟩)) ∧ w.heap.size ≤ g ∧ Rdr w' g (some l) ∧ Below w.heap.size w w' := by
  subst hn
  exact newReader_any w A c l hl hlen
/-- The ends of the first k texts. -/
def endsTo (ss : List ByteArray) (k : Nat) : List Nat := (List.range k).map fun i => endOf ss (i + 1)
theorem endsTo_len (ss : List ByteArray) (k : Nat) : (endsTo ss k).length = k := by simp [endsTo]
theorem endsTo_succ (ss : List ByteArray) (k : Nat) : endsTo ss (k + 1) = endsTo ss k ++ [endOf ss (k + 1)] := by simp [endsTo, List.range_succ]
theorem endOf_le (ss : List ByteArray) (k : Nat) (h : ∀ s ∈ ss.take k, s.size ≤ 200) (hk : k ≤ 10) : endOf ss k ≤ 2100 := by
  unfold endOf
  have := flat_len' txtE 210 (ss.take k) (fun s hs => txtE_len 200 s (h s hs) (by omega)) k
  rw [List.take_take, Nat.min_self] at this
  omega

set_option maxRecDepth 100000 in
set_option maxHeartbeats 8000000 in
theorem cuts_any (W : World) (A : Option Addr) (c : Nat) (ss : List ByteArray) (z : Int) (h3 : Row W W.heap.size A (ss.map Value.string)) (p3 : ∀ s ∈ ss, s.size ≤ maxLen) (m3 : ss.length ≤ maxLen) :
    Calls Try.prog 4 #[.slice A ss.length c, .int .i64 z] W fun e w' => e = .returned (.bool true) ∧ Below W.heap.size W w' := by
  unfold maxLen at m3 p3
  have h3 := Lib.hid h3
  have p3 := Lib.hid p3
  obtain ⟨iI, hiI, hzI0, hzI1, hzI2⟩ := info_parts Try.infoInt
  go_enter Try.func4, Try.ntmps4
  go_wp2_with fail
  refine (known_any _).mono ?_
  rintro e w1 ⟨rfl, hb1⟩
  have hb1 := Lib.hid hb1
  rename_i hb1'
  clear hb1'
  by_cases q0 : ss.length = 0
  case pos =>
    rw [q0]
    go_wp2_with fail
    go_ret
    exact ⟨rfl, hb1.out⟩
  have q0 : 0 < ss.length := by omega
  have hne0 : ((ss.length : Int) == 0) = false := by rw [beq_eq_false_iff_ne]; omega
  by_cases q1 : 10 < ss.length
  case pos =>
    go_wp2_with fail
    go_ret
    exact ⟨rfl, hb1.out⟩
  go_wp2_with fail
  refine (newWriter_any _).mono ?_
  rintro e w2 ⟨rfl, rfl⟩
  have hp : Hid (WE W (w1.alloc (.cells #[.slice none 0 0] 30)) w1.heap.size (.slice none 0 0) [] (.slice none 0 0) []) := Lib.hid ⟨hb1.out.alloc hb1.out.size _, ⟨Holds.new _ _ _, World.ownsRow_nil _ _ _ _, hb1.out.size, by decide⟩, World.ownsRow_nil _ _ _ _⟩
  obtain ⟨g, hg⟩ : ∃ g, w1.heap.size = g := ⟨_, rfl⟩
  rw [hg] at hp ⊢
  generalize w1.alloc (.cells #[.slice none 0 0] 30) = w2 at hp ⊢
  clear hg hb1
  go_wp2_with fail
  go_loopw [6, 7] (fun ve i wr => ∃ k : Nat, k ≤ ss.length ∧ i = .int .i64 k ∧ (∀ s ∈ ss.take k, s.size ≤ 200) ∧ ∃ u, WE W wr g u ((ss.take k).flatMap txtE) ve (endsTo ss k)) (fun _ i _ => ss.length - (intOf i).toNat)
  case atStart => exact ⟨0, by omega, rfl, by simp, _, by simpa [endsTo] using hp.out⟩
  clear hp
  obtain ⟨k, hk, rfl, hs, u, hp⟩ := hrel
  by_cases hlt : k < ss.length
  case pos =>
    obtain ⟨b, off, rfl, hb, hcell0⟩ := Row.at_ (Row.below h3.out hp.b) (k := k) (by simpa using hlt)
    have hcell : wr.cell? ⟨b, off + k, none⟩ = some (.string ss[k]) := by rw [hcell0]; simp
    clear hcell0
    have hbr := Lib.hid (Nat.lt_of_lt_of_le hb hp.b.size)
    have hft := Lib.hid (flat_take txtE ss k hlt)
    have hts := Lib.hid (List.take_succ_eq_append_getElem hlt)
    have hzz : ss[k].size ≤ 9223372036854775807 := by have := p3.out ss[k] (List.getElem_mem hlt); omega
    generalize hxe : ss[k] = xk at *
    clear hxe
    have hp := Lib.hid hp
    rename_i hp'
    clear hp'
    have hs := Lib.hid hs
    rename_i hs'
    clear hs'
    by_cases hq : 200 < xk.size
    · go_wp2_with fail
      go_ret
      exact ⟨rfl, hp.out.b⟩
    · have hxk : Hid (xk.size ≤ 200) := Lib.hid (by omega)
      have hcur : ((ss.take k).flatMap txtE).length ≤ 2100 := endOf_le ss k hs.out (by omega)
      have hxl := txtE_len 200 xk hxk.out (by omega)
      have hek1 : endOf ss (k + 1) = ((ss.take k).flatMap txtE ++ txtE xk).length := by unfold endOf; rw [hft.out]
      have hcl2 : Hid (((ss.take k).flatMap txtE ++ txtE xk).length ≤ 100000000000) := Lib.hid (by rw [List.length_append]; omega)
      have hek0 : Hid (endOf ss (k + 1) ≤ 100000000000) := Lib.hid (by rw [hek1]; exact hcl2.out)
      have hlk : Hid (((ss.take k).flatMap txtE ++ txtE xk).length = endOf ss (k + 1)) := Lib.hid hek1.symm
      have hcl : Hid (((ss.take k).flatMap txtE).length + xk.size ≤ 99999999980) := Lib.hid (by omega)
      clear hek1 hcur hxl
      have hEs := Lib.hid (endsTo_succ ss k)
      have hEl := Lib.hid (endsTo_len ss k)
      have hoffk : Hid (∀ k, wr.heap.size ≤ k → some k ∉ [some g, u.ownBlock]) := Lib.hid fun k hk => hp.out.x.lt hk
      have hcell0 := Lib.hid hcell
      generalize (ss.take k).flatMap txtE = cur at *
      go_wp2_with fail
      clear hcell
      -- THE REGION THAT DRAWS ITS ORDER, BY ONE LEXICAL WALK OVER GENERIC VALUES (written by relgen.py)
      refine wp_region_tab ((fun _ v => v = .pointer (some ⟨g, 0, none⟩)) ::
        (fun _ v => v = .pointer (some ⟨g, 0, none⟩)) ::
        (fun _ v => v = .pointer (some ⟨g, 0, none⟩)) ::
        (fun _ v => v = .slice (some ⟨b, off, none⟩) ss.length c) ::
        (fun _ v => v = .int .i64 k) ::
        (fun _ v => v = .pointer (some ⟨b, off + k, none⟩)) ::
        (fun _ v => v = .string xk) ::
        (fun w v => NewRow wr.heap.size 9 (.string xk) w v) ::
        (fun _ _ => True) :: [])
        (⟨[(5, none)], 0, []⟩ :: ⟨[(36, some 0)], 0, []⟩ :: ⟨[(37, some 1)], 0, []⟩ :: ⟨[(0, none)], 0, []⟩ :: ⟨[(7, none)], 0, []⟩ :: ⟨[(39, some 3), (40, some 4)], 0, []⟩ :: ⟨[(41, some 5)], 0, [7]⟩ :: ⟨[(42, some 6)], 0, [8]⟩ :: ⟨[(38, some 2), (43, some 7)], 0, []⟩ :: [])
        (none :: none :: none :: none :: none :: none :: none :: none :: none :: none :: none :: none :: none :: none :: none :: none :: none :: none :: none :: none :: none :: none :: none :: none :: none :: none :: none :: none :: none :: none :: none :: none :: none :: none :: none :: none :: some 0 :: some 1 :: some 2 :: some 3 :: some 4 :: some 5 :: some 6 :: some 7 :: some 8 :: [])
        (fun L w' => PutAt wr W.heap.size g 30 u (cur ++ txtE xk) (L 8) w' ∧ (L 8 = true → L 7 = true)) (fun _ w w' => Writes [some g, u.ownBlock] w w') ?mixK ?okK ?tabK ?frK ?inK ?keptK ?startK ?eachK ?finK
      case mixK => kernel_rfl
      case okK => kernel_rfl
      case tabK => kernel_rfl
      case frK => kernel_rfl
      case inK => rfl
      case keptK => exact ⟨fun _ _ _ _ _ _ _ h => h, fun _ _ _ _ _ _ _ h => h, fun _ _ _ _ _ _ _ h => h, fun _ _ _ _ _ _ _ h => h, fun _ _ _ _ _ _ _ h => h, fun _ _ _ _ _ _ _ h => h, fun _ _ _ _ _ _ _ h => h, fun _ _ _ => fun w w' v hG h => h.keep hG hoffk.out, fun _ _ _ => fun _ _ _ _ h => h, trivial⟩
      case startK => exact ⟨⟨fun _ => (Below.refl _ _).drew, fun h => by simp at h⟩, fun h => by simp at h⟩
      case eachK =>
        refine ⟨?_, ?_, ?_, ?_, ?_, ?_, ?_, ?_, ?_, trivial⟩
        -- 0: slot 36 := move t5
        · intro w L f hC hLi hLd hLn hF
          obtain ⟨d5, _⟩ := hF
          have d5 : f 5 = .pointer (some ⟨g, 0, none⟩) := d5
          refine Step2.live rfl ?_
          exact relUpon_value (v := f 5) rfl (hC) (Writes.refl _ _) d5
        -- 1: slot 37 := nilCheck t36
        · intro w L f hC hLi hLd hLn hF
          obtain ⟨d36, _⟩ := hF
          have d36 : f 36 = .pointer (some ⟨g, 0, none⟩) := d36
          refine Step2.live rfl ?_
          have ev : ∀ t, evalOf f (.tmp t) = f t := fun _ => rfl
          have ec : ∀ c, evalOf f (.const c) = c := fun _ => rfl
          refine relUpon_value ?_ (hC) (Writes.refl _ _) rfl
          go_simp
        -- 2: slot 38 := fieldAddr 30 t37 0
        · intro w L f hC hLi hLd hLn hF
          obtain ⟨d37, _⟩ := hF
          have d37 : f 37 = .pointer (some ⟨g, 0, none⟩) := d37
          refine Step2.live rfl ?_
          have ev : ∀ t, evalOf f (.tmp t) = f t := fun _ => rfl
          have ec : ∀ c, evalOf f (.const c) = c := fun _ => rfl
          refine relUpon_value ?_ (hC) (Writes.refl _ _) rfl
          go_simp
        -- 3: slot 39 := move t0
        · intro w L f hC hLi hLd hLn hF
          obtain ⟨d0, _⟩ := hF
          have d0 : f 0 = .slice (some ⟨b, off, none⟩) ss.length c := d0
          refine Step2.live rfl ?_
          exact relUpon_value (v := f 0) rfl (hC) (Writes.refl _ _) d0
        -- 4: slot 40 := move t7
        · intro w L f hC hLi hLd hLn hF
          obtain ⟨d7, _⟩ := hF
          have d7 : f 7 = .int .i64 k := d7
          refine Step2.live rfl ?_
          exact relUpon_value (v := f 7) rfl (hC) (Writes.refl _ _) d7
        -- 5: slot 41 := indexAddr 40 t39 t40
        · intro w L f hC hLi hLd hLn hF
          obtain ⟨d39, d40, _⟩ := hF
          have d39 : f 39 = .slice (some ⟨b, off, none⟩) ss.length c := d39
          have d40 : f 40 = .int .i64 k := d40
          refine Step2.live rfl ?_
          have ev : ∀ t, evalOf f (.tmp t) = f t := fun _ => rfl
          have ec : ∀ c, evalOf f (.const c) = c := fun _ => rfl
          have ef : ∀ g, evalOf f (.func g) = .func (.func g) #[] #[] := fun _ => rfl
          refine relUpon_value ?_ hC (Writes.refl _ _) rfl
          go_simp
        -- 6: slot 42 := load 9 t41
        · intro w L f hC hLi hLd hLn hF
          obtain ⟨d41, _⟩ := hF
          have d41 : f 41 = .pointer (some ⟨b, off + k, none⟩) := d41
          refine Step2.live rfl ?_
          have h8 : L 8 = false := by
            cases h : L 8 with
            | false => rfl
            | true => have := hC.2 h; rw [hLn 7 (by simp)] at this; cases this
          have hcell := ((hC.1.m h8).cell (p := ⟨b, off + k, none⟩) hbr.out).trans hcell0.out
          have ev : ∀ t, evalOf f (.tmp t) = f t := fun _ => rfl
          have ec : ∀ c, evalOf f (.const c) = c := fun _ => rfl
          have ef : ∀ g, evalOf f (.func g) = .func (.func g) #[] #[] := fun _ => rfl
          refine relUpon_value ?_ hC (Writes.refl _ _) rfl
          go_simp
        -- 7: slot 43 := buildSlice 40 1 #[(0, t42)]
        · intro w L f hC hLi hLd hLn hF
          obtain ⟨d42, _⟩ := hF
          have d42 : f 42 = .string xk := d42
          refine Step2.live rfl ?_
          have ev : ∀ t, evalOf f (.tmp t) = f t := fun _ => rfl
          have ec : ∀ c, evalOf f (.const c) = c := fun _ => rfl
          have ef : ∀ g, evalOf f (.func g) = .func (.func g) #[] #[] := fun _ => rfl
          refine relUpon_value (w' := w.alloc (.cells #[.string xk] 9)) (v := .slice (some ⟨w.heap.size, 0, none⟩) 1 1) (by go_simp) ⟨hC.1.alloc (hLn 8 (by simp)) _, fun _ => rfl⟩ (Writes.alloc _ _ _) ⟨_, rfl, (hC.1.m (hLn 8 (by simp))).size, Holds.new _ _ _⟩
        -- 8: slot 44 := call { value (Operand.func 22), args := #[t38, t43], argTypes := #[28, 40] }
        · intro w L f hC hLi hLd hLn hF
          obtain ⟨d38, d43, _⟩ := hF
          have d38 : f 38 = .pointer (some ⟨g, 0, none⟩) := d38
          refine Step2.live rfl ?_
          obtain ⟨kn, e0, hkn, hrow⟩ := d43
          have ev : ∀ t, evalOf f (.tmp t) = f t := fun _ => rfl
          have ec : ∀ c, evalOf f (.const c) = c := fun _ => rfl
          have ef : ∀ g, evalOf f (.func g) = .func (.func g) #[] #[] := fun _ => rfl
          refine relUpon_call (f := 22) (args := #[.pointer (some ⟨g, 0, none⟩), .slice (some ⟨kn, 0, none⟩) 1 1]) (w := w) (by go_simp) (text_put (hC.1.m hLi) hp.out.x hp.out.b.size hrow hkn (by have := hxk.out; omega) hcl.out) ?_
          rintro e w1 ⟨hw1, hw2⟩
          exact ⟨_, hw1.1, ⟨⟨fun e => by simp at e, fun _ => by have := hw1.1; subst this; exact hw1⟩, fun _ => hLd 7 (by decide)⟩, hw2, trivial⟩
      case finK =>
        intro x w' hC hV
        obtain ⟨u2, hp2⟩ := (hp.out.put (hC.1.d rfl)).2
        clear hV hC hp
        simp only [framed]
        go_wp2_with fail
        have hl2 : (cur ++ txtE xk).length ≤ 100000000000 := hcl2.out
        refine (bytes_any w' W.heap.size g _ u2 _ hp2.x hl2).mono ?_
        rintro e w6 ⟨A6, c6, rfl, hA6, hb6, hN6, hc6⟩
        clear hA6 hN6 hc6 hl2
        have hp6 := Lib.hid (hp2.below hb6)
        clear hp2 hb6
        rw [hlk.out]
        have hek : endOf ss (k + 1) ≤ 100000000000 := hek0.out
        obtain ⟨ek, hekk⟩ : ∃ n, n = endOf ss (k + 1) := ⟨_, rfl⟩
        rw [← hekk] at hek ⊢
        have hekk := Lib.hid hekk
        rename_i hekk'
        clear hekk'
        go_wp2_with (at_builtin
                     refine wpList_append_row _ rfl (.tmp 45) (.tmp 51) 41 rfl W.heap.size 3 iI (.int .i64 0) 8 Try.underlying41 hiI hzI0 hzI1 hzI2 rfl u6 _ _ rfl (own_below hp6.out.o (below_new _ _)) _ (some ⟨w6.heap.size, 0, none⟩) 1 1 [.int .i64 ek] rfl rfl (Row.one _ _ _) (by intro u hu; simp at hu; subst hu; rfl) (by rw [hEl.out]; unfold maxLen; omega) (by rw [hEl.out]; omega) (Nat.le_trans hp6.out.b.size (by simp)) ?_
                     intro v3 w3 ho hg hat
                     have hp3 := hp6.out.app (below_new _ _) ho hg
                     clear ho hg hat)
        go_roundw
        case rel =>
          refine ⟨k + 1, by omega, by go_num, ?_, u2, ?_⟩
          · intro s hsm
            rw [hts.out] at hsm
            rcases List.mem_append.1 hsm with h | h
            · exact hs.out s h
            · simp at h
              subst h
              exact hxk.out
          · rw [hft.out, hEs.out, ← hekk.out]
            exact hp3
        case measure => simp [intOf]; omega

  obtain rfl : k = ss.length := by omega
  rw [List.take_length] at hs hp
  have hLs := Lib.hid (flat_pos ss q0)
  have hLn := Lib.hid (endOf_all ss)
  have hLb : endOf ss ss.length ≤ 2100 := endOf_le ss ss.length (by rw [List.take_length]; exact hs) (by omega)
  obtain ⟨L, hL⟩ : ∃ L, L = ss.flatMap txtE := ⟨_, rfl⟩
  have hs := Lib.hid hs
  rename_i hs'
  clear hs'
  rw [← hL] at hp
  have hLp : 0 < L.length := by rw [hL]; exact hLs.out
  have hLm : L.length ≤ 2100 := by rw [hL, ← hLn.out]; exact hLb
  have hLe : Hid (endOf ss ss.length = L.length) := Lib.hid (by rw [hL]; exact hLn.out)
  have hcz : Hid (∀ r, cutAt ss r 0 = some (L.take r)) := Lib.hid fun r => by rw [hL]; exact cutAt_zero ss r
  clear hL hLs hLn hLb
  have hp := Lib.hid hp
  rename_i hp'
  clear hp'
  obtain ⟨Ae, ce, rfl, hAe, _, _⟩ := own_row hp.out.o
  rw [endsTo_len]
  have hAe := Lib.hid hAe
  rename_i hAe'
  clear hAe'
  obtain ⟨wv, rfl⟩ : ∃ x, x = wr := ⟨_, rfl⟩
  have hLz : ((L.length : Int) == 0) = false := by rw [beq_eq_false_iff_ne]; omega
  have hLm2 := Lib.hid (show L.length ≤ 100000000000 by omega)
  go_wp2_with fail
  refine (bytes_any wv W.heap.size g _ u L hp.out.x hLm2.out).mono ?_
  rintro e w8 ⟨A8, c8, rfl, hA8, hb8, hN8, hc8⟩
  clear hN8
  have hA8 := Lib.hid hA8
  rename_i hA8'
  clear hA8'
  have hp8 := Lib.hid (hp.out.b.trans (hb8.mono hp.out.b.size))
  have hAe8 := Lib.hid (Row.below hAe.out hb8)
  have hsz8 := hb8.size
  clear hp hAe hb8
  go_wp2_with fail
  refine (place_any w8 z L.length hLp hLm2.out).mono ?_
  rintro e w9 ⟨⟨r, rfl, hr⟩, rfl⟩
  have hr8 : r ≤ c8 := by omega
  go_wp2_with fail
  refine (newReader_len w9 A8 r c8 (L.take r) (hA8.out.take r) (by rw [List.length_take]; omega) (by omega)).mono ?_
  rintro e wc ⟨gr, rfl, hgr, hRc, hbc⟩
  have hBc := Lib.hid (hp8.out.trans (hbc.mono hp8.out.size))
  have hAec := Lib.hid (hAe8.out.below (hbc.mono hsz8))
  have hAo : Hid (wv.heap.size ≤ gr) := Lib.hid (Nat.le_trans hsz8 hgr)
  have hwv : wv.heap.size ≤ wc.heap.size := Nat.le_trans hsz8 hbc.size
  have hwv := Lib.hid hwv
  rename_i hwv'
  clear hwv'
  have hgW : W.heap.size ≤ gr := Nat.le_trans hp8.out.size hgr
  rw [← hcz.out r] at hRc
  have hRc := Lib.hid hRc
  rename_i hRc'
  clear hRc' hp8 hAe8 hA8 hbc hgr hsz8 hc8 hr8
  go_wp2_with fail
  go_loopw [11] (fun i wr => ∃ k : Nat, k ≤ ss.length ∧ i = .int .i64 k ∧ Rdr wr gr (cutAt ss r k) ∧ Writes [some gr] wc wr) (fun i _ => ss.length - (intOf i).toNat)
  case atStart => exact ⟨0, by omega, rfl, hRc.out, Writes.refl _ _⟩
  clear hRc
  obtain ⟨k, hk, rfl, hR, hM⟩ := hrel
  by_cases hlt : k < ss.length
  case pos =>
    obtain ⟨b, off, be, oe, rfl, rfl, hcellw⟩ : ∃ b off be oe, A = some ⟨b, off, none⟩ ∧ Ae = some ⟨be, oe, none⟩ ∧ Hid (∀ w6, Writes [some gr] wc w6 → w6.cell? ⟨b, off + k, none⟩ = some (.string ss[k]) ∧ w6.cell? ⟨be, oe + k, none⟩ = some (.int .i64 (endOf ss (k + 1) : Nat))) := by
      obtain ⟨b, off, e1, _, _⟩ := Row.at_ h3.out (k := k) (by simpa using hlt)
      obtain ⟨be, oe, e2, hbe, _⟩ := Row.at_ hAec.out (k := k) (by simp [endsTo_len]; exact hlt)
      refine ⟨b, off, be, oe, e1, e2, Lib.hid fun w6 hM6 => ?_⟩
      have hb6 : Below W.heap.size W w6 := hBc.out.trans (hM6.below hBc.out.size fun j hj => by simp at hj; omega)
      obtain ⟨b', off', e1', _, h5⟩ := Row.at_ (Row.below h3.out hb6) (k := k) (by simpa using hlt)
      rw [e1] at e1'
      injection e1' with e1'
      injection e1' with e3 e4
      have hr6 := hM6.row hAec.out hwv.out (fun hne hmem => by
        subst e2
        simp [blk] at hmem
        have := hAo.out
        omega)
      obtain ⟨be', oe', e2', _, h7⟩ := Row.at_ hr6 (k := k) (by simp [endsTo_len]; exact hlt)
      rw [e2] at e2'
      injection e2' with e2'
      injection e2' with e5 e6
      subst e3 e4 e5 e6
      exact ⟨by rw [h5]; simp, by rw [h7]; simp [endsTo]⟩
    have hxs := hs.out ss[k] (List.getElem_mem hlt)
    have hxs2 := Lib.hid (show ss[k].data.toList.length < 18446744073709551616 by rw [Array.length_toList]; have : ss[k].data.size = ss[k].size := rfl; omega)
    by_cases hin : endOf ss (k + 1) ≤ r
    · obtain ⟨l, hc1, hc2⟩ := cutAt_in ss r k hlt hin
      rw [hc1] at hR
      have hc2 := Lib.hid hc2
      rename_i hc2'
      clear hc2' hc1
      generalize ss[k] = xk at *
      generalize endOf ss (k + 1) = ek at *
      have hM := Lib.hid hM
      rename_i hM'
      clear hM'
      go_wp2_with fail
      refine (rText_any _ gr _ hR).mono ?_
      intro e w6 h6
      obtain ⟨rfl, hR6, hM6⟩ := Took.text h6 hxs2.out
      clear h6 hR
      obtain ⟨hcell1, hcell2⟩ := hcellw.out w6 (hM.out.trans hM6)
      have hR6 := Lib.hid hR6
      rename_i hR6'
      clear hR6'
      have hM6 := Lib.hid (hM.out.trans hM6)
      rename_i hM6'
      clear hM6'
      rw [strV_back]
      go_wp2_with fail
      go_roundw
      case rel => exact ⟨k + 1, by omega, by go_num, by rw [hc2.out]; exact hR6.out, hM6.out⟩
      case measure => simp [intOf]; omega
    · obtain ⟨hc2, hc1⟩ := cutAt_cut ss r k hlt (by omega) (by omega)
      have hc2 := Lib.hid hc2
      rename_i hc2'
      clear hc2'
      have hc1 := Lib.hid hc1
      rename_i hc1'
      clear hc1'
      generalize ss[k] = xk at *
      generalize endOf ss (k + 1) = ek at *
      have hM := Lib.hid hM
      rename_i hM'
      clear hM'
      go_wp2_with fail
      refine (rText_any _ gr _ hR).mono ?_
      intro e w6 h6
      obtain ⟨rfl, hR6, hM6⟩ := Took.cut h6 hc1.out
      clear h6 hR
      obtain ⟨hcell1, hcell2⟩ := hcellw.out w6 (hM.out.trans hM6)
      have hR6 := Lib.hid hR6
      rename_i hR6'
      clear hR6'
      have hM6 := Lib.hid (hM.out.trans hM6)
      rename_i hM6'
      clear hM6'
      have he0 := strV_nil
      go_wp2_with fail
      go_roundw
      case rel => exact ⟨k + 1, by omega, by go_num, by rw [hc2.out]; exact hR6.out, hM6.out⟩
      case measure => simp [intOf]; omega
  obtain rfl : k = ss.length := by omega
  have hR0 : cutAt ss r ss.length = none := by unfold cutAt; rw [if_neg (by rw [hLe.out]; omega)]
  rw [hR0] at hR
  clear hR0
  go_wp2_with fail
  refine (done_any _ gr _ hR).mono ?_
  rintro e w10 ⟨rfl, rfl⟩
  rw [show doneZ none = 20 from rfl]
  go_wp2_with fail
  refine (rNum_any _ gr _ hR).mono ?_
  intro e w11 h11
  obtain ⟨rfl, hR11, hM11⟩ := Took.fail h11
  go_wp2_with fail
  refine (rInt_any _ gr _ hR11).mono ?_
  intro e w12 h12
  obtain ⟨rfl, hR12, hM12⟩ := Took.fail h12
  go_wp2_with fail
  refine (rBool_any _ gr _ hR12).mono ?_
  intro e w13 h13
  obtain ⟨rfl, hR13, hM13⟩ := Took.fail h13
  go_wp2_with fail
  go_ret
  exact ⟨rfl, hBc.out.trans ((((hM.trans hM11).trans hM12).trans hM13).below hBc.out.size (fun k hk => by simp at hk; omega))⟩

theorem cuts_walk (W : World) (v0 v1 : Value) (o0 : ArgOk 40 W v0) (o1 : ArgOk 3 W v1) :
    Calls Try.prog 4 #[v0, v1] W fun e w' => e = .returned (.bool true) ∧ Below W.heap.size W w' := by
  obtain ⟨A3, n3, c3, ss, rfl, rfl, _, _, p3, h3⟩ := o0.texts
  obtain ⟨z, rfl, _⟩ := o1.int
  exact cuts_any W A3 c3 ss z h3 p3 (by omega)
end Go.Proofs.Ytimhghmnnibajaa
