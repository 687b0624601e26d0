/-
  Two writers side by side: what one of them writes leaves the other as it was. One value put by a call that makes its row on the spot.
-/
import Derived.Test.YtelglbblgkhcmaaGreatCodeJ
import Derived.Test.YtelglbblgkhcmaaGreatRel
import Derived.Test.YtelglbblgkhcmaaGreatOpen
namespace Go.Proofs.YtelglbblgkhcmaaGreat
open Go.RowKit Go.ChangeShapes Go.WideShapes Go.Deep

theorem own_low {w : World} {B : Nat} {e : TypeId} {size : Nat} {v : Value} {n : Nat} {xs : List Value} (h : w.ownsRow B e size v n xs) {k : Nat} (hk : some k = v.ownBlock) : B ≤ k := by
  rcases h.2 with ⟨rfl, _⟩ | ⟨g, cap, cur, rfl, hg, _⟩
  · simp [Value.ownBlock] at hk
  · simp [Value.ownBlock] at hk
    omega
theorem Wrote.below {w w' : World} {B g : Nat} {t : TypeId} {v : Value} {l l' : List UInt8} {e : Ending} (hw : Wrt w B g t v l) (hB : B ≤ w.heap.size) (h : Wrote w B g t v l' e w') : Below B w w' := by
  obtain ⟨_, v', _, hM, _⟩ := h
  refine hM.below hB fun k hk => ?_
  simp only [List.mem_cons, List.mem_nil_iff, or_false] at hk
  rcases hk with hk | hk
  · injection hk with hk
    rw [hk]
    exact hw.low
  · exact own_low hw.own hk
/-- A row of an argument lies apart from what a writer of the call's own owns. -/
theorem Row.off_low {w w' : World} {B g : Nat} {t : TypeId} {v : Value} {l : List UInt8} {A : Option Addr} {vs : List Value} (h : Row w B A vs) (hw : Wrt w' B g t v l) (hn : vs ≠ []) : blk A ∉ [some g, v.ownBlock] := by
  obtain ⟨b, off, rfl, hb, _⟩ := h hn
  simp only [List.mem_cons, List.mem_nil_iff, or_false, not_or, blk, Option.map_some]
  refine ⟨fun e => ?_, fun e => ?_⟩
  · injection e with e
    have := hw.low
    omega
  · have := own_low hw.own e
    omega

/-- Two writers of the call's own, over the world W it began in. -/
structure Pair (W w : World) (g1 g2 : Nat) (v1 v2 : Value) (l1 l2 : List UInt8) : Prop where
  b : Below W.heap.size W w
  x : Wrt w W.heap.size g1 118 v1 l1
  y : Wrt w W.heap.size g2 118 v2 l2
  ne : g1 ≠ g2
  x1 : some g1 ≠ v2.ownBlock
  y1 : some g2 ≠ v1.ownBlock
  own : v1.ownBlock = none ∨ v1.ownBlock ≠ v2.ownBlock

section
variable {W w w' : World} {g1 g2 : Nat} {v1 v2 : Value} {l1 l2 l : List UInt8} {e : Ending}
theorem Pair.below (h : Pair W w g1 g2 v1 v2 l1 l2) (hb : Below w.heap.size w w') : Pair W w' g1 g2 v1 v2 l1 l2 :=
  ⟨h.b.trans (hb.mono h.b.size), h.x.below hb, h.y.below hb, h.ne, h.x1, h.y1, h.own⟩
theorem Pair.right (h : Pair W w g1 g2 v1 v2 l1 l2) (hw : Wrote w W.heap.size g2 118 v2 l e w') : e = .returned (.tuple #[]) ∧ ∃ v', Pair W w' g1 g2 v1 v' l1 l := by
  have hb := hw.below h.y h.b.size
  obtain ⟨he, v', h1, h2, h3⟩ := hw
  refine ⟨he, v', h.b.trans hb, ?_, h1, h.ne, fun e => h.x1 (h3.old h.x.cell.lt e), h.y1, ?_⟩
  · refine ⟨h2.holds h.x.cell ?_, h2.own h.x.own ?_, h.x.low, h.x.kind⟩
    · simp only [List.mem_cons, List.mem_nil_iff, or_false, not_or]
      exact ⟨fun e => h.ne (by injection e), h.x1⟩
    · rcases h.own with e | e
      · exact .inl e
      · refine .inr ?_
        simp only [List.mem_cons, List.mem_nil_iff, or_false, not_or]
        exact ⟨fun e' => h.y1 e'.symm, e⟩
  · rcases h.own with e | e
    · exact .inl e
    · by_cases hn : v1.ownBlock = none
      · exact .inl hn
      · refine .inr fun e' => ?_
        obtain ⟨k, hk⟩ := Option.ne_none_iff_exists'.1 hn
        have hlt : k < w.heap.size := Nat.lt_of_not_le fun hle => own_lt h.x.own hle hk.symm
        exact e (hk.trans (h3.old hlt (hk.symm.trans e')))
theorem Pair.swap (h : Pair W w g1 g2 v1 v2 l1 l2) : Pair W w g2 g1 v2 v1 l2 l1 :=
  ⟨h.b, h.y, h.x, h.ne.symm, h.y1, h.x1, by
    rcases h.own with e | e
    · by_cases h2 : v2.ownBlock = none
      · exact .inl h2
      · exact .inr (by rw [e]; exact h2)
    · exact .inr e.symm⟩
theorem Pair.left (h : Pair W w g1 g2 v1 v2 l1 l2) (hw : Wrote w W.heap.size g1 118 v1 l e w') : e = .returned (.tuple #[]) ∧ ∃ v', Pair W w' g1 g2 v' v2 l l2 := by
  obtain ⟨he, v', hp⟩ := h.swap.right hw
  exact ⟨he, v', hp.swap⟩
end

/-- A row of one, made behind the world wr. -/
def NewRow (n : Nat) (t : TypeId) (x : Value) (w : World) (v : Value) : Prop := ∃ k, v = .slice (some ⟨k, 0, none⟩) 1 1 ∧ n ≤ k ∧ Holds w k t #[x]
theorem NewRow.keep {n : Nat} {t : TypeId} {x : Value} {w w' : World} {v : Value} {M : List (Option Nat)} (h : NewRow n t x w v) (hM : Writes M w w') (hn : ∀ k, n ≤ k → some k ∉ M) : NewRow n t x w' v := by
  obtain ⟨k, h1, h2, h3⟩ := h
  exact ⟨k, h1, h2, hM.holds h3 (hn k h2)⟩
/-- A region that puts one value, ahead of its call and behind it. -/
structure PutAt (wr : World) (B g : Nat) (t : TypeId) (u : Value) (l2 : List UInt8) (d : Bool) (w : World) : Prop where
  m : d = false → Below wr.heap.size wr w
  d : d = true → Wrote wr B g t u l2 (.returned (.tuple #[])) w
theorem PutAt.alloc {wr : World} {B g : Nat} {t : TypeId} {u : Value} {l2 : List UInt8} {d : Bool} {w : World} (h : PutAt wr B g t u l2 d w) (hd : d = false) (o : Obj) : PutAt wr B g t u l2 d (w.alloc o) :=
  ⟨fun _ => (h.m hd).alloc (h.m hd).size o, fun e => by rw [hd] at e; cases e⟩

/-- A writer's call in a world that has grown. -/
theorem Wrote.before {wr w w' : World} {B g : Nat} {t : TypeId} {u : Value} {l : List UInt8} {e : Ending} (hb : Below wr.heap.size wr w) (h : Wrote w B g t u l e w') :
    Wrote wr B g t u l e w' ∧ Writes [some g, u.ownBlock] w w' := by
  obtain ⟨he, v', h1, h2, h3⟩ := h
  refine ⟨⟨he, v', h1, (Writes.of_below hb _).trans h2, ?_⟩, h2⟩
  rcases h3 with h3 | ⟨k, h3, h4⟩
  · exact .inl h3
  · exact .inr ⟨k, h3, Nat.le_trans hb.size h4⟩
theorem Row.held {w : World} {k : Nat} {t : TypeId} {x : Value} (h : Holds w k t #[x]) : Row w w.heap.size (some ⟨k, 0, none⟩) [x] := Row.ofHolds h h.lt
section
variable {wr w : World} {B g k : Nat} {t et : TypeId} {u : Value} {l : List UInt8}
theorem num_put (hb : Below wr.heap.size wr w) (hw : Wrt wr B g t u l) (hB : B ≤ wr.heap.size) {n : Nat} (h : Holds w k et #[u64V n]) (hk : wr.heap.size ≤ k) (hn : n < 18446744073709551616) (hlen : l.length ≤ 99999999980) :
    Calls Tryz.prog 81 #[.pointer (some ⟨g, 0, none⟩), .slice (some ⟨k, 0, none⟩) 1 1] w (fun e w' => Wrote wr B g t u (l ++ numE n) e w' ∧ Writes [some g, u.ownBlock] w w') := by
  refine (num_any w B g t u l (some ⟨k, 0, none⟩) 1 [n] (hw.below hb) (Nat.le_trans hB hb.size) (by simpa using hn) (Row.held h) (fun _ => hw.lt hk) (by simp; omega)).mono ?_
  intro e w' h
  exact Wrote.before hb (by simpa [Wrote] using h)
theorem text_put (hb : Below wr.heap.size wr w) (hw : Wrt wr B g t u l) (hB : B ≤ wr.heap.size) {s : ByteArray} (h : Holds w k et #[.string s]) (hk : wr.heap.size ≤ k) (hn : s.size ≤ 10000000000) (hlen : l.length + s.size ≤ 99999999980) :
    Calls Tryz.prog 52 #[.pointer (some ⟨g, 0, none⟩), .slice (some ⟨k, 0, none⟩) 1 1] w (fun e w' => Wrote wr B g t u (l ++ txtE s) e w' ∧ Writes [some g, u.ownBlock] w w') := by
  refine (text_any w B g t u l (some ⟨k, 0, none⟩) 1 s.size [s] (hw.below hb) (Nat.le_trans hB hb.size) (by simp) hn (Row.held h) (fun _ => hw.lt hk) (by simp; omega)).mono ?_
  intro e w' h
  exact Wrote.before hb (by simpa [Wrote] using h)
theorem bool_put (hb : Below wr.heap.size wr w) (hw : Wrt wr B g t u l) (hB : B ≤ wr.heap.size) {b : Bool} (h : Holds w k et #[.bool b]) (hk : wr.heap.size ≤ k) (hlen : l.length ≤ 99999999980) :
    Calls Tryz.prog 53 #[.pointer (some ⟨g, 0, none⟩), .slice (some ⟨k, 0, none⟩) 1 1] w (fun e w' => Wrote wr B g t u (l ++ boolE b) e w' ∧ Writes [some g, u.ownBlock] w w') := by
  refine (bool_any w B g t u l (some ⟨k, 0, none⟩) 1 [b] (hw.below hb) (Nat.le_trans hB hb.size) (Row.held h) (fun _ => hw.lt hk) (by simp; omega)).mono ?_
  intro e w' h
  exact Wrote.before hb (by simpa [Wrote] using h)
end

set_option maxRecDepth 100000 in
theorem ArgOk.u64s {W : World} {v : Value} (h : ArgOk 176 W v) : ∃ (A : Option Addr) (n c : Nat) (l : List Nat), v = .slice A n c ∧ l.length = n ∧ n ≤ c ∧ c ≤ maxLen ∧ (∀ n ∈ l, n < 18446744073709551616) ∧ Row W W.heap.size A (l.map u64V) := by
  obtain ⟨A, n, c, rfl⟩ := okWide_slice Tryz.underlying176 h.choose_spec.choose_spec.choose_spec.choose_spec.choose_spec.1
  obtain ⟨A', n', c', l, e, h1, h2, h3, h4, h5⟩ := Trd.row (f := u64V) (p := fun n => n < 18446744073709551616) Tryz.underlying176 (fun x hx => by
    obtain ⟨n, rfl, hw⟩ := hx.int Tryz.underlying59
    simp [Lit.wf, IntKind.min, IntKind.max, IntKind.signed, IntKind.bits] at hw
    exact ⟨n.toNat, by rw [u64V, Int.toNat_of_nonneg hw.1], by omega⟩) h.trd
  simp [Value.cells] at e
  obtain ⟨rfl, rfl, rfl⟩ := e
  exact ⟨_, _, _, l, rfl, h1, h2, h3, h4, h5⟩
set_option maxRecDepth 100000 in
theorem ArgOk.texts {W : World} {v : Value} (h : ArgOk 43 W v) : ∃ (A : Option Addr) (n c : Nat) (l : List ByteArray), v = .slice A n c ∧ l.length = n ∧ n ≤ c ∧ c ≤ maxLen ∧ (∀ s ∈ l, s.size ≤ maxLen) ∧ Row W W.heap.size A (l.map Value.string) := by
  obtain ⟨A, n, c, rfl⟩ := okWide_slice Tryz.underlying43 h.choose_spec.choose_spec.choose_spec.choose_spec.choose_spec.1
  obtain ⟨A', n', c', l, e, h1, h2, h3, h4, h5⟩ := Trd.row (f := Value.string) (p := fun s : ByteArray => s.size ≤ maxLen) Tryz.underlying43 (fun x hx => by
    obtain ⟨s, rfl, hw⟩ := hx.string Tryz.underlying9
    exact ⟨s, rfl, hw⟩) h.trd
  simp [Value.cells] at e
  obtain ⟨rfl, rfl, rfl⟩ := e
  exact ⟨_, _, _, l, rfl, h1, h2, h3, h4, h5⟩
set_option maxRecDepth 100000 in
theorem ArgOk.bools {W : World} {v : Value} (h : ArgOk 154 W v) : ∃ (A : Option Addr) (n c : Nat) (l : List Bool), v = .slice A n c ∧ l.length = n ∧ n ≤ c ∧ c ≤ maxLen ∧ Row W W.heap.size A (l.map Value.bool) := by
  obtain ⟨A, n, c, rfl⟩ := okWide_slice Tryz.underlying154 h.choose_spec.choose_spec.choose_spec.choose_spec.choose_spec.1
  obtain ⟨A', n', c', l, e, h1, h2, h3, h4, h5⟩ := Trd.row (f := Value.bool) (p := fun _ => True) Tryz.underlying154 (fun x hx => by
    obtain ⟨s, rfl⟩ := hx.bool Tryz.underlying4
    exact ⟨s, rfl, trivial⟩) h.trd
  simp [Value.cells] at e
  obtain ⟨rfl, rfl, rfl⟩ := e
  exact ⟨_, _, _, l, rfl, h1, h2, h3, h5⟩
end Go.Proofs.YtelglbblgkhcmaaGreat
