/-
  Summaries: what they hold, how they lie in memory, how they are written. Calls of the writer over rows of several values made on the spot. The walk of Writer.interval.
-/
import Derived.Test.YtelglbblgkhcmaaGreatCodeR
import Derived.Test.YtelglbblgkhcmaaGreatRelL
namespace Go.Proofs.YtelglbblgkhcmaaGreat
open Go.RowKit Go.ChangeShapes Go.WideShapes Go.Deep

/-- A row of several cells, made behind the world of size n. -/
def NewCells (n : Nat) (t : TypeId) (cs : Array Value) (m : Nat) (w : World) (v : Value) : Prop := ∃ k, v = .slice (some ⟨k, 0, none⟩) m m ∧ n ≤ k ∧ Holds w k t cs
theorem NewCells.keep {n m : Nat} {t : TypeId} {cs : Array Value} {w w' : World} {v : Value} (h : NewCells n t cs m w v) (hb : Below w.heap.size w w') : NewCells n t cs m w' v := by
  obtain ⟨k, h1, h2, h3⟩ := h
  exact ⟨k, h1, h2, h3.below hb h3.lt⟩
section
variable {wr w : World} {B g k : Nat} {t et : TypeId} {u : Value} {l l2 : List UInt8}
theorem Row.heldN {w : World} {k : Nat} {t : TypeId} {cs : Array Value} {vs : List Value} (h : Holds w k t cs) (hc : vs.toArray = cs) : Row w w.heap.size (some ⟨k, 0, none⟩) vs := by
  subst hc
  have := Row.ofHolds h h.lt
  simpa using this
theorem num_puts (hb : Below wr.heap.size wr w) (hw : Wrt wr B g t u l) (hB : B ≤ wr.heap.size) (ns : List Nat) (m : Nat) {cs : Array Value} (h : Holds w k et cs) (hk : wr.heap.size ≤ k) (hm : ns.length = m) (hcs : (ns.map u64V).toArray = cs) (hn : ∀ n ∈ ns, n < 18446744073709551616) (hlen : l.length + 10 * m ≤ 99999999990) (hl2 : l ++ ns.flatMap numE = l2) :
    Calls Tryz.prog 81 #[.pointer (some ⟨g, 0, none⟩), .slice (some ⟨k, 0, none⟩) m m] w (Wrote wr B g t u l2) := by
  subst hm hl2
  refine (num_any w B g t u l (some ⟨k, 0, none⟩) _ ns (hw.below hb) (Nat.le_trans hB hb.size) hn (Row.heldN h hcs) (fun _ => hw.lt hk) (by omega)).mono ?_
  intro e w' h
  exact (Wrote.before hb h).1
theorem text_puts (hb : Below wr.heap.size wr w) (hw : Wrt wr B g t u l) (hB : B ≤ wr.heap.size) (ss : List ByteArray) (m M : Nat) {cs : Array Value} (h : Holds w k et cs) (hk : wr.heap.size ≤ k) (hm : ss.length = m) (hcs : (ss.map Value.string).toArray = cs) (hn : ∀ s ∈ ss, s.size ≤ M) (hM : M ≤ 10000000000) (hlen : l.length + (10 + M) * m ≤ 99999999990) (hl2 : l ++ ss.flatMap txtE = l2) :
    Calls Tryz.prog 52 #[.pointer (some ⟨g, 0, none⟩), .slice (some ⟨k, 0, none⟩) m m] w (Wrote wr B g t u l2) := by
  subst hm hl2
  refine (text_any w B g t u l (some ⟨k, 0, none⟩) _ M ss (hw.below hb) (Nat.le_trans hB hb.size) hn hM (Row.heldN h hcs) (fun _ => hw.lt hk) (by omega)).mono ?_
  intro e w' h
  exact (Wrote.before hb h).1
theorem bool_puts (hb : Below wr.heap.size wr w) (hw : Wrt wr B g t u l) (hB : B ≤ wr.heap.size) (bs : List Bool) (m : Nat) {cs : Array Value} (h : Holds w k et cs) (hk : wr.heap.size ≤ k) (hm : bs.length = m) (hcs : (bs.map Value.bool).toArray = cs) (hlen : l.length + 1 * m ≤ 99999999990) (hl2 : l ++ bs.flatMap boolE = l2) :
    Calls Tryz.prog 53 #[.pointer (some ⟨g, 0, none⟩), .slice (some ⟨k, 0, none⟩) m m] w (Wrote wr B g t u l2) := by
  subst hm hl2
  refine (bool_any w B g t u l (some ⟨k, 0, none⟩) _ bs (hw.below hb) (Nat.le_trans hB hb.size) (Row.heldN h hcs) (fun _ => hw.lt hk) (by omega)).mono ?_
  intro e w' h
  exact (Wrote.before hb h).1
end
/-- One call of a writer behind another. -/
theorem Wrote.then_ {w w' w'' : World} {B g : Nat} {t : TypeId} {v : Value} {l l2 : List UInt8} {e e2 : Ending} (h : Wrote w B g t v l e w') (h2 : ∀ u, Wrt w' B g t u l → Wrote w' B g t u l2 e2 w'') : Wrote w B g t v l2 e2 w'' := by
  obtain ⟨_, v', h1, hM, hF⟩ := h
  obtain ⟨he, v'', h3, hM2, hF2⟩ := h2 v' h1
  exact ⟨he, v'', h3, writes_then hM hF hM2, hF.trans hF2 hM.size⟩

theorem Wrote.next {w w' w'' : World} {B g : Nat} {t : TypeId} {v u : Value} {l2 : List UInt8} {e2 : Ending} (hM : Writes [some g, v.ownBlock] w w') (hF : Fresh w v u) (h2 : Wrote w' B g t u l2 e2 w'') : Wrote w B g t v l2 e2 w'' := by
  obtain ⟨he, v'', h3, hM2, hF2⟩ := h2
  exact ⟨he, v'', h3, writes_then hM hF hM2, hF.trans hF2 hM.size⟩

/-- An interval, an alarm, a named interval, a summary. -/
structure Iv where
  s : Bool
  lo : Int
  hi : Int
structure Al where
  pos : Int
  kind : Int
structure Nm where
  name : ByteArray
  v : Iv
structure Sm where
  al : List Al
  ends : Bool
  ret : Iv
  md : List Nm
def i64ok (z : Int) : Prop := -9223372036854775808 ≤ z ∧ z ≤ 9223372036854775807
def Iv.ok (v : Iv) : Prop := i64ok v.lo ∧ i64ok v.hi
def Al.ok (a : Al) : Prop := i64ok a.pos ∧ i64ok a.kind
def Nm.ok (M : Nat) (m : Nm) : Prop := m.name.size ≤ M ∧ m.v.ok
def Iv.cells (v : Iv) : List Value := [.bool v.s, .int .i64 v.lo, .int .i64 v.hi]
def Al.cells (a : Al) : List Value := [.int .i64 a.pos, .int .i64 a.kind]
def Nm.cells (m : Nm) : List Value := .string m.name :: m.v.cells
/-- What is written of each. -/
def ivE (v : Iv) : List UInt8 := boolE v.s ++ if v.s = true then intE v.lo ++ intE v.hi else []
def alE (a : Al) : List UInt8 := intE a.pos ++ intE a.kind
def nmE (m : Nm) : List UInt8 := txtE m.name ++ ivE m.v
def alsE (l : List Al) : List UInt8 := numE l.length ++ l.flatMap alE
def smE (s : Sm) : List UInt8 := alsE s.al ++ boolE s.ends ++ ivE s.ret ++ numE s.md.length ++ s.md.flatMap nmE
theorem intE_len {z : Int} (h : i64ok z) : (intE z).length ≤ 10 := numE_len10 _ (zigN_lt z h.1 h.2)
theorem ivE_len {v : Iv} (h : v.ok) : (ivE v).length ≤ 21 := by
  have h1 := intE_len h.1
  have h2 := intE_len h.2
  unfold ivE
  split <;> simp [boolE] <;> omega
theorem alE_len {a : Al} (h : a.ok) : (alE a).length ≤ 20 := by
  have h1 := intE_len h.1
  have h2 := intE_len h.2
  unfold alE
  simp
  omega
theorem nmE_len {M : Nat} {m : Nm} (h : m.ok M) (hM : M ≤ 10000000000) : (nmE m).length ≤ M + 31 := by
  have h1 := txtE_len M m.name h.1 (by omega)
  have h2 := ivE_len h.2
  unfold nmE
  simp
  omega

theorem Holds.fact {w : World} {k : Nat} {t : TypeId} {cs : Array Value} (h : Holds w k t cs) (i : Nat) {v : Value} (hv : cs[i]? = some v) : k < w.heap.size ∧ w.cell? ⟨k, i, none⟩ = some v := ⟨h.lt, by rw [h.cell]; exact hv⟩

theorem ivE_true (lo hi : Int) (l : List UInt8) : l ++ boolE true ++ (intE lo ++ intE hi) = l ++ ivE ⟨true, lo, hi⟩ := by simp [ivE]
theorem ivE_false (lo hi : Int) (l : List UInt8) : l ++ boolE false = l ++ ivE ⟨false, lo, hi⟩ := by simp [ivE]

end Go.Proofs.YtelglbblgkhcmaaGreat
