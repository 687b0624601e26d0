/-
  What pointers may be, as values; the walks of pts.Null, To, Any, Empty, NoNull, OnlyNull.
-/
import Derived.Test.YtkohobkeapcpfaaPtA
import Derived.Laws.ResultCell
import Derived.Laws.Rows
import Derived.Laws.NewBlocks
namespace Go.Proofs.Ytkohobkeapcpfaa
open Go.RowKit

structure Pz where
  nul : Bool
  cells : List S
def Pz.canon (p : Pz) : Pz := ⟨p.nul, Go.Proofs.Ytkohobkeapcpfaa.canon p.cells⟩
/-- v is p in w: a struct whose cells lie below the heap's end. -/
def PtsV (w : World) (p : Pz) (v : Value) : Prop := ∃ A c, v = .agg #[.bool p.nul, .slice A p.cells.length c] ∧ Row w w.heap.size A (p.cells.map encStr) ∧ p.cells.length ≤ c
theorem PtsV.up {w w' : World} {p : Pz} {v : Value} (h : PtsV w p v) (hb : Below w.heap.size w w') : PtsV w' p v := by
  obtain ⟨A, c, rfl, h1, h2⟩ := h
  exact ⟨A, c, rfl, (h1.below hb).more hb.size, h2⟩
def RetP (w0 : World) (p : Pz) (e : Ending) (w' : World) : Prop := (∃ v, e = .returned v ∧ PtsV w' p v) ∧ Below w0.heap.size w0 w'
theorem Holds.fact {w : World} {k : Nat} {t : TypeId} {cs : Array Value} (h : Holds w k t cs) (i : Nat) {v : Value} (hv : cs[i]? = some v) : k < w.heap.size ∧ w.cell? ⟨k, i, none⟩ = some v := ⟨h.lt, by rw [h.cell]; exact hv⟩
/-- The end of a function whose result is a struct in memory. -/
theorem ret_cell1 {fn : Func} {p : Tmp} {ty : TypeId} {R : Ending → World → Prop} {a : Act} {w : World} {g : Nat} {t : TypeId} {cs : Array Value} {fs : Array Field} (h : fn.results = #[.cell p ty]) (hd0 : a.defers = []) (hp : a.tmps.getD p undef = .pointer (some ⟨g, 0, none⟩))
    (hg : Holds w g t cs) (hu : Try.prog.underlying ty = some (.struct fs)) (hi : (Try.prog.info? ty).map (·.size) = some cs.size)
    (hR : R (.returned (.agg cs)) w) : bodyPost Try.prog fn R .ret a w := by
  refine bodyPost_ret_by (v := .agg cs) ?_ hd0 hR
  have hp' : a.tmps[p]?.getD undef = .pointer (some ⟨g, 0, none⟩) := by simpa [Array.getD_eq_getD_getElem?] using hp
  simp [results, h, hp', asAddr, run_loadVar_row w g t ty cs (0, 0) _ hg hu rfl hi]
theorem Try.sPt : (Try.prog.info? 25).map (·.size) = some 2 := by kernel_rfl
theorem Holds.store2 {w : World} {g : Nat} {t : TypeId} {a b : Value} (h : Holds w g t #[a, b]) (x y : Value) : Holds ((w.setCell ⟨g, 0, none⟩ x).setCell ⟨g, 1, none⟩ y) g t #[x, y] := by
  have := (h.store 0 x).store 1 y
  simpa using this
theorem writes_store2 (w : World) (g : Nat) (x y : Value) : Writes [some g] w ((w.setCell ⟨g, 0, none⟩ x).setCell ⟨g, 1, none⟩ y) :=
  (Writes.store w (p := ⟨g, 0, none⟩) (by simp) x).trans (Writes.store _ (p := ⟨g, 1, none⟩) (by simp) y)
/-- A row that the call has made, read behind a write to another block. -/
theorem own_val {w w' : World} {B : Nat} {v : Value} {l : List S} {M : List (Option Nat)} (h : w.ownsRow B 9 1 v l.length (l.map encStr)) (hM : Writes M w w') (hk : ∀ j, some j ∈ M → j < B) : ∃ A c, v = .slice A l.length c ∧ Row w' w'.heap.size A (l.map encStr) ∧ l.length ≤ c := by
  have h2 : w'.ownsRow B 9 1 v l.length (l.map encStr) := hM.own h (by
    by_cases hn : v.ownBlock = none
    · exact .inl hn
    · refine .inr fun hm => ?_
      rcases h.2 with ⟨hv, _⟩ | ⟨g, cap, cur, hv, hg, _⟩
      · rw [hv] at hn; exact hn rfl
      · rw [hv] at hm
        simp [Value.ownBlock] at hm
        have := hk g hm
        omega)
  exact own_rowA h2

set_option maxRecDepth 100000 in
theorem null_any (w0 : World) : Calls Try.prog 23 #[] w0 (RetP w0 ⟨true, []⟩) := by
  have hb := below_new w0 (.cells #[.bool true, .slice none 0 0] 25)
  have hh := Holds.new w0 25 #[.bool true, .slice none 0 0]
  go_enter Try.func23, Try.ntmps23
  go_wp2_with fail
  exact ret_cell1 rfl rfl rfl hh Try.underlying25 Try.sPt ⟨⟨_, rfl, none, 0, rfl, Row.nil_ _ _ _, Nat.le_refl _⟩, hb⟩

set_option maxRecDepth 100000 in
theorem to_any (w0 : World) (A : Option Addr) (n c : Nat) (l : List S) (hn : l.length = n) (hr : Row w0 w0.heap.size A (l.map encStr)) (hm : n ≤ 100000) :
    Calls Try.prog 21 #[.slice A n c] w0 (RetP w0 ⟨false, canon l⟩) := by
  have k1 := below_new w0 (.cells #[.bool false, .slice none 0 0] 25)
  have hh := Lib.hid ((Holds.new w0 25 #[.bool false, .slice none 0 0]).alloc (.cells #[.slice A n c] 23))
  have hL := Lib.hid (Lists.one (w := w0.alloc (.cells #[.bool false, .slice none 0 0] 25)) 23 (c := c) hn ((hr.below k1).more k1.size))
  have hk := Lib.hid (k1.trans ((below_new (w0.alloc (.cells #[.bool false, .slice none 0 0] 25)) (.cells #[.slice A n c] 23)).mono k1.size))
  have hs : Hid ([l].flatten.length ≤ 1000000) := Lib.hid (by simp; omega)
  have e1 : Hid ([l].flatten = l) := Lib.hid (by simp)
  clear k1 hr
  go_enter Try.func21, Try.ntmps21
  go_wp2_with fail
  have hsz : (w0.alloc (.cells #[.bool false, .slice none 0 0] 25)).heap.size = w0.heap.size + 1 := by simp
  rw [hsz] at hL
  clear hsz
  generalize (w0.alloc (.cells #[.bool false, .slice none 0 0] 25)).alloc (.cells #[.slice A n c] 23) = w1 at hh hL hk ⊢
  refine (ordered_any w1 (some ⟨w0.heap.size + 1, 0, none⟩) 1 1 [l] rfl (by omega) hL.out hs.out).mono ?_
  rintro e w2 ⟨v, rfl, ho, hb2⟩
  rw [e1.out] at ho
  obtain ⟨A2, c2, rfl, _, _⟩ := own_rowA ho
  have hh2 := hh.out.below hb2 hh.out.lt
  have z0 := (hh2.fact 0 rfl).2
  have z1 := (hh2.fact 1 rfl).2
  have f0 := hh2.frozen 0
  have f1 := hh2.frozen 1
  have hst := writes_store2 w2 w0.heap.size (.bool false) (.slice A2 (canon l).length c2)
  obtain ⟨A3, c3, e3, hr3, hc3⟩ := own_val ho hst (fun j hj => by simp at hj; have := hh.out.lt; omega)
  simp only [Value.slice.injEq, true_and] at e3
  obtain ⟨rfl, rfl⟩ := e3
  have hfin : Hid (RetP w0 ⟨false, canon l⟩ (.returned (.agg #[.bool false, .slice A2 (canon l).length c2])) ((w2.setCell ⟨w0.heap.size, 0, none⟩ (.bool false)).setCell ⟨w0.heap.size, 1, none⟩ (.slice A2 (canon l).length c2))) :=
    Lib.hid ⟨⟨_, rfl, A2, c2, rfl, hr3, hc3⟩, (hk.out.trans (hb2.mono hk.out.size)).trans (hst.below (Nat.le_trans hk.out.size hb2.size) (fun j hj => by simp at hj; omega))⟩
  have hh3 := Lib.hid (hh2.store2 (.bool false) (.slice A2 (canon l).length c2))
  clear hh2 hst hr3 hb2 ho hh hL hk hs e1 hc3
  go_wp2_with fail
  exact ret_cell1 rfl rfl rfl hh3.out Try.underlying25 Try.sPt hfin.out
set_option maxRecDepth 100000 in
theorem any_any (w0 : World) (A : Option Addr) (n c : Nat) (l : List S) (hn : l.length = n) (hr : Row w0 w0.heap.size A (l.map encStr)) (hm : n ≤ 100000) :
    Calls Try.prog 22 #[.slice A n c] w0 (RetP w0 ⟨true, canon l⟩) := by
  have k1 := below_new w0 (.cells #[.bool false, .slice none 0 0] 25)
  have hh := Lib.hid ((Holds.new w0 25 #[.bool false, .slice none 0 0]).alloc (.cells #[.slice A n c] 23))
  have hL := Lib.hid (Lists.one (w := w0.alloc (.cells #[.bool false, .slice none 0 0] 25)) 23 (c := c) hn ((hr.below k1).more k1.size))
  have hk := Lib.hid (k1.trans ((below_new (w0.alloc (.cells #[.bool false, .slice none 0 0] 25)) (.cells #[.slice A n c] 23)).mono k1.size))
  have hs : Hid ([l].flatten.length ≤ 1000000) := Lib.hid (by simp; omega)
  have e1 : Hid ([l].flatten = l) := Lib.hid (by simp)
  clear k1 hr
  go_enter Try.func22, Try.ntmps22
  go_wp2_with fail
  have hsz : (w0.alloc (.cells #[.bool false, .slice none 0 0] 25)).heap.size = w0.heap.size + 1 := by simp
  rw [hsz] at hL
  clear hsz
  generalize (w0.alloc (.cells #[.bool false, .slice none 0 0] 25)).alloc (.cells #[.slice A n c] 23) = w1 at hh hL hk ⊢
  refine (ordered_any w1 (some ⟨w0.heap.size + 1, 0, none⟩) 1 1 [l] rfl (by omega) hL.out hs.out).mono ?_
  rintro e w2 ⟨v, rfl, ho, hb2⟩
  rw [e1.out] at ho
  obtain ⟨A2, c2, rfl, _, _⟩ := own_rowA ho
  have hh2 := hh.out.below hb2 hh.out.lt
  have z0 := (hh2.fact 0 rfl).2
  have z1 := (hh2.fact 1 rfl).2
  have f0 := hh2.frozen 0
  have f1 := hh2.frozen 1
  have hst := writes_store2 w2 w0.heap.size (.bool true) (.slice A2 (canon l).length c2)
  obtain ⟨A3, c3, e3, hr3, hc3⟩ := own_val ho hst (fun j hj => by simp at hj; have := hh.out.lt; omega)
  simp only [Value.slice.injEq, true_and] at e3
  obtain ⟨rfl, rfl⟩ := e3
  have hfin : Hid (RetP w0 ⟨true, canon l⟩ (.returned (.agg #[.bool true, .slice A2 (canon l).length c2])) ((w2.setCell ⟨w0.heap.size, 0, none⟩ (.bool true)).setCell ⟨w0.heap.size, 1, none⟩ (.slice A2 (canon l).length c2))) :=
    Lib.hid ⟨⟨_, rfl, A2, c2, rfl, hr3, hc3⟩, (hk.out.trans (hb2.mono hk.out.size)).trans (hst.below (Nat.le_trans hk.out.size hb2.size) (fun j hj => by simp at hj; omega))⟩
  have hh3 := Lib.hid (hh2.store2 (.bool true) (.slice A2 (canon l).length c2))
  clear hh2 hst hr3 hb2 ho hh hL hk hs e1 hc3
  go_wp2_with fail
  exact ret_cell1 rfl rfl rfl hh3.out Try.underlying25 Try.sPt hfin.out

set_option maxRecDepth 100000 in
theorem empty_any (w0 : World) (p : Pz) (v : Value) (h : PtsV w0 p v) (hn : p.cells.length ≤ 100000) :
    Calls Try.prog 15 #[v] w0 fun e w' => e = .returned (.bool (!p.nul && p.cells.isEmpty)) ∧ Below w0.heap.size w0 w' := by
  obtain ⟨A, c, rfl, _, _⟩ := h
  have hb := Lib.hid (below_new w0 (.cells #[.bool p.nul, .slice A p.cells.length c] 25))
  obtain ⟨pn, pc⟩ := p
  cases pn with
  | true =>
    go_enter Try.func15, Try.ntmps15
    go_wp2_with fail
    go_ret
    exact ⟨rfl, hb.out⟩
  | false =>
    cases pc with
    | nil =>
      go_enter Try.func15, Try.ntmps15
      go_wp2_with fail
      go_ret
      exact ⟨rfl, hb.out⟩
    | cons x l =>
      obtain ⟨m, hm⟩ : ∃ m, m = (x :: l).length := ⟨_, rfl⟩
      have hm0 : ¬ m = 0 := by rw [hm]; simp
      simp only [← hm] at hb ⊢
      clear hn hm
      go_enter Try.func15, Try.ntmps15
      go_wp2_with fail
      go_ret
      exact ⟨ret_bool (show ((m : Int) == 0) = false by simp; omega), hb.out⟩
set_option maxRecDepth 100000 in
theorem refEmpty_any (w0 : World) (p : Pz) (v : Value) (h : PtsV w0 p v) (hn : p.cells.length ≤ 100000) :
    Calls Try.prog 16 #[v] w0 fun e w' => e = .returned (.bool (!p.nul && p.cells.isEmpty)) ∧ Below w0.heap.size w0 w' := by
  obtain ⟨A, c, rfl, _, _⟩ := h
  have hb := Lib.hid (below_new w0 (.cells #[.bool p.nul, .slice A p.cells.length c] 25))
  obtain ⟨pn, pc⟩ := p
  cases pn with
  | true =>
    go_enter Try.func16, Try.ntmps16
    go_wp2_with fail
    go_ret
    exact ⟨rfl, hb.out⟩
  | false =>
    cases pc with
    | nil =>
      go_enter Try.func16, Try.ntmps16
      go_wp2_with fail
      go_ret
      exact ⟨rfl, hb.out⟩
    | cons x l =>
      obtain ⟨m, hm⟩ : ∃ m, m = (x :: l).length := ⟨_, rfl⟩
      have hm0 : ¬ m = 0 := by rw [hm]; simp
      simp only [← hm] at hb ⊢
      clear hn hm
      go_enter Try.func16, Try.ntmps16
      go_wp2_with fail
      go_ret
      exact ⟨ret_bool (show ((m : Int) == 0) = false by simp; omega), hb.out⟩

set_option maxRecDepth 100000 in
theorem noNull_any (w0 : World) (p : Pz) (v : Value) (h : PtsV w0 p v) (hn : p.cells.length ≤ 100000) :
    Calls Try.prog 17 #[v] w0 (RetP w0 ⟨false, canon p.cells⟩) := by
  obtain ⟨A, c, rfl, h1, h2⟩ := h
  have k1 := below_new w0 (.cells #[.bool p.nul, .slice A p.cells.length c] 25)
  have k2 := k1.trans ((below_new (w0.alloc (.cells #[.bool p.nul, .slice A p.cells.length c] 25)) (.cells #[.bool false, .slice none 0 0] 25)).mono k1.size)
  have hh0 := Holds.new (w0.alloc (.cells #[.bool p.nul, .slice A p.cells.length c] 25)) 25 #[.bool false, .slice none 0 0]
  rw [show (w0.alloc (.cells #[.bool p.nul, .slice A p.cells.length c] 25)).heap.size = w0.heap.size + 1 by simp] at hh0
  have hh := Lib.hid hh0
  have hr := Lib.hid ((h1.below k2).more k2.size)
  have hk := Lib.hid k2
  clear k1 k2 h1 h2 hh0
  go_enter Try.func17, Try.ntmps17
  go_wp2_with fail
  generalize (w0.alloc (.cells #[.bool p.nul, .slice A p.cells.length c] 25)).alloc (.cells #[.bool false, .slice none 0 0] 25) = w1 at hh hr hk ⊢
  refine (to_any w1 A p.cells.length c p.cells rfl hr.out hn).mono ?_
  rintro e w2 ⟨⟨v, rfl, A2, c2, rfl, hr2, hc2⟩, hb2⟩
  have hh2 := hh.out.below hb2 hh.out.lt
  have z0 := (hh2.fact 0 rfl).2
  have z1 := (hh2.fact 1 rfl).2
  have f0 := hh2.frozen 0
  have f1 := hh2.frozen 1
  have hst := writes_store2 w2 (w0.heap.size + 1) (.bool false) (.slice A2 (canon p.cells).length c2)
  have hfin : Hid (RetP w0 ⟨false, canon p.cells⟩ (.returned (.agg #[.bool false, .slice A2 (canon p.cells).length c2])) ((w2.setCell ⟨w0.heap.size + 1, 0, none⟩ (.bool false)).setCell ⟨w0.heap.size + 1, 1, none⟩ (.slice A2 (canon p.cells).length c2))) := Lib.hid (by
    refine ⟨⟨_, rfl, A2, c2, rfl, ?_, hc2⟩, (hk.out.trans (hb2.mono hk.out.size)).trans (hst.below (Nat.le_trans hk.out.size hb2.size) (fun j hj => by simp at hj; omega))⟩
    refine (hst.row hr2 (Nat.le_refl _) (fun hne hm => ?_)).more hst.size
    obtain ⟨b, off, e, hb, hcell⟩ := hr2 hne
    rw [e] at hm
    simp [blk] at hm
    subst hm
    cases hcs : canon p.cells with
    | nil => rw [hcs] at hne; exact hne rfl
    | cons x l =>
      have := hcell 0 _ (by rw [hcs]; rfl)
      rw [hh2.cell] at this
      rcases off with _ | _ | off <;> simp at this)
  have hh3 := Lib.hid (hh2.store2 (.bool false) (.slice A2 (canon p.cells).length c2))
  clear hh2 hst hr2 hb2 hc2
  go_wp2_with fail
  exact ret_cell1 rfl rfl rfl hh3.out Try.underlying25 Try.sPt hfin.out

set_option maxRecDepth 100000 in
theorem onlyNull_any (w0 : World) (p : Pz) (v : Value) (h : PtsV w0 p v) :
    Calls Try.prog 18 #[v] w0 (RetP w0 ⟨p.nul, []⟩) := by
  obtain ⟨A, c, rfl, h1, h2⟩ := h
  have k1 := below_new w0 (.cells #[.bool p.nul, .slice A p.cells.length c] 25)
  have k2 := Lib.hid (k1.trans ((below_new (w0.alloc (.cells #[.bool p.nul, .slice A p.cells.length c] 25)) (.cells #[.bool p.nul, .slice none 0 0] 25)).mono k1.size))
  have hh0 := Holds.new (w0.alloc (.cells #[.bool p.nul, .slice A p.cells.length c] 25)) 25 #[.bool p.nul, .slice none 0 0]
  rw [show (w0.alloc (.cells #[.bool p.nul, .slice A p.cells.length c] 25)).heap.size = w0.heap.size + 1 by simp] at hh0
  have hh := Lib.hid hh0
  clear k1 h1 h2 hh0
  go_enter Try.func18, Try.ntmps18
  go_wp2_with fail
  exact ret_cell1 rfl rfl rfl hh.out Try.underlying25 Try.sPt ⟨⟨_, rfl, none, 0, rfl, Row.nil_ _ _ _, Nat.le_refl _⟩, k2.out⟩
end Go.Proofs.Ytkohobkeapcpfaa
