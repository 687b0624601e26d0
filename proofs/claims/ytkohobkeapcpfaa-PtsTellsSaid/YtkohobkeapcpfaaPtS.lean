/-
  The walk of the reference's Pts.
-/
import Derived.Test.YtkohobkeapcpfaaPtR
import Derived.Test.YtkohobkeapcpfaaPtB
namespace Go.Proofs.Ytkohobkeapcpfaa
open Go.RowKit

/-- Strings do not lie in a block that holds a bool and a slice. -/
theorem Row.apartPt {w : World} {B g : Nat} {t : TypeId} {A A' : Option Addr} {l : List S} {z : Bool} {n c : Nat} (hr : Row w B A (l.map encStr)) (hg : Holds w g t #[.bool z, .slice A' n c]) (hne : l.map encStr ≠ []) : blk A ∉ [some g] := by
  obtain ⟨b, off, rfl, _, hc⟩ := hr hne
  intro h
  simp [blk] at h
  subst h
  rcases l with _ | ⟨x, r⟩
  · exact hne rfl
  · have h0 := hc 0 (encStr x) rfl
    rw [hg.cell] at h0
    match off, h0 with
    | 0, h0 => simp [encStr] at h0
    | 1, h0 => simp [encStr] at h0
    | k + 2, h0 => simp at h0
theorem Sl.store2 {w : World} {l : List S} {v : Value} (h : Sl w (l.map encStr) v) {g : Nat} {t : TypeId} {A' : Option Addr} {z : Bool} {n c : Nat} (hg : Holds w g t #[.bool z, .slice A' n c]) (x y : Value) : Sl ((w.setCell ⟨g, 0, none⟩ x).setCell ⟨g, 1, none⟩ y) (l.map encStr) v := by
  obtain ⟨A, c', e, hr, hc⟩ := h
  exact ⟨A, c', e, ((writes_store2 w g x y).row hr (Nat.le_refl _) (fun hne => hr.apartPt hg hne)).more (writes_store2 w g x y).size, hc⟩
theorem fold_len (l : List S) : (l.foldl addS []).length ≤ l.length := by
  rw [fold_addS]
  exact canon_len l

set_option maxRecDepth 100000 in
set_option maxHeartbeats 4000000 in
theorem refPts_any (w0 : World) (p : Pz) (v : Value) (h : PtsV w0 p v) (hn : p.cells.length ≤ 10000) :
    Calls Try.prog 9 #[v] w0 (RetP w0 ⟨p.nul, canon p.cells⟩) := by
  obtain ⟨A, c, rfl, hr0, hc0⟩ := h
  have K0 := (((Kp.start (Below.refl w0.heap.size w0)).addR hr0).new 25 #[.bool p.nul, .slice A p.cells.length c]).new 25 #[.bool false, .slice none 0 0]
  rw [show (w0.alloc (.cells #[.bool p.nul, .slice A p.cells.length c] 25)).heap.size = w0.heap.size + 1 by simp] at K0
  clear hr0
  go_enter Try.func9, Try.ntmps9
  go_wp2_with fail
  generalize (w0.alloc (.cells #[.bool p.nul, .slice A p.cells.length c] 25)).alloc (.cells #[.bool false, .slice none 0 0] 25) = w1 at K0 ⊢
  generalize hB0 : w0.heap.size = B0 at K0 ⊢
  have hB0' := Lib.hid hB0
  clear hB0
  go_loopw [3, 4] (fun lv i wr => ∃ (k : Nat) (cur : List S), k ≤ p.cells.length ∧ i = .int .i64 k ∧ cur = (p.cells.take k).foldl addS [] ∧ Kp w0 [(B0 + 1, 25, #[.bool false, .slice none 0 0]), (B0, 25, #[.bool p.nul, .slice A p.cells.length c])] [(A, p.cells.map encStr)] wr ∧ StrV wr cur lv) (fun _ i _ => p.cells.length - (intOf i).toNat)
  case atStart => exact ⟨0, [], by omega, rfl, rfl, K0, none, 0, rfl, Row.nil_ _ _ _, by simp⟩
  clear K0
  obtain ⟨k, cur, hk, rfl, hcur, K, A1, c1, rfl, hr1, hc1⟩ := hrel
  have fb0 := (K.fact 0 0 rfl rfl).2
  have fb1 := (K.fact 0 1 rfl rfl).2
  have fa0 := (K.fact 1 0 rfl rfl).2
  have fa1 := (K.fact 1 1 rfl rfl).2
  have hfl := fold_len (p.cells.take k)
  rw [List.length_take, ← hcur] at hfl
  have hcur2 := Lib.hid hcur
  have hr2 := Lib.hid hr1
  clear hcur hr1
  have hcl : cur.length ≤ 10000 := by omega
  by_cases hlt : k < p.cells.length
  · obtain ⟨b, off, rfl, hbb, hcell⟩ := (K.row 0 _ _ rfl).at_ (k := k) (by simpa using hlt)
    rw [List.getElem_map] at hcell
    have htk := Lib.hid (List.take_succ_eq_append_getElem hlt)
    generalize p.cells[k] = s at hcell htk
    go_wp2_with fail
    ((with_reducible refine (add_any wr A1 cur.length c1 cur s rfl (by omega) hc1 hr2.out).mono ?_))
    rintro e w2 ⟨⟨v2, rfl, hS⟩, hb2⟩
    have K2 := K.up hb2
    clear K hb2 fb0 fb1 fa0 fa1
    go_wp2_with fail
    go_roundw
    case rel => exact ⟨k + 1, addS cur s, by omega, by go_num, by rw [htk.out, List.foldl_append, ← hcur2.out]; rfl, K2, hS⟩
    case measure => simp [intOf]; omega
  · obtain rfl : k = p.cells.length := by omega
    have hcan : Hid (cur = canon p.cells) := Lib.hid (by rw [hcur2.out, List.take_length, fold_addS])
    have fz0 := (K.hold 0 _ _ _ rfl).frozen 0
    have fz1 := (K.hold 0 _ _ _ rfl).frozen 1
    have hst := writes_store2 wr (B0 + 1) (.bool p.nul) (.slice A1 cur.length c1)
    have hS := Sl.store2 (v := .slice A1 cur.length c1) (StrV.sl ⟨A1, c1, rfl, hr2.out, hc1⟩) (K.hold 0 _ _ _ rfl) (.bool p.nul) (.slice A1 cur.length c1)
    have hfin : Hid (RetP w0 ⟨p.nul, canon p.cells⟩ (.returned (.agg #[.bool p.nul, .slice A1 cur.length c1])) ((wr.setCell ⟨B0 + 1, 0, none⟩ (.bool p.nul)).setCell ⟨B0 + 1, 1, none⟩ (.slice A1 cur.length c1))) := Lib.hid (by
      obtain ⟨A2, c2, e2, hr2, hc2⟩ := hS
      rw [List.length_map] at hc2
      simp only [Value.slice.injEq, List.length_map, true_and] at e2
      obtain ⟨rfl, rfl⟩ := e2
      have hB := hB0'.out
      refine ⟨⟨_, rfl, A1, c1, by rw [← hcan.out], by rw [← hcan.out]; exact hr2, by rw [← hcan.out]; exact hc2⟩, K.bel.trans (hst.below K.size (fun j hj => by simp at hj; omega))⟩)
    have hh3 := Lib.hid ((K.hold 0 _ _ _ rfl).store2 (.bool p.nul) (.slice A1 cur.length c1))
    clear hst hS K
    go_wp2_with fail
    exact ret_cell1 rfl rfl rfl hh3.out Try.underlying25 Try.sPt hfin.out
end Go.Proofs.Ytkohobkeapcpfaa
