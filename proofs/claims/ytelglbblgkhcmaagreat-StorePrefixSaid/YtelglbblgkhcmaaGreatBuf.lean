/-
  Buffers: slices of bytes in a block of the call's own: read, written cell by cell, copied into. And: rows stay while a map is written. No function of the program in sight.
-/
import Derived.Test.YtelglbblgkhcmaaGreatDkB
namespace Go.Proofs.YtelglbblgkhcmaaGreat
open Go.RowKit

/-- v is a slice of the bytes l, in block g, which it owns (from block B on). -/
def Buf (w : World) (B g cap : Nat) (l : List UInt8) : Prop := w.ownsRow B 5 1 (.slice (some ⟨g, 0, none⟩) l.length cap) l.length (l.map byteV)
section
variable {w w' : World} {B g cap : Nat} {l : List UInt8}
theorem Buf.parts (h : Buf w B g cap l) : ∃ cur : Array Value, B ≤ g ∧ w.heap[g]? = some (.cells cur 5 (0, 0)) ∧ l.length ≤ cap ∧ cap ≤ maxLen ∧ cur.size = cap ∧ cur.toList.take l.length = l.map byteV := by
  rcases h.2 with ⟨h1, _⟩ | ⟨g', cap', cur, e, h1, h2, h3, h4, h5, h6⟩
  · cases h1
  · injection e with e1 _ e2
    injection e1 with e1
    injection e1 with e1
    subst e1 e2
    exact ⟨cur, h1, h2, h3, h4, by omega, by simpa using h6⟩
theorem Buf.mk' {cur : Array Value} (h1 : B ≤ g) (h2 : w.heap[g]? = some (.cells cur 5 (0, 0))) (h3 : l.length ≤ cap) (h4 : cap ≤ maxLen) (h5 : cur.size = cap) (h6 : cur.toList.take l.length = l.map byteV) : Buf w B g cap l :=
  ⟨by simp, .inr ⟨g, cap, cur, rfl, h1, h2, h3, h4, by omega, by simpa using h6⟩⟩
theorem Buf.lt (h : Buf w B g cap l) : g < w.heap.size := by
  obtain ⟨cur, _, h2, _⟩ := h.parts
  exact (Array.getElem?_eq_some_iff.1 h2).1
theorem Buf.cell (h : Buf w B g cap l) {i : Nat} (hi : i < l.length) : w.cell? ⟨g, i, none⟩ = some (byteV l[i]) := by
  obtain ⟨cur, _, h2, h3, _, h5, h6⟩ := h.parts
  rw [cell_of_row w g i cur _ _ h2]
  have : (cur.toList.take l.length)[i]? = some (byteV l[i]) := by rw [h6, List.getElem?_map, List.getElem?_eq_getElem hi]; rfl
  rw [List.getElem?_take, if_pos hi] at this
  simpa using this
theorem Buf.frozen (h : Buf w B g cap l) (i : Nat) : w.frozen? ⟨g, i, none⟩ = false := by
  obtain ⟨cur, _, h2, _⟩ := h.parts
  simp [World.frozen?, h2]
theorem Buf.loc (h : Buf w B g cap l) (hb : w'.heap[g]? = w.heap[g]?) : Buf w' B g cap l := by
  obtain ⟨cur, h1, h2, h3, h4, h5, h6⟩ := h.parts
  exact Buf.mk' h1 (hb.trans h2) h3 h4 h5 h6
theorem Buf.below (h : Buf w B g cap l) (hb : Below w.heap.size w w') : Buf w' B g cap l := h.loc (hb.block g h.lt)
theorem Buf.base {B' : Nat} (h : Buf w B g cap l) (hB : B' ≤ B) : Buf w B' g cap l := own_base h hB
theorem Buf.rowAt (h : Buf w B g cap l) : RowAt w (some ⟨g, 0, none⟩) (l.map byteV) := fun _ => ⟨g, 0, rfl, fun j u hu => by
  have hj : j < l.length := by
    rcases Nat.lt_or_ge j l.length with h1 | h1
    · exact h1
    · rw [List.getElem?_eq_none (by simpa using h1)] at hu; cases hu
  rw [Nat.zero_add, h.cell hj]
  rw [List.getElem?_map, List.getElem?_eq_getElem hj] at hu
  exact hu⟩
theorem Buf.store (h : Buf w B g cap l) (i : Nat) (x : UInt8) : Buf (w.setCell ⟨g, i, none⟩ (byteV x)) B g cap (l.set i x) := by
  obtain ⟨cur, h1, h2, h3, h4, h5, h6⟩ := h.parts
  refine Buf.mk' (cur := cur.setIfInBounds i (byteV x)) h1 (by simp [World.setCell, Array.getElem?_modify, h2]) (by simpa using h3) h4 (by simpa using h5) ?_
  rw [Array.toList_setIfInBounds, List.take_set, List.length_set, h6, List.map_set]
/-- A buffer just made. -/
theorem Buf.made (w : World) (l : List UInt8) (hm : l.length ≤ 100000000) : Buf (w.alloc (.cells (l.map byteV).toArray 5)) w.heap.size w.heap.size l.length l := own_block (Holds.new w _ _) (Nat.le_refl _) hm
/-- What a function hands back as new bytes, where there is one at least. -/
theorem NewB.buf {v : Value} (h : NewB w w' l v) (hl : 0 < l.length) : ∃ g cap, v = .slice (some ⟨g, 0, none⟩) l.length cap ∧ Buf w' w.heap.size g cap l := by
  rcases h.2 with ⟨_, h1⟩ | ⟨g, cap, cur, rfl, _⟩
  · omega
  · exact ⟨g, cap, rfl, h⟩
end
section
variable {P : Program} {ops : Array Oper} {rest : List Oper} {o : Oper} {a : Act} {Q : Exit → Act → World → Prop}
set_option maxRecDepth 100000 in
/-- 'copy(b[off:], src)'. -/
theorem wpList_copy_buf (hP : P = Tryz.prog) (w : World) (hgd : o.guard = none) (d s : Operand) (dT sT : TypeId) (ho : o.op = .call { callee := .builtin .copy, args := #[d, s], argTypes := #[dT, sT] }) (hu : P.underlying dT = some (.slice 5))
    (B g cap : Nat) (l : List UInt8) (hb : Buf w B g cap l) (off dLen dCap : Nat) (hd : a.eval d = .slice (some ⟨g, off, none⟩) dLen dCap) (hfit : off + dLen ≤ l.length)
    (A : Option Addr) (m c : Nat) (src : List UInt8) (hs : a.eval s = .slice A m c) (hn : src.length = Nat.min m dLen) (hr : RowAt w A (src.map byteV))
    (hK : ∀ w', Buf w' B g cap (splice l off src) → w.grownBy w' (some g) → wpList P ops Q rest (a.put o.dst (goInt src.length)) w') : wpList P ops Q (o :: rest) a w := by
  subst hP
  obtain ⟨cur, h1, h2, h3, h4, h5, h6⟩ := hb.parts
  by_cases h0 : src = []
  · subst h0
    refine wpList_copy_nothing hgd d s dT sT ho 5 hu Tryz.sizeU8 _ _ dLen dCap m c hd hs (by simpa using hn.symm) ?_
    exact hK w (by simpa [splice] using hb) (World.grownBy.refl w _)
  · obtain ⟨b, o2, rfl, hc⟩ := hr (by simpa using h0)
    have hlen : src.length ≤ dLen := by rw [hn]; exact Nat.min_le_right _ _
    refine wpList_copy_own hgd d s dT sT ho 5 hu Tryz.sizeU8 g off dLen dCap ⟨b, o2, none⟩ m c hd hs cur 5 h2 (src.map byteV) (by simpa using hn) (fun j v hv => ?_) (by rw [List.length_map]; omega) byte_one ?_
    · have hadd : (⟨b, o2, none⟩ : Addr).add j = ⟨b, o2 + j, none⟩ := by unfold Addr.add; split <;> simp_all
      rw [hadd]
      exact hc j v hv
    · rw [List.length_map]
      refine hK _ (Buf.mk' (cur := (cur.toList.take off ++ (src.map byteV ++ cur.toList.drop (off + src.length))).toArray) h1 (by simpa using setRow_heap w g _ _ 5 _ h2) ?_ h4 ?_ ?_) ⟨rfl, rfl, rfl, by simp [World.setRow], fun k _ hk => setRow_other w g k _ (fun e => hk (by rw [e]))⟩
      · rw [length_splice _ _ _ (by omega)]; exact h3
      · simp; omega
      · rw [length_splice _ _ _ (by omega)]
        have e1 : cur.toList.take off = (l.map byteV).take off := by rw [← h6, List.take_take]; congr 1; omega
        have e2 : (cur.toList.drop (off + src.length)).take (l.length - (off + src.length)) = (l.map byteV).drop (off + src.length) := by rw [← h6, List.drop_take]
        simp only [splice, List.map_append, List.map_take, List.map_drop]
        rw [List.take_append, List.take_append, e1, ← e2]
        have l1 : ((l.map byteV).take off).length = off := by simp; omega
        rw [l1, List.length_map]
        rw [List.take_of_length_le (l := (l.map byteV).take off) (by rw [l1]; omega), List.take_of_length_le (l := src.map byteV) (by simp; omega), show l.length - off - src.length = l.length - (off + src.length) by omega]
end
/-- Cells stay while a map is written. -/
theorem RowAt.keepMap {w w' : World} {A : Option Addr} {vs : List Value} (h : RowAt w A vs) {m : Nat} {f : Int → Option Value} (hm : IMap w m f) (hg : w.grownBy w' (some m)) : RowAt w' A vs := fun hn => by
  obtain ⟨b, off, e, hc⟩ := h hn
  refine ⟨b, off, e, fun j u hu => ?_⟩
  rw [← hc j u hu]
  have h0 := hc j u hu
  refine World.cell?_of_block (hg.block b (cell_lt h0) ?_)
  intro e
  injection e with e
  subst e
  obtain ⟨⟨n, D, _, ⟨es, clock, hh, _⟩, _⟩, _⟩ := hm
  simp [World.cell?, hh] at h0
theorem Buf.keepMap {w w' : World} {B g cap : Nat} {l : List UInt8} (h : Buf w B g cap l) {m : Nat} {f : Int → Option Value} (hm : IMap w m f) (hg : w.grownBy w' (some m)) : Buf w' B g cap l := h.loc (hg.block g h.lt (by
  intro e
  injection e with e
  subst e
  obtain ⟨cur, _, h2, _⟩ := h.parts
  obtain ⟨⟨n, D, _, ⟨es, clock, hh, _⟩, _⟩, _⟩ := hm
  rw [hh] at h2
  cases h2))
end Go.Proofs.YtelglbblgkhcmaaGreat
