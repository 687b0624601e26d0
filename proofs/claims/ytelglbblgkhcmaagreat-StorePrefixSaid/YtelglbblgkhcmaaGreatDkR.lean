/-
  Reading a disk that has power; a buffer beside a disk.
-/
import Derived.Test.YtelglbblgkhcmaaGreatBuf
import Derived.Test.YtelglbblgkhcmaaGreatDkC
namespace Go.Proofs.YtelglbblgkhcmaaGreat
open Go.RowKit Go.Deep

theorem RowAt.below {w w' : World} {A : Option Addr} {vs : List Value} (h : RowAt w A vs) (hb : Below w.heap.size w w') : RowAt w' A vs := (h.row.below hb).rowAt
theorem RowAt.take {w : World} {A : Option Addr} {l : List UInt8} (h : RowAt w A (l.map byteV)) (k : Nat) : RowAt w A ((l.take k).map byteV) := by
  rw [List.map_take]
  exact (h.row.take k).rowAt
/-- Read where there is power. -/
theorem read_ok (w : World) (q : DR) (h : DiskP q w) (hd : q.dead = false) (i : Int) (hi : 0 ≤ i ∧ i < q.n) :
    Calls Tryz.prog 69 #[.pointer (some ⟨q.g, 0, none⟩), .int .i64 i] w fun e w' => (∃ g cap, e = .returned (.tuple #[.slice (some ⟨g, 0, none⟩) q.size cap, .int .i64 0]) ∧ Buf w' w.heap.size g cap (q.last i)) ∧ Below w.heap.size w w' := by
  have n2 := h.n2
  have s1 := h.s1
  refine (read_any w q h i (by omega)).mono fun e w' hR => ?_
  unfold ReadE at hR
  rw [if_neg (by rw [hd]; simp), if_neg (by omega)] at hR
  obtain ⟨⟨v, rfl, hv⟩, hb⟩ := hR
  obtain ⟨g, cap, rfl, hbf⟩ := hv.buf (by rw [h.last_len]; omega)
  exact ⟨⟨g, cap, by rw [h.last_len], hbf⟩, hb⟩
theorem Buf.dstep {q q' : DR} {w w' : World} {B g cap : Nat} {l : List UInt8} (h : Buf w B g cap l) (hl : l ≠ []) (hq : DiskP q w) (hst : DStep q w q' w') : Buf w' B g cap l :=
  h.loc (hst.wrt.block g h.lt (by
    have := byte_apart hq h.rowAt hl (x := g) rfl
    simp
    exact this))
end Go.Proofs.YtelglbblgkhcmaaGreat
