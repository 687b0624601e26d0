/-
  The walk of Copy; two disks side by side.
-/
import Derived.Test.YtncddkbagmelkaaDkJ
namespace Go.Proofs.Ytncddkbagmelkaa
open Go.RowKit Go.Deep

/-- A disk whose own blocks are not another's stays while that one turns. -/
theorem DiskP.other {r q q' : DR} {w w' : World} (h : DiskP r w) (hq : DiskP q w) (hst : DStep q w q' w') (h1 : ∀ x, (x = r.g ∨ x = r.md ∨ x = r.mw) → ¬ (x = q.g ∨ x = q.md ∨ x = q.mw)) : DiskP r w' := by
  have hb : ∀ x, (x = r.g ∨ x = r.md ∨ x = r.mw) → x < w.heap.size → w'.heap[x]? = w.heap[x]? := fun x hx hlt => hst.wrt.block x hlt (by
    have := h1 x hx
    simp
    omega)
  exact ⟨(hb _ (.inl rfl) h.hold.lt).trans h.hold, h.md.loc (hb _ (.inr (.inl rfl)) h.md.lt), h.mw.loc (hb _ (.inr (.inr rfl)) h.mw.lt), fun k p hp => ⟨hst.bytes hq (h.pay k p hp).1, (h.pay k p hp).2⟩, h.key, h.ne, h.n1, h.n2, h.s1, h.s2, h.left⟩

set_option maxRecDepth 100000 in
set_option maxHeartbeats 2000000 in
theorem copy_any (w : World) (q : DR) (h : DiskP q w) :
    Calls Try.prog 30 #[.pointer (some ⟨q.g, 0, none⟩)] w fun e w' => e = .returned (.pointer (some ⟨w.heap.size, 0, none⟩)) ∧ DiskP { q with g := w.heap.size, md := w.heap.size + 1, mw := w.heap.size + 2 } w' ∧ Below w.heap.size w w' := by
  have f0 := h.f0
  have f1 := h.f1
  have f2 := h.f2
  have f3 := h.f3
  have f4 := h.f4
  have f5 := h.f5
  have f6 := h.f6
  have hgl := h.hold.lt
  have hh0 := Holds.new w 55 q.cells
  have hb0 := below_new w (.cells q.cells 55)
  obtain ⟨w1, hw1⟩ : ∃ x, x = w.alloc (.cells q.cells 55) := ⟨_, rfl⟩
  have hw1' : w1 = w.alloc (.cells #[.int .i64 q.n, .int .i64 q.size, .map (some q.md), .map (some q.mw), .bool q.dead, .bool q.cut, .int .i64 q.left] 55) := hw1
  rw [← hw1] at hh0 hb0
  have hs1 : w1.heap.size = w.heap.size + 1 := by rw [hw1]; simp
  have hD1 := Lib.hid (h.below hb0)
  have hh := Lib.hid hh0
  have hb := Lib.hid hb0
  have hW := Lib.hid hw1'
  have hS := Lib.hid hs1
  clear hh0 hb0 hw1 hw1' hs1
  go_enter Try.func30, Try.ntmps30
  go_wp2_with fail
  rw [← hW.out]
  have k2 := hD1.out.f2
  clear f0 f1 f2 f3 f4 f5 f6
  refine (mapclone_any w1 q.md _ hD1.out.md).mono ?_
  rintro e w2 ⟨rfl, hm1, hb2, hs2⟩
  rw [hS.out] at hm1 hs2 ⊢
  have hD2 := hD1.out.below hb2
  have hh2 := hh.out.below hb2 hh.out.lt
  have g3 := hD2.f3
  have c2 : w2.cell? ⟨w.heap.size, 2, none⟩ = some (.map (some q.md)) := hh2.cell 2
  have z2 := hh2.frozen 2
  have hst2 := Writes.store w2 (M := [some w.heap.size]) (p := ⟨w.heap.size, 2, none⟩) (by simp) (.map (some (w.heap.size + 1)))
  have hh3 := hh2.store 2 (.map (some (w.heap.size + 1)))
  have hb3 := (hb.out.trans (hb2.mono (by rw [hS.out]; omega))).trans (hst2.below (by rw [hs2]; omega) (fun j hj => by simp at hj; omega))
  have hm3 := hm1.loc (hst2.block _ hm1.lt (by simp))
  have hqm3 := hD2.mw.loc (hst2.block _ hD2.mw.lt (by simp; have := h.mw.lt; omega))
  have hne : q.g ≠ w.heap.size := by omega
  obtain ⟨w3, hw3⟩ : ∃ x, x = w2.setCell ⟨w.heap.size, 2, none⟩ (.map (some (w.heap.size + 1))) := ⟨_, rfl⟩
  rw [← hw3] at hh3 hb3 hm3 hqm3
  have hs3 : w3.heap.size = w.heap.size + 1 + 1 := by rw [hw3]; simp [World.setCell]; exact hs2
  have hh3' := Lib.hid hh3
  have hb3' := Lib.hid hb3
  have hm3' := Lib.hid hm3
  have hqm3' := Lib.hid hqm3
  have hS3 := Lib.hid hs3
  have hW3 := Lib.hid hw3
  clear hh3 hb3 hm3 hqm3 hs3 hw3 hst2 hh2 hD2 hm1 hb2 hs2 k2
  go_wp2_with fail
  rw [← hW3.out]
  clear g3 c2 z2
  refine (mapclone_any w3 q.mw _ hqm3'.out).mono ?_
  rintro e w4 ⟨rfl, hm4, hb4, hs4⟩
  rw [hS3.out] at hm4 hs4 ⊢
  have hh4 := hh3'.out.below hb4 hh3'.out.lt
  have c3 : w4.cell? ⟨w.heap.size, 3, none⟩ = some (.map (some q.mw)) := hh4.cell 3
  have z3 := hh4.frozen 3
  have hst4 := Writes.store w4 (M := [some w.heap.size]) (p := ⟨w.heap.size, 3, none⟩) (by simp) (.map (some (w.heap.size + 1 + 1)))
  have hh5 := hh4.store 3 (.map (some (w.heap.size + 1 + 1)))
  have hb5 := (hb3'.out.trans (hb4.mono (by rw [hS3.out]; omega))).trans (hst4.below (by rw [hs4]; omega) (fun j hj => by simp at hj; omega))
  have hm5 := (hm3'.out.loc (hb4.block _ hm3'.out.lt)).loc (hst4.block _ (Nat.lt_of_lt_of_le hm3'.out.lt hb4.size) (by simp))
  have hm6 := hm4.loc (hst4.block _ hm4.lt (by simp; omega))
  have hfin : Hid (DiskP { q with g := w.heap.size, md := w.heap.size + 1, mw := w.heap.size + 2 } (w4.setCell ⟨w.heap.size, 3, none⟩ (.map (some (w.heap.size + 1 + 1))))) := Lib.hid (by
    refine ⟨?_, hm5, hm6, fun k p hp => ?_, h.key, by show w.heap.size + 1 ≠ w.heap.size + 2; omega, h.n1, h.n2, h.s1, h.s2, h.left⟩
    · simpa [DR.cells] using hh5
    · obtain ⟨a1, a2, a3⟩ := h.pay k p hp
      exact ⟨a1.loc (fun x hx => hb5.block x (a1.lt (by have := h.s1; omega) hx)), a2, a3⟩)
  have hB := Lib.hid hb5
  clear hh4 hst4 hh5 hb5 hm5 hm6 hm4 hb4 hs4
  go_wp2_with fail
  go_ret
  exact ⟨rfl, hfin.out, hB.out⟩

theorem powered_id {q : DR} (h : q.cut = false) : q.powered = q := by unfold DR.powered; rw [if_neg (by rw [h]; simp)]
theorem last_wrote {q : DR} {i j : Int} {p : Pay} (h : j ≠ i) : (q.powered.wrote i p).last j = q.last j := by
  obtain ⟨_, e2, _, _, _, e6, e7⟩ := powered_n q
  unfold DR.last DR.wrote DR.safe
  simp only [if_neg h, e2, e6, e7]
/-- Write where there is power and no cut. -/
theorem write_ok (w : World) (q : DR) (h : DiskP q w) (hd : q.dead = false) (hp : q.powered.dead = false) (i : Int) (hi : 0 ≤ i ∧ i < q.n) (A : Option Addr) (n c : Nat) (l : List UInt8) (hn : l.length = n) (hs : n = q.size) (hb : RowAt w A (l.map byteV)) :
    Calls Try.prog 18 #[.pointer (some ⟨q.g, 0, none⟩), .int .i64 i, .slice A n c] w fun e w' => e = .returned (.int .i64 0) ∧ ∃ p, p.l = l ∧ DStep q w (q.powered.wrote i p) w' := by
  have n2 := h.n2
  have s2 := h.s2
  refine (write_any w q h i (by omega) A n c l hn (by omega) hb).mono fun e w' hW => ?_
  unfold WriteE at hW
  rw [if_neg (by rw [hd]; simp), if_neg (by omega), if_neg (by rw [hn, hs]; simp), if_neg (by rw [hp]; simp)] at hW
  exact hW
/-- Read where there is power. -/
theorem read_ok (w : World) (q : DR) (h : DiskP q w) (hd : q.dead = false) (i : Int) (hi : 0 ≤ i ∧ i < q.n) :
    Calls Try.prog 17 #[.pointer (some ⟨q.g, 0, none⟩), .int .i64 i] w fun e w' => (∃ g cap, e = .returned (.tuple #[.slice (some ⟨g, 0, none⟩) q.size cap, .int .i64 0]) ∧ Buf w' w.heap.size g cap (q.last i)) ∧ Below w.heap.size w w' := by
  have n2 := h.n2
  have s1 := h.s1
  refine (read_any w q h i (by omega)).mono fun e w' hR => ?_
  unfold ReadE at hR
  rw [if_neg (by rw [hd]; simp), if_neg (by omega)] at hR
  obtain ⟨⟨v, rfl, hv⟩, hb⟩ := hR
  obtain ⟨g, cap, rfl, hbf⟩ := hv.buf (by rw [h.last_len]; omega)
  exact ⟨⟨g, cap, by rw [h.last_len], hbf⟩, hb⟩
theorem Buf.dstep {q q' : DR} {w w' : World} {B g cap : Nat} {l : List UInt8} (h : Buf w B g cap l) (hl : l ≠ []) (hq : DiskP q w) (hst : DStep q w q' w') : Buf w' B g cap l :=
  h.loc (hst.wrt.block g h.lt (by
    have := byte_apart hq h.rowAt hl (x := g) rfl
    simp
    exact this))
/-- A number from 0 to n - 1 out of any number. -/
def placeN (k : Int) (n : Nat) : Int := if Int.tmod k n < 0 then Int.tmod k n + n else Int.tmod k n
theorem placeN_in (k : Int) {n : Nat} (h0 : 0 < n) : 0 ≤ placeN k n ∧ placeN k n < n := by
  have hr1 := Int.tmod_lt_of_pos k (show (0 : Int) < n by omega)
  have hr2 : -(n : Int) < Int.tmod k n := by
    have := Int.tmod_lt_of_pos (-k) (show (0 : Int) < n by omega)
    rw [Int.neg_tmod] at this
    omega
  unfold placeN
  split <;> omega
set_option maxRecDepth 100000 in
theorem placeN_any (w : World) (k : Int) (n : Nat) (h0 : 0 < n) (hn : n ≤ 100000000000) :
    Calls Try.prog 16 #[.int .i64 k, .int .i64 n] w fun e w' => e = .returned (.int .i64 (placeN k n)) ∧ w' = w := by
  have hr1 := Int.tmod_lt_of_pos k (show (0 : Int) < n by omega)
  have hr2 : -(n : Int) < Int.tmod k n := by
    have := Int.tmod_lt_of_pos (-k) (show (0 : Int) < n by omega)
    rw [Int.neg_tmod] at this
    omega
  have hne : ¬ (n : Int) = 0 := by omega
  by_cases hneg : Int.tmod k n < 0
  · have hp : Hid (placeN k n = Int.tmod k n + n) := Lib.hid (by unfold placeN; rw [if_pos hneg])
    go_enter Try.func16, Try.ntmps16
    go_wp2
    go_ret
    exact ⟨ret_int hp.out.symm, rfl⟩
  · have hp : Hid (placeN k n = Int.tmod k n) := Lib.hid (by unfold placeN; rw [if_neg hneg])
    go_enter Try.func16, Try.ntmps16
    go_wp2
    go_ret
    exact ⟨ret_int hp.out.symm, rfl⟩
end Go.Proofs.Ytncddkbagmelkaa
