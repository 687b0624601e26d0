/-
  The walk of DiskCopies.
-/
import Derived.Test.YtncddkbagmelkaaDkK
namespace Go.Proofs.Ytncddkbagmelkaa
open Go.RowKit Go.Deep

/-- A disk stays while a block is written that is none of its own. -/
theorem DiskP.stored {q : DR} {w : World} (h : DiskP q w) {g : Nat} (hg : ¬ q.F g) (i : Nat) (u : Value) : DiskP q (w.setCell ⟨g, i, none⟩ u) :=
  h.loc (fun x hx => Below.heap_setCell w ⟨g, i, none⟩ u x (by rintro rfl; exact hg hx))

set_option maxRecDepth 100000 in
set_option maxHeartbeats 8000000 in
theorem copies_any (w0 : World) (x : Nat) (hx : x < 256) (cut : Int) :
    Calls Try.prog 8 #[.int .u8 x, .int .i64 cut] w0 fun e w' => e = .returned (.bool true) ∧ Below w0.heap.size w0 w' := by
  have hmk := run_make_row' (P := Try.prog) 23 5 (.int .u8 0) 1 Try.underlying23 Try.infoU8 rfl .i64 .i64 64 (by omega) (by omega)
  rw [made_bytes, show ((64 : Nat) : Int) = 64 from rfl] at hmk
  obtain ⟨zs, hzs⟩ : ∃ zs, zs = ((List.replicate 64 (0 : UInt8)).map byteV).toArray := ⟨_, rfl⟩
  rw [← hzs] at hmk
  have hzs' := Lib.hid hzs
  clear hzs
  go_enter Try.func8, Try.ntmps8
  go_wp2_with fail
  refine (known3_any w0).mono ?_
  rintro e wk ⟨rfl, hbk⟩
  have hbk' := Lib.hid hbk
  clear hbk
  go_wp2_with fail
  refine (new_any wk 3 64 3 64 (by decide) (by decide)).mono ?_
  rintro e w1 ⟨rfl, hq0, hb0⟩
  obtain ⟨q, hq⟩ : ∃ q : DR, q = ⟨wk.heap.size, wk.heap.size + 1, wk.heap.size + 1 + 1, 3, 64, fun _ => none, fun _ => none, false, false, 0⟩ := ⟨_, rfl⟩
  rw [← hq] at hq0
  have hqe := Lib.hid hq
  have hD := Lib.hid hq0
  have hb0' := Lib.hid (hbk'.out.trans (hb0.mono hbk'.out.size))
  obtain ⟨g, hg⟩ : ∃ g, g = wk.heap.size := ⟨_, rfl⟩
  rw [← hg]
  have hqg : Hid (q.g = g) := Lib.hid (by rw [hq, hg])
  have hlow : DLow w0.heap.size q := by rw [hq]; have := hbk'.out.size; exact ⟨this, Nat.le_trans this (Nat.le_succ _), by show w0.heap.size ≤ wk.heap.size + 1 + 1; omega⟩
  have hF : Hid (∀ y, q.F y → y < w1.heap.size) := Lib.hid hq0.lt
  clear hq hq0 hb0 hg hbk'
  have hz0 := Holds.new w1 5 zs
  have zc0 : (w1.alloc (.cells zs 5)).cell? ⟨w1.heap.size, 0, none⟩ = some (.int .u8 0) := (hz0.cell 0).trans (by rw [hzs'.out]; rfl)
  have zf0 := hz0.frozen 0
  obtain ⟨b0, hb0⟩ : ∃ b : UInt8, b = UInt8.ofNat x := ⟨_, rfl⟩
  have hbx : Hid (b0.toNat = x) := Lib.hid (by rw [hb0]; exact UInt8.toNat_ofNat_of_lt' hx)
  have hfin : Hid (zs.setIfInBounds 0 (.int .u8 x) = (((List.replicate 64 (0 : UInt8)).set 0 b0).map byteV).toArray) := Lib.hid (by
    rw [hzs'.out, List.map_set, show byteV b0 = .int .u8 x by unfold byteV; rw [hbx.out]]
    simp)
  clear hz0 hb0
  go_wp2_with fail
  rw [hfin.out]
  have hl0l : ((List.replicate 64 (0 : UInt8)).set 0 b0).length = 64 := by simp
  have hbuf1 := Buf.made w1 ((List.replicate 64 (0 : UInt8)).set 0 b0) (by simp)
  have hbn := below_new w1 (.cells (((List.replicate 64 (0 : UInt8)).set 0 b0).map byteV).toArray 5)
  have hl00 : Hid (((List.replicate 64 (0 : UInt8)).set 0 b0)[0]? = some b0) := Lib.hid (by simp)
  obtain ⟨l0, hl0⟩ : ∃ l, l = (List.replicate 64 (0 : UInt8)).set 0 b0 := ⟨_, rfl⟩
  rw [← hl0] at hbuf1 hbn hl00 hl0l ⊢
  rw [hl0l] at hbuf1
  have hne0 : l0 ≠ [] := by intro e; rw [e] at hl0l; simp at hl0l
  obtain ⟨w2, hw2⟩ : ∃ x, x = w1.alloc (.cells (l0.map byteV).toArray 5) := ⟨_, rfl⟩
  rw [← hw2] at hbuf1 hbn ⊢
  obtain ⟨gb, hgb⟩ : ∃ x, x = w1.heap.size := ⟨_, rfl⟩
  have hgb2 : gb < w2.heap.size := by rw [hgb, hw2]; simp
  have hgbl : w0.heap.size ≤ gb := by rw [hgb]; exact hb0'.out.size
  rw [← hgb] at hbuf1 ⊢
  have hqD2 := Lib.hid (hD.out.below hbn)
  have hB2 := Lib.hid (hb0'.out.trans (hbn.mono hb0'.out.size))
  have hq0 : q.dead = false ∧ q.cut = false ∧ q.n = 3 ∧ q.size = 64 := by rw [hqe.out]; exact ⟨rfl, rfl, rfl, rfl⟩
  have hpid := powered_id hq0.2.1
  have hwc := write_ok w2 q hqD2.out hq0.1 (by rw [hpid]; exact hq0.1) 1 (by rw [hq0.2.2.1]; decide) (some ⟨gb, 0, none⟩) 64 64 l0 hl0l hq0.2.2.2.symm hbuf1.rowAt
  rw [hpid, hqg.out] at hwc
  have hnF : Hid (¬ q.F gb) := Lib.hid (fun h => by have := hF.out gb h; omega)
  have hbuf2 := Lib.hid hbuf1
  have hq00 := Lib.hid hq0
  have hl0' := Lib.hid hl0l
  have hwdur : Hid (q.wr = (fun _ => none) ∧ q.dur = fun _ => none) := Lib.hid (by rw [hqe.out]; exact ⟨rfl, rfl⟩)
  have hl0e := Lib.hid hl0
  have hne := Lib.hid hne0
  clear hbuf1 hbn hw2 hgb hpid hq0 hl0l hl0 hne0 hD hb0' hF zc0 zf0 hqe hfin
  refine hwc.mono ?_
  clear hwc
  rintro e w3 ⟨rfl, p, hp, hst⟩
  have hlw := hst.low hlow hB2.out.size
  have hB3 := Lib.hid (hB2.out.trans hlw.1)
  have hlow3 := Lib.hid hlw.2
  have hbuf3 := Lib.hid (hbuf2.out.dstep hne.out hqD2.out hst)
  have hnF3 : Hid (¬ (q.wrote 1 p).F gb) := Lib.hid (fun h => by
    rcases hst.F gb h with h1 | h1
    · exact hnF.out h1
    · omega)
  have hD3 := Lib.hid hst.post
  have hp' := Lib.hid hp
  have c3 := hbuf3.out.cell (i := 0) (by rw [hl0'.out]; omega)
  rw [show byteV (l0[0]'(by rw [hl0'.out]; omega)) = .int .u8 x by
    have := hl00.out
    rw [List.getElem?_eq_getElem (by rw [hl0'.out]; omega)] at this
    injection this with this
    rw [this]
    unfold byteV
    rw [hbx.out]] at c3
  have z3 := hbuf3.out.frozen 0
  clear hst hlw hp hlow hqD2 hB2 hbuf2 hgb2 hnF
  obtain ⟨y, hy⟩ : ∃ y : Nat, y = (x + 1) % 256 := ⟨_, rfl⟩
  obtain ⟨b1, hb1⟩ : ∃ b : UInt8, b = UInt8.ofNat y := ⟨_, rfl⟩
  have hby : byteV b1 = .int .u8 y := by unfold byteV; rw [hb1, UInt8.toNat_ofNat_of_lt' (show y < 256 by omega)]
  have hye : Hid (((x : Int) + 1) % 256 = (y : Int)) := Lib.hid (by omega)
  have hbuf4 := hbuf3.out.store 0 b1
  rw [hby] at hbuf4
  have hD4 := hD3.out.stored hnF3.out 0 (.int .u8 y)
  have hB4 := hB3.out.trans ((Writes.store w3 (M := [some gb]) (p := ⟨gb, 0, none⟩) (by simp) (.int .u8 y)).below hB3.out.size (fun j hj => by simp at hj; omega))
  have hl1 : (l0.set 0 b1).length = 64 := by simp [hl0'.out]
  obtain ⟨l1, hl1e⟩ : ∃ l, l = l0.set 0 b1 := ⟨_, rfl⟩
  rw [← hl1e] at hbuf4 hl1
  have hbuf5 := Lib.hid hbuf4
  have hD5 := Lib.hid hD4
  have hB5 := Lib.hid hB4
  have hl1' := Lib.hid hl1
  clear hbuf4 hD4 hB4 hl1 hl1e hy hb1 hby
  go_wp2_with fail
  rw [hye.out]
  clear c3 z3
  generalize w3.setCell ⟨gb, 0, none⟩ (.int .u8 y) = w4 at hbuf5 hD5 hB5 ⊢
  have hq1 : Hid ((q.wrote 1 p).dead = false ∧ (q.wrote 1 p).cut = false ∧ (q.wrote 1 p).n = 3 ∧ (q.wrote 1 p).size = 64 ∧ (q.wrote 1 p).last 1 = l0 ∧ (q.wrote 1 p).g = g ∧ (q.wrote 1 p).last 0 = List.replicate 64 0) := Lib.hid ⟨hq00.out.1, hq00.out.2.1, hq00.out.2.2.1, hq00.out.2.2.2, by unfold DR.last DR.wrote; simp [hp'.out], hqg.out, by unfold DR.last DR.wrote DR.safe; simp [hwdur.out.1, hwdur.out.2, hq00.out.2.2.2]⟩
  generalize q.wrote 1 p = q1 at *
  have hlow4 := hlow3.out
  clear hlow3
  have hrd := read_ok w4 q1 hD5.out hq1.out.1 1 (by rw [hq1.out.2.2.1]; decide)
  rw [hq1.out.2.2.2.2.2.1, hq1.out.2.2.2.1, hq1.out.2.2.2.2.1] at hrd
  refine hrd.mono ?_
  clear hrd
  rintro e w5 ⟨⟨gy, cy, rfl, hby⟩, hb5⟩
  have cy0 := hby.cell (i := 0) (by rw [hl0'.out]; omega)
  rw [show byteV (l0[0]'(by rw [hl0'.out]; omega)) = .int .u8 x by
    have := hl00.out
    rw [List.getElem?_eq_getElem (by rw [hl0'.out]; omega)] at this
    injection this with this
    rw [this]
    unfold byteV
    rw [hbx.out]] at cy0
  have zy0 := hby.frozen 0
  have hgy : w4.heap.size ≤ gy := by
    obtain ⟨_, h1, _⟩ := hby.parts
    exact h1
  have hnFy : ¬ q1.F gy := fun h => by have := hD5.out.lt gy h; omega
  have hgbt : gb < w4.heap.size := hbuf5.out.lt
  have hD6 := Lib.hid ((hD5.out.below hb5).stored hnFy 0 (.int .u8 y))
  have hbuf6 := Lib.hid ((hbuf5.out.below hb5).loc (Below.heap_setCell w5 ⟨gy, 0, none⟩ (.int .u8 y) gb (by show gb ≠ gy; omega)))
  have hB6 := Lib.hid ((hB5.out.trans (hb5.mono hB5.out.size)).trans ((Writes.store w5 (M := [some gy]) (p := ⟨gy, 0, none⟩) (by simp) (.int .u8 y)).below (Nat.le_trans hB5.out.size hb5.size) (fun j hj => by simp at hj; have := hB5.out.size; omega)))
  clear hby hb5 hD5 hbuf5 hB5 hnFy
  go_wp2_with fail
  rw [hye.out]
  clear cy0 zy0
  generalize w5.setCell ⟨gy, 0, none⟩ (.int .u8 y) = w6 at hD6 hbuf6 hB6 ⊢
  have hpl := placeN_any w6 cut 2 (by omega) (by omega)
  have hpin := placeN_in cut (n := 2) (by omega)
  refine hpl.mono ?_
  clear hpl
  rintro e w7 ⟨rfl, rfl⟩
  obtain ⟨c, hc⟩ : ∃ c, c = placeN cut 2 := ⟨_, rfl⟩
  rw [← hc] at hpin ⊢
  have hc' := Lib.hid hc
  clear hc
  go_wp2_with fail
  have hct := cut_any w7 q1 hD6.out c (by omega)
  rw [hq1.out.2.2.2.2.2.1] at hct
  refine hct.mono ?_
  clear hct
  rintro e w8 ⟨rfl, hst⟩
  obtain ⟨q2, hq2⟩ : ∃ q' : DR, q' = { q1 with g := g, dead := q1.dead, cut := true, left := c.toNat } := ⟨_, rfl⟩
  have hst2 : DStep q1 w7 q2 w8 := by rw [hq2]; exact hst
  have hD8 := Lib.hid hst2.post
  have hbuf8 := Lib.hid (hbuf6.out.dstep (by intro e; have := hl1'.out; rw [e] at this; simp at this) hD6.out hst2)
  have hq2e : Hid (q2.dead = false ∧ q2.cut = true ∧ q2.n = 3 ∧ q2.size = 64 ∧ q2.last 1 = l0 ∧ q2.g = g ∧ q2.last 0 = List.replicate 64 0 ∧ q2.left = c.toNat) := Lib.hid (by
    rw [hq2]
    exact ⟨hq1.out.1, rfl, hq1.out.2.2.1, hq1.out.2.2.2.1, hq1.out.2.2.2.2.1, rfl, hq1.out.2.2.2.2.2.2, rfl⟩)
  have hlow1 : Hid (∀ q' w', DStep q1 w7 q' w' → Below w0.heap.size w7 w' ∧ DLow w0.heap.size q') := Lib.hid (fun q' w' h => h.low hlow4 hB6.out.size)
  have hB8 := Lib.hid (hB6.out.trans (hlow1.out q2 w8 hst2).1)
  have hlow8 := (hlow1.out q2 w8 hst2).2
  clear hst hst2 hq2 hD6 hbuf6 hB6 hlow1
  go_wp2_with fail
  have hcp := copy_any w8 q2 hD8.out
  rw [hq2e.out.2.2.2.2.2.1] at hcp
  refine hcp.mono ?_
  clear hcp
  rintro e w9 ⟨rfl, hDc, hb9⟩
  obtain ⟨qc, hqc⟩ : ∃ q' : DR, q' = { q2 with g := w8.heap.size, md := w8.heap.size + 1, mw := w8.heap.size + 2 } := ⟨_, rfl⟩
  rw [← hqc] at hDc
  obtain ⟨gc, hgc⟩ : ∃ y, y = w8.heap.size := ⟨_, rfl⟩
  rw [← hgc]
  have hqce : Hid (qc.dead = false ∧ qc.cut = true ∧ qc.n = 3 ∧ qc.size = 64 ∧ qc.last 1 = l0 ∧ qc.g = gc ∧ qc.left = c.toNat) := Lib.hid (by
    rw [hqc, hgc]
    exact ⟨hq2e.out.1, hq2e.out.2.1, hq2e.out.2.2.1, hq2e.out.2.2.2.1, hq2e.out.2.2.2.2.1, rfl, hq2e.out.2.2.2.2.2.2.2⟩)
  have hdis : Hid (∀ y, (y = qc.g ∨ y = qc.md ∨ y = qc.mw) → ¬ (y = q2.g ∨ y = q2.md ∨ y = q2.mw)) := Lib.hid (by
    have h1 := hD8.out.hold.lt
    have h2 := hD8.out.md.lt
    have h3 := hD8.out.mw.lt
    rw [hqc]
    intro y hy
    simp only at hy
    omega)
  have hlowc : DLow w0.heap.size qc := by rw [hqc]; have := hB8.out.size; exact ⟨this, Nat.le_trans this (Nat.le_succ _), by show w0.heap.size ≤ w8.heap.size + 2; omega⟩
  have hDC := Lib.hid hDc
  have hD9 := Lib.hid (hD8.out.below hb9)
  have hbuf9 := Lib.hid (hbuf8.out.below hb9)
  have hB9 := Lib.hid (hB8.out.trans (hb9.mono hB8.out.size))
  clear hDc hb9 hqc hgc hD8 hbuf8 hB8
  go_wp2_with fail
  by_cases hc0 : c = 0
  · subst hc0
    have hpd : q2.powered.dead = true := by unfold DR.powered; rw [if_pos hq2e.out.2.1, if_pos (by rw [hq2e.out.2.2.2.2.2.2.2]; rfl)]
    have hpdc : qc.powered.dead = true := by unfold DR.powered; rw [if_pos hqce.out.2.1, if_pos (by rw [hqce.out.2.2.2.2.2.2]; rfl)]
    have hpd' := Lib.hid hpd
    have hpdc' := Lib.hid hpdc
    clear hpd hpdc
    have hw1 := write_any w9 q2 hD9.out 2 (by decide) (some ⟨gb, 0, none⟩) 64 64 l1 hl1'.out (by omega) hbuf9.out.rowAt
    rw [hq2e.out.2.2.2.2.2.1] at hw1
    refine hw1.mono ?_
    clear hw1
    intro e w10 hW
    unfold WriteE at hW
    rw [if_neg (by rw [hq2e.out.1]; simp), if_neg (by rw [hq2e.out.2.2.1]; decide), if_neg (by rw [hl1'.out, hq2e.out.2.2.2.1]; simp), if_pos hpd'.out] at hW
    obtain ⟨rfl, hst⟩ := hW
    have hDC10 := Lib.hid (hDC.out.other hD9.out hst hdis.out)
    have hB10 := Lib.hid (hB9.out.trans (hst.low hlow8 hB9.out.size).1)
    have hbuf10 := Lib.hid (hbuf9.out.dstep (by intro e; have := hl1'.out; rw [e] at this; simp at this) hD9.out hst)
    clear hst hD9 hB9 hbuf9 hDC
    go_wp2_with fail
    have hw1 := write_any w10 qc hDC10.out 0 (by decide) (some ⟨gb, 0, none⟩) 64 64 l1 hl1'.out (by omega) hbuf10.out.rowAt
    rw [hqce.out.2.2.2.2.2.1] at hw1
    refine hw1.mono ?_
    clear hw1
    intro e w11 hW
    unfold WriteE at hW
    rw [if_neg (by rw [hqce.out.1]; simp), if_neg (by rw [hqce.out.2.2.1]; decide), if_neg (by rw [hl1'.out, hqce.out.2.2.2.1]; simp), if_pos hpdc'.out] at hW
    obtain ⟨rfl, hst⟩ := hW
    have hB11 := Lib.hid (hB10.out.trans (hst.low hlowc hB10.out.size).1)
    have hrd := read_any w11 qc.powered hst.post 1 (by decide)
    rw [(powered_n qc).2.2.1, hqce.out.2.2.2.2.2.1] at hrd
    clear hst hB10 hbuf10 hDC10
    go_wp2_with fail
    refine hrd.mono ?_
    clear hrd
    intro e w12 hR
    unfold ReadE at hR
    rw [if_pos hpdc'.out] at hR
    obtain ⟨rfl, hb⟩ := hR
    have hB12 := Lib.hid (hB11.out.trans (hb.mono hB11.out.size))
    clear hb hB11
    go_wp2_with fail
    have hpl := placeN_any w12 cut 2 (by omega) (by omega)
    rw [← hc'.out] at hpl
    refine hpl.mono ?_
    clear hpl
    rintro e w13 ⟨rfl, rfl⟩
    go_wp2_with fail
    go_ret
    exact ⟨rfl, hB12.out⟩
  · obtain rfl : c = 1 := by omega
    have hpd : q2.powered.dead = false := by unfold DR.powered; rw [if_pos hq2e.out.2.1, if_neg (by rw [hq2e.out.2.2.2.2.2.2.2]; decide)]; exact hq2e.out.1
    have hpdc : qc.powered.dead = false := by unfold DR.powered; rw [if_pos hqce.out.2.1, if_neg (by rw [hqce.out.2.2.2.2.2.2]; decide)]; exact hqce.out.1
    have hpd' := Lib.hid hpd
    have hpdc' := Lib.hid hpdc
    clear hpd hpdc
    have hw1 := write_ok w9 q2 hD9.out hq2e.out.1 hpd'.out 2 (by rw [hq2e.out.2.2.1]; decide) (some ⟨gb, 0, none⟩) 64 64 l1 hl1'.out hq2e.out.2.2.2.1.symm hbuf9.out.rowAt
    rw [hq2e.out.2.2.2.2.2.1] at hw1
    refine hw1.mono ?_
    clear hw1
    rintro e w10 ⟨rfl, p2, hp2, hst⟩
    have hDC10 := Lib.hid (hDC.out.other hD9.out hst hdis.out)
    have hlw := hst.low hlow8 hB9.out.size
    have hB10 := Lib.hid (hB9.out.trans hlw.1)
    have hlow10 := hlw.2
    have hbuf10 := Lib.hid (hbuf9.out.dstep (by intro e; have := hl1'.out; rw [e] at this; simp at this) hD9.out hst)
    have hD10 := Lib.hid hst.post
    obtain ⟨e1, e2, e3, e4, e5, e6, e7⟩ := powered_n q2
    have hq3 : Hid ((q2.powered.wrote 2 p2).dead = false ∧ (q2.powered.wrote 2 p2).n = 3 ∧ (q2.powered.wrote 2 p2).size = 64 ∧ (q2.powered.wrote 2 p2).g = g ∧ (q2.powered.wrote 2 p2).last 0 = List.replicate 64 0 ∧ (q2.powered.wrote 2 p2).md = q2.md ∧ (q2.powered.wrote 2 p2).mw = q2.mw) := Lib.hid ⟨hpd'.out, by show q2.powered.n = 3; rw [e1]; exact hq2e.out.2.2.1, by show q2.powered.size = 64; rw [e2]; exact hq2e.out.2.2.2.1, by show q2.powered.g = g; rw [e3]; exact hq2e.out.2.2.2.2.2.1, by rw [last_wrote (by decide)]; exact hq2e.out.2.2.2.2.2.2.1, e5, e4⟩
    have hdis2 : Hid (∀ y, (y = (q2.powered.wrote 2 p2).g ∨ y = (q2.powered.wrote 2 p2).md ∨ y = (q2.powered.wrote 2 p2).mw) → ¬ (y = qc.g ∨ y = qc.md ∨ y = qc.mw)) := Lib.hid (fun y hy h => hdis.out y h (by
      rw [hq3.out.2.2.2.1, hq3.out.2.2.2.2.2.1, hq3.out.2.2.2.2.2.2] at hy
      rw [hq2e.out.2.2.2.2.2.1]
      exact hy))
    clear hst hD9 hB9 hbuf9 hDC e1 e2 e3 e4 e5 e6 e7 hlw
    generalize q2.powered.wrote 2 p2 = q3 at *
    go_wp2_with fail
    have hw1 := write_ok w10 qc hDC10.out hqce.out.1 hpdc'.out 0 (by rw [hqce.out.2.2.1]; decide) (some ⟨gb, 0, none⟩) 64 64 l1 hl1'.out hqce.out.2.2.2.1.symm hbuf10.out.rowAt
    rw [hqce.out.2.2.2.2.2.1] at hw1
    refine hw1.mono ?_
    clear hw1
    rintro e w11 ⟨rfl, pc, hpc, hst⟩
    have hD11 := Lib.hid (hD10.out.other hDC10.out hst hdis2.out)
    have hB11 := Lib.hid (hB10.out.trans (hst.low hlowc hB10.out.size).1)
    obtain ⟨e1, e2, e3, e4, e5, e6, e7⟩ := powered_n qc
    have hrd := read_ok w11 (qc.powered.wrote 0 pc) hst.post hpdc'.out 1 (by show _ ∧ _ < (qc.powered.n : Int); rw [e1, hqce.out.2.2.1]; decide)
    rw [last_wrote (by decide), hqce.out.2.2.2.2.1, show (qc.powered.wrote 0 pc).size = 64 from e2.trans hqce.out.2.2.2.1, show (qc.powered.wrote 0 pc).g = gc from e3.trans hqce.out.2.2.2.2.2.1] at hrd
    clear hst hB10 hbuf10 hDC10 hD10 e1 e2 e3 e4 e5 e6 e7
    go_wp2_with fail
    refine hrd.mono ?_
    clear hrd
    rintro e w12 ⟨⟨gz, cz, rfl, hbz⟩, hb⟩
    have hD12 := Lib.hid (hD11.out.below hb)
    have hB12 := Lib.hid (hB11.out.trans (hb.mono hB11.out.size))
    have hbz' := Lib.hid hbz
    clear hb hB11 hD11 hbz
    go_wp2_with fail
    have hpl := placeN_any w12 cut 2 (by omega) (by omega)
    rw [← hc'.out] at hpl
    refine hpl.mono ?_
    clear hpl
    rintro e w13 ⟨rfl, rfl⟩
    go_wp2_with fail
    have hrd := read_ok w13 q3 hD12.out hq3.out.1 0 (by rw [hq3.out.2.1]; decide)
    rw [hq3.out.2.2.2.1, hq3.out.2.2.1, hq3.out.2.2.2.2.1] at hrd
    refine hrd.mono ?_
    clear hrd
    rintro e wr ⟨⟨gu, cu, rfl, hbu⟩, hb⟩
    have hBr := Lib.hid (hB12.out.trans (hb.mono hB12.out.size))
    have hbz2 := Lib.hid (hbz'.out.below hb)
    have hbu' := Lib.hid hbu
    have cz0 := hbz2.out.cell (i := 0) (by rw [hl0'.out]; omega)
    rw [show byteV (l0[0]'(by rw [hl0'.out]; omega)) = .int .u8 x by
      have := hl00.out
      rw [List.getElem?_eq_getElem (by rw [hl0'.out]; omega)] at this
      injection this with this
      rw [this]
      unfold byteV
      rw [hbx.out]] at cz0
    have hcz := Lib.hid cz0
    have hzlt := Lib.hid hbz2.out.lt
    clear cz0 hbu hb hB12 hbz'
    go_wp2_with fail
    -- THE REGION THAT DRAWS ITS ORDER, BY ONE LEXICAL WALK OVER GENERIC VALUES (written by relgen.py)
    refine wp_region_tab ((fun _ v => v = .int .i64 0) ::
      (fun _ v => v = .int .i64 0) ::
      (fun _ v => v = .int .i64 0) ::
      (fun _ v => v = .int .i64 0) ::
      (fun _ v => v = .int .i64 0) ::
      (fun _ v => v = .int .i64 0) ::
      (fun _ v => v = .int .i64 0) ::
      (fun _ v => v = .bool true) ::
      (fun _ v => v = .bool true) ::
      (fun _ v => v = .slice (some (⟨gz, 0, none⟩ : Addr)) 64 cz) ::
      (fun _ v => v = .int .i64 64) ::
      (fun _ v => v = .bool true) ::
      (fun _ v => v = .bool true) ::
      (fun _ v => v = .bool true) ::
      (fun _ v => v = .slice (some (⟨gz, 0, none⟩ : Addr)) 64 cz) ::
      (fun _ v => v = .pointer (some ⟨gz, 0, none⟩)) ::
      (fun _ v => v = .int .u8 x) ::
      (fun _ v => v = .int .u8 x) ::
      (fun _ v => v = .bool true) ::
      (fun _ v => v = .bool true) ::
      (fun _ v => v = .bool true) ::
      (fun _ v => v = .slice (some (⟨gu, 0, none⟩ : Addr)) 64 cu) ::
      (fun _ v => v = .string (strV (List.replicate 64 0))) ::
      (fun w v => ∃ A, v = .slice A 64 64 ∧ Bytes w w.heap.size A (List.replicate 64 0)) ::
      (fun _ v => v = .string (strV (List.replicate 64 0))) ::
      (fun _ v => v = .bool true) ::
      (fun _ v => v = .bool true) ::
      (fun _ v => v = .bool true) :: [])
      (⟨[(10, none)], 0, []⟩ :: ⟨[(11, none)], 0, []⟩ :: ⟨[(88, some 0), (89, some 1)], 0, []⟩ :: ⟨[(13, none)], 0, []⟩ :: ⟨[(90, some 2), (91, some 3)], 0, []⟩ :: ⟨[(15, none)], 0, []⟩ :: ⟨[(92, some 4), (93, some 5)], 0, []⟩ :: ⟨[(94, some 6)], 0, []⟩ :: ⟨[(95, some 7)], 0, []⟩ :: ⟨[(12, none), (96, some 8)], 96, []⟩ :: ⟨[(97, some 9), (96, some 8)], 96, []⟩ :: ⟨[(98, some 10), (96, some 8)], 96, []⟩ :: ⟨[(96, some 8), (99, some 11)], 0, []⟩ :: ⟨[(100, some 12)], 0, []⟩ :: ⟨[(12, none), (101, some 13)], 101, []⟩ :: ⟨[(102, some 14), (101, some 13)], 101, []⟩ :: ⟨[(103, some 15), (101, some 13)], 101, []⟩ :: ⟨[(0, none), (101, some 13)], 101, []⟩ :: ⟨[(104, some 16), (105, some 17), (101, some 13)], 101, []⟩ :: ⟨[(101, some 13), (106, some 18)], 0, []⟩ :: ⟨[(107, some 19)], 0, []⟩ :: ⟨[(14, none), (108, some 20)], 108, []⟩ :: ⟨[(109, some 21), (108, some 20)], 108, []⟩ :: ⟨[(108, some 20)], 108, []⟩ :: ⟨[(111, some 23), (108, some 20)], 108, []⟩ :: ⟨[(110, some 22), (112, some 24), (108, some 20)], 108, []⟩ :: ⟨[(108, some 20), (113, some 25)], 0, []⟩ :: ⟨[(114, some 26)], 0, []⟩ :: [])
      (none :: none :: none :: none :: some 27 :: none :: none :: none :: none :: none :: none :: none :: none :: none :: none :: none :: none :: none :: none :: none :: none :: none :: none :: none :: none :: none :: none :: none :: none :: none :: none :: none :: none :: none :: none :: none :: none :: none :: none :: none :: none :: none :: none :: none :: none :: none :: none :: none :: none :: none :: none :: none :: none :: none :: none :: none :: none :: none :: none :: none :: none :: none :: none :: none :: none :: none :: none :: none :: none :: none :: none :: none :: none :: none :: none :: none :: none :: none :: none :: none :: none :: none :: none :: none :: none :: none :: none :: none :: some 0 :: some 1 :: some 2 :: some 3 :: some 4 :: some 5 :: some 6 :: some 7 :: some 8 :: some 9 :: some 10 :: some 11 :: some 12 :: some 13 :: some 14 :: some 15 :: some 16 :: some 17 :: some 18 :: some 19 :: some 20 :: some 21 :: some 22 :: some 23 :: some 24 :: some 25 :: some 26 :: [])
      (fun _ w' => Below wr.heap.size wr w') (fun _ w w' => Below w.heap.size w w') ?mixK21cop21 ?okK21cop21 ?tabK21cop21 ?frK21cop21 ?inK21cop21 ?keptK21cop21 ?startK21cop21 ?eachK21cop21 ?finK21cop21
    case mixK21cop21 => kernel_rfl
    case okK21cop21 => kernel_rfl
    case tabK21cop21 => kernel_rfl
    case frK21cop21 => kernel_rfl
    case inK21cop21 => rfl
    case keptK21cop21 => exact ⟨fun _ _ _ _ _ _ _ h => h, fun _ _ _ _ _ _ _ h => h, fun _ _ _ _ _ _ _ h => h, fun _ _ _ _ _ _ _ h => h, fun _ _ _ _ _ _ _ h => h, fun _ _ _ _ _ _ _ h => h, fun _ _ _ _ _ _ _ h => h, fun _ _ _ _ _ _ _ h => h, fun _ _ _ _ _ _ _ h => h, fun _ _ _ _ _ _ _ h => h, fun _ _ _ _ _ _ _ h => h, fun _ _ _ _ _ _ _ h => h, fun _ _ _ _ _ _ _ h => h, fun _ _ _ _ _ _ _ h => h, fun _ _ _ _ _ _ _ h => h, fun _ _ _ _ _ _ _ h => h, fun _ _ _ _ _ _ _ h => h, fun _ _ _ _ _ _ _ h => h, fun _ _ _ _ _ _ _ h => h, fun _ _ _ _ _ _ _ h => h, fun _ _ _ _ _ _ _ h => h, fun _ _ _ _ _ _ _ h => h, fun _ _ _ _ _ _ _ h => h, fun _ _ _ => fun w w' v hG ⟨A, e, h⟩ => ⟨A, e, h.up hG⟩, fun _ _ _ _ _ _ _ h => h, fun _ _ _ _ _ _ _ h => h, fun _ _ _ _ _ _ _ h => h, fun _ _ _ _ _ _ _ h => h, trivial⟩
    case startK21cop21 => exact (Below.refl _ _).drew
    case eachK21cop21 =>
      refine ⟨?_, ?_, ?_, ?_, ?_, ?_, ?_, ?_, ?_, ?_, ?_, ?_, ?_, ?_, ?_, ?_, ?_, ?_, ?_, ?_, ?_, ?_, ?_, ?_, ?_, ?_, ?_, ?_, trivial⟩
      -- 0: slot 88 := move t10
      · intro w L f hC hLi hLd hLn hF
        obtain ⟨d10, _⟩ := hF
        have d10 : f 10 = .int .i64 0 := d10
        refine Step2.live rfl ?_
        exact relUpon_value (v := f 10) rfl (hC) (Below.refl _ _) d10
      -- 1: slot 89 := move t11
      · intro w L f hC hLi hLd hLn hF
        obtain ⟨d11, _⟩ := hF
        have d11 : f 11 = .int .i64 0 := d11
        refine Step2.live rfl ?_
        exact relUpon_value (v := f 11) rfl (hC) (Below.refl _ _) d11
      -- 2: slot 90 := binOp BinOp.add 3 t88 t89 3
      · intro w L f hC hLi hLd hLn hF
        obtain ⟨d88, d89, _⟩ := hF
        have d88 : f 88 = .int .i64 0 := d88
        have d89 : f 89 = .int .i64 0 := d89
        refine Step2.live rfl ?_
        have ev : ∀ t, evalOf f (.tmp t) = f t := fun _ => rfl
        have ec : ∀ c, evalOf f (.const c) = c := fun _ => rfl
        have ef : ∀ g, evalOf f (.func g) = .func (.func g) #[] #[] := fun _ => rfl
        refine relUpon_value ?_ hC (Below.refl _ _) rfl
        go_simp
        exact IntWalk.i64_in 0 (by omega)
      -- 3: slot 91 := move t13
      · intro w L f hC hLi hLd hLn hF
        obtain ⟨d13, _⟩ := hF
        have d13 : f 13 = .int .i64 0 := d13
        refine Step2.live rfl ?_
        exact relUpon_value (v := f 13) rfl (hC) (Below.refl _ _) d13
      -- 4: slot 92 := binOp BinOp.add 3 t90 t91 3
      · intro w L f hC hLi hLd hLn hF
        obtain ⟨d90, d91, _⟩ := hF
        have d90 : f 90 = .int .i64 0 := d90
        have d91 : f 91 = .int .i64 0 := d91
        refine Step2.live rfl ?_
        have ev : ∀ t, evalOf f (.tmp t) = f t := fun _ => rfl
        have ec : ∀ c, evalOf f (.const c) = c := fun _ => rfl
        have ef : ∀ g, evalOf f (.func g) = .func (.func g) #[] #[] := fun _ => rfl
        refine relUpon_value ?_ hC (Below.refl _ _) rfl
        go_simp
        exact IntWalk.i64_in 0 (by omega)
      -- 5: slot 93 := move t15
      · intro w L f hC hLi hLd hLn hF
        obtain ⟨d15, _⟩ := hF
        have d15 : f 15 = .int .i64 0 := d15
        refine Step2.live rfl ?_
        exact relUpon_value (v := f 15) rfl (hC) (Below.refl _ _) d15
      -- 6: slot 94 := binOp BinOp.add 3 t92 t93 3
      · intro w L f hC hLi hLd hLn hF
        obtain ⟨d92, d93, _⟩ := hF
        have d92 : f 92 = .int .i64 0 := d92
        have d93 : f 93 = .int .i64 0 := d93
        refine Step2.live rfl ?_
        have ev : ∀ t, evalOf f (.tmp t) = f t := fun _ => rfl
        have ec : ∀ c, evalOf f (.const c) = c := fun _ => rfl
        have ef : ∀ g, evalOf f (.func g) = .func (.func g) #[] #[] := fun _ => rfl
        refine relUpon_value ?_ hC (Below.refl _ _) rfl
        go_simp
        exact IntWalk.i64_in 0 (by omega)
      -- 7: slot 95 := binOp BinOp.eql 3 t94 (const (0:i64)) 3
      · intro w L f hC hLi hLd hLn hF
        obtain ⟨d94, _⟩ := hF
        have d94 : f 94 = .int .i64 0 := d94
        refine Step2.live rfl ?_
        have ev : ∀ t, evalOf f (.tmp t) = f t := fun _ => rfl
        have ec : ∀ c, evalOf f (.const c) = c := fun _ => rfl
        refine relUpon_value ?_ (hC) (Below.refl _ _) rfl
        go_simp
      -- 8: slot 96 := move t95
      · intro w L f hC hLi hLd hLn hF
        obtain ⟨d95, _⟩ := hF
        have d95 : f 95 = .bool true := d95
        refine Step2.live rfl ?_
        exact relUpon_value (v := f 95) rfl (hC) (Below.refl _ _) d95
      -- 9: slot 97 := move t12
      · intro w L f hC hLi hLd hLn hF
        obtain ⟨d12, d96, _⟩ := hF
        have d12 : f 12 = .slice (some (⟨gz, 0, none⟩ : Addr)) 64 cz := d12
        have d96 : f 96 = .bool true := d96
        refine Step2.live (show wantedBy _ (f 96) = true by rw [d96]; rfl) ?_
        exact relUpon_value (v := f 12) rfl (hC) (Below.refl _ _) d12
      -- 10: slot 98 := call { builtin len, args := #[t97], argTypes := #[23] }
      · intro w L f hC hLi hLd hLn hF
        obtain ⟨d97, d96, _⟩ := hF
        have d97 : f 97 = .slice (some (⟨gz, 0, none⟩ : Addr)) 64 cz := d97
        have d96 : f 96 = .bool true := d96
        refine Step2.live (show wantedBy _ (f 96) = true by rw [d96]; rfl) ?_
        have ev : ∀ t, evalOf f (.tmp t) = f t := fun _ => rfl
        have ec : ∀ c, evalOf f (.const c) = c := fun _ => rfl
        have ef : ∀ g, evalOf f (.func g) = .func (.func g) #[] #[] := fun _ => rfl
        refine relUpon_value ?_ hC (Below.refl _ _) rfl
        go_simp
      -- 11: slot 99 := binOp BinOp.eql 3 t98 (const (64:i64)) 3
      · intro w L f hC hLi hLd hLn hF
        obtain ⟨d98, d96, _⟩ := hF
        have d98 : f 98 = .int .i64 64 := d98
        have d96 : f 96 = .bool true := d96
        refine Step2.live (show wantedBy _ (f 96) = true by rw [d96]; rfl) ?_
        have ev : ∀ t, evalOf f (.tmp t) = f t := fun _ => rfl
        have ec : ∀ c, evalOf f (.const c) = c := fun _ => rfl
        refine relUpon_value ?_ (hC) (Below.refl _ _) rfl
        go_simp
      -- 12: slot 100 := pick t96 t99 (const (Value.bool false))
      · intro w L f hC hLi hLd hLn hF
        obtain ⟨d96, d99, _⟩ := hF
        have d96 : f 96 = .bool true := d96
        have d99 : f 99 = .bool true := d99
        refine Step2.live rfl ?_
        have ev : ∀ t, evalOf f (.tmp t) = f t := fun _ => rfl
        have ec : ∀ c, evalOf f (.const c) = c := fun _ => rfl
        refine relUpon_value ?_ (hC) (Below.refl _ _) rfl
        go_simp
      -- 13: slot 101 := move t100
      · intro w L f hC hLi hLd hLn hF
        obtain ⟨d100, _⟩ := hF
        have d100 : f 100 = .bool true := d100
        refine Step2.live rfl ?_
        exact relUpon_value (v := f 100) rfl (hC) (Below.refl _ _) d100
      -- 14: slot 102 := move t12
      · intro w L f hC hLi hLd hLn hF
        obtain ⟨d12, d101, _⟩ := hF
        have d12 : f 12 = .slice (some (⟨gz, 0, none⟩ : Addr)) 64 cz := d12
        have d101 : f 101 = .bool true := d101
        refine Step2.live (show wantedBy _ (f 101) = true by rw [d101]; rfl) ?_
        exact relUpon_value (v := f 12) rfl (hC) (Below.refl _ _) d12
      -- 15: slot 103 := indexAddr 23 t102 (const (0:i64))
      · intro w L f hC hLi hLd hLn hF
        obtain ⟨d102, d101, _⟩ := hF
        have d102 : f 102 = .slice (some (⟨gz, 0, none⟩ : Addr)) 64 cz := d102
        have d101 : f 101 = .bool true := d101
        refine Step2.live (show wantedBy _ (f 101) = true by rw [d101]; rfl) ?_
        have ev : ∀ t, evalOf f (.tmp t) = f t := fun _ => rfl
        have ec : ∀ c, evalOf f (.const c) = c := fun _ => rfl
        have ef : ∀ g, evalOf f (.func g) = .func (.func g) #[] #[] := fun _ => rfl
        refine relUpon_value ?_ hC (Below.refl _ _) rfl
        go_simp
      -- 16: slot 104 := load 5 t103
      · intro w L f hC hLi hLd hLn hF
        obtain ⟨d103, d101, _⟩ := hF
        have d103 : f 103 = .pointer (some ⟨gz, 0, none⟩) := d103
        have d101 : f 101 = .bool true := d101
        refine Step2.live (show wantedBy _ (f 101) = true by rw [d101]; rfl) ?_
        have hcell := (hC.cell (p := ⟨gz, 0, none⟩) hzlt.out).trans hcz.out
        have ev : ∀ t, evalOf f (.tmp t) = f t := fun _ => rfl
        have ec : ∀ c, evalOf f (.const c) = c := fun _ => rfl
        have ef : ∀ g, evalOf f (.func g) = .func (.func g) #[] #[] := fun _ => rfl
        refine relUpon_value ?_ hC (Below.refl _ _) rfl
        go_simp
      -- 17: slot 105 := move t0
      · intro w L f hC hLi hLd hLn hF
        obtain ⟨d0, d101, _⟩ := hF
        have d0 : f 0 = .int .u8 x := d0
        have d101 : f 101 = .bool true := d101
        refine Step2.live (show wantedBy _ (f 101) = true by rw [d101]; rfl) ?_
        exact relUpon_value (v := f 0) rfl (hC) (Below.refl _ _) d0
      -- 18: slot 106 := binOp BinOp.eql 5 t104 t105 5
      · intro w L f hC hLi hLd hLn hF
        obtain ⟨d104, d105, d101, _⟩ := hF
        have d104 : f 104 = .int .u8 x := d104
        have d105 : f 105 = .int .u8 x := d105
        have d101 : f 101 = .bool true := d101
        refine Step2.live (show wantedBy _ (f 101) = true by rw [d101]; rfl) ?_
        have ev : ∀ t, evalOf f (.tmp t) = f t := fun _ => rfl
        have ec : ∀ c, evalOf f (.const c) = c := fun _ => rfl
        refine relUpon_value ?_ (hC) (Below.refl _ _) rfl
        go_simp
      -- 19: slot 107 := pick t101 t106 (const (Value.bool false))
      · intro w L f hC hLi hLd hLn hF
        obtain ⟨d101, d106, _⟩ := hF
        have d101 : f 101 = .bool true := d101
        have d106 : f 106 = .bool true := d106
        refine Step2.live rfl ?_
        have ev : ∀ t, evalOf f (.tmp t) = f t := fun _ => rfl
        have ec : ∀ c, evalOf f (.const c) = c := fun _ => rfl
        refine relUpon_value ?_ (hC) (Below.refl _ _) rfl
        go_simp
      -- 20: slot 108 := move t107
      · intro w L f hC hLi hLd hLn hF
        obtain ⟨d107, _⟩ := hF
        have d107 : f 107 = .bool true := d107
        refine Step2.live rfl ?_
        exact relUpon_value (v := f 107) rfl (hC) (Below.refl _ _) d107
      -- 21: slot 109 := move t14
      · intro w L f hC hLi hLd hLn hF
        obtain ⟨d14, d108, _⟩ := hF
        have d14 : f 14 = .slice (some (⟨gu, 0, none⟩ : Addr)) 64 cu := d14
        have d108 : f 108 = .bool true := d108
        refine Step2.live (show wantedBy _ (f 108) = true by rw [d108]; rfl) ?_
        exact relUpon_value (v := f 14) rfl (hC) (Below.refl _ _) d14
      -- 22: slot 110 := convert 23 9 t109
      · intro w L f hC hLi hLd hLn hF
        obtain ⟨d109, d108, _⟩ := hF
        have d109 : f 109 = .slice (some (⟨gu, 0, none⟩ : Addr)) 64 cu := d109
        have d108 : f 108 = .bool true := d108
        refine Step2.live (show wantedBy _ (f 108) = true by rw [d108]; rfl) ?_
        have kv := run_text (P := Try.prog) w 23 5 Try.underlying23 Try.underlying5 (some ⟨gu, 0, none⟩) 64 cu _ (by simp) ((hbu'.out.rowAt.row.below hC).more hC.size) 9 Try.underlying9
        have ev : ∀ t, evalOf f (.tmp t) = f t := fun _ => rfl
        have ec : ∀ c, evalOf f (.const c) = c := fun _ => rfl
        have ef : ∀ g, evalOf f (.func g) = .func (.func g) #[] #[] := fun _ => rfl
        refine relUpon_value ?_ hC (Below.refl _ _) rfl
        go_simp
      -- 23: slot 111 := makeSlice 23 (const (64:i64)) (const (64:i64))
      · intro w L f hC hLi hLd hLn hF
        obtain ⟨d108, _⟩ := hF
        have d108 : f 108 = .bool true := d108
        refine Step2.live (show wantedBy _ (f 108) = true by rw [d108]; rfl) ?_
        have hbn := below_new w (.cells zs 5)
        have hfr := Row.fresh w 5 ((List.replicate 64 (0 : UInt8)).map byteV)
        rw [← hzs'.out] at hfr
        have ev : ∀ t, evalOf f (.tmp t) = f t := fun _ => rfl
        have ec : ∀ c, evalOf f (.const c) = c := fun _ => rfl
        have ef : ∀ g, evalOf f (.func g) = .func (.func g) #[] #[] := fun _ => rfl
        refine relUpon_value (w' := w.alloc (.cells zs 5)) (v := .slice (some ⟨w.heap.size, 0, none⟩) 64 64) ?_ (hC.trans (hbn.mono hC.size)) hbn ⟨_, rfl, hfr⟩
        go_simp
      -- 24: slot 112 := convert 23 9 t111
      · intro w L f hC hLi hLd hLn hF
        obtain ⟨d111, d108, _⟩ := hF
        have d108 : f 108 = .bool true := d108
        refine Step2.live (show wantedBy _ (f 108) = true by rw [d108]; rfl) ?_
        obtain ⟨A1, e1, h1⟩ := d111
        have kv := run_text (P := Try.prog) w 23 5 Try.underlying23 Try.underlying5 A1 64 64 _ (by simp) h1 9 Try.underlying9
        have ev : ∀ t, evalOf f (.tmp t) = f t := fun _ => rfl
        have ec : ∀ c, evalOf f (.const c) = c := fun _ => rfl
        have ef : ∀ g, evalOf f (.func g) = .func (.func g) #[] #[] := fun _ => rfl
        refine relUpon_value ?_ hC (Below.refl _ _) rfl
        go_simp
      -- 25: slot 113 := binOp BinOp.eql 9 t110 t112 9
      · intro w L f hC hLi hLd hLn hF
        obtain ⟨d110, d112, d108, _⟩ := hF
        have d110 : f 110 = .string (strV (List.replicate 64 0)) := d110
        have d112 : f 112 = .string (strV (List.replicate 64 0)) := d112
        have d108 : f 108 = .bool true := d108
        refine Step2.live (show wantedBy _ (f 108) = true by rw [d108]; rfl) ?_
        have ev : ∀ t, evalOf f (.tmp t) = f t := fun _ => rfl
        have ec : ∀ c, evalOf f (.const c) = c := fun _ => rfl
        refine relUpon_value ?_ (hC) (Below.refl _ _) rfl
        go_simp
      -- 26: slot 114 := pick t108 t113 (const (Value.bool false))
      · intro w L f hC hLi hLd hLn hF
        obtain ⟨d108, d113, _⟩ := hF
        have d108 : f 108 = .bool true := d108
        have d113 : f 113 = .bool true := d113
        refine Step2.live rfl ?_
        have ev : ∀ t, evalOf f (.tmp t) = f t := fun _ => rfl
        have ec : ∀ c, evalOf f (.const c) = c := fun _ => rfl
        refine relUpon_value ?_ (hC) (Below.refl _ _) rfl
        go_simp
      -- 27: slot 4 := assign t114
      · intro w L f hC hLi hLd hLn hF
        obtain ⟨d114, _⟩ := hF
        have d114 : f 114 = .bool true := d114
        refine Step2.live rfl ?_
        exact relUpon_value (v := f 114) rfl (hC) (Below.refl _ _) d114
    intro x w' hC hV

    have e0 := hV 27 _ rfl rfl
    clear hV
    simp only [framed]
    rw [e0]
    clear e0
    go_wp2_with fail
    go_ret
    exact ⟨rfl, hBr.out.trans (hC.mono hBr.out.size)⟩

theorem copies_walk (w : World) (v1 v2 : Value) (h1 : ArgOk 5 w v1) (h2 : ArgOk 3 w v2) : Calls Try.prog 8 #[v1, v2] w fun e w' => e = .returned (.bool true) ∧ Below w.heap.size w w' := by
  obtain ⟨x, rfl, hx⟩ := h1.u8
  obtain ⟨c, rfl, _⟩ := h2.int
  exact copies_any w x hx c
end Go.Proofs.Ytncddkbagmelkaa
