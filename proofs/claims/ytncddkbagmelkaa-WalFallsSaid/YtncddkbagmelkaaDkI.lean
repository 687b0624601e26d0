/-
  The walk of augurlaw3.known.
-/
import Derived.Test.YtncddkbagmelkaaDkH
namespace Go.Proofs.Ytncddkbagmelkaa
open Go.RowKit Go.Deep

/-- The disk's own blocks lie from B on. -/
def DLow (B : Nat) (q : DR) : Prop := B ≤ q.g ∧ B ≤ q.md ∧ B ≤ q.mw
theorem DStep.low {q q' : DR} {w w' : World} {B : Nat} (h : DStep q w q' w') (hl : DLow B q) (hB : B ≤ w.heap.size) : Below B w w' ∧ DLow B q' := by
  obtain ⟨h1, h2, h3⟩ := hl
  refine ⟨h.wrt.below hB (fun k hk => by simp at hk; omega), by rw [h.g]; exact h1, ?_, ?_⟩
  · rcases h.md with e | e <;> omega
  · rcases h.mw with e | e <;> omega
theorem RowAt.below {w w' : World} {A : Option Addr} {vs : List Value} (h : RowAt w A vs) (hb : Below w.heap.size w w') : RowAt w' A vs := (h.row.below hb).rowAt
theorem RowAt.cellAt {w : World} {b off : Nat} {l : List UInt8} (h : RowAt w (some ⟨b, off, none⟩) (l.map byteV)) {i : Nat} (hi : i < l.length) : w.cell? ⟨b, off + i, none⟩ = some (.int .u8 l[i].toNat) := by
  obtain ⟨b', o', e, hc⟩ := h (by intro e; simp at e; rw [e] at hi; simp at hi)
  injection e with e
  injection e with e1 e2
  subst e1 e2
  exact hc i _ (by simp [hi, byteV])
def bs3 : List UInt8 := ((List.replicate 64 0).set 0 7).set 9 7
theorem keys123 {f : Int → Option Value} {ks : List Int} (h : KeysOf f ks) (hf : ∀ j, f j ≠ none ↔ (1 ≤ j ∧ j < 4)) : ks = [1, 2, 3] := by
  have hm : ∀ j, j ∈ ks ↔ j ∈ ([1, 2, 3] : List Int) := fun j => by
    rw [h.2 j, hf j]
    simp
    omega
  exact List.Perm.eq_of_pairwise (le := (· < ·)) (fun a b _ _ h1 h2 => by omega) h.1 (by decide) ((List.perm_ext_iff_of_nodup (h.1.imp fun h => by omega) (by decide)).2 hm)

set_option maxRecDepth 100000 in
set_option maxHeartbeats 8000000 in
theorem known3_any (w0 : World) : Calls Try.prog 26 #[] w0 fun e w' => e = .returned (.bool true) ∧ Below w0.heap.size w0 w' := by
  have hmk := run_make_row' (P := Try.prog) 23 5 (.int .u8 0) 1 Try.underlying23 Try.infoU8 rfl .i64 .i64 64 (by omega) (by omega)
  rw [made_bytes, show ((64 : Nat) : Int) = 64 from rfl] at hmk
  obtain ⟨zs, hzs⟩ : ∃ zs, zs = ((List.replicate 64 (0 : UInt8)).map byteV).toArray := ⟨_, rfl⟩
  rw [← hzs] at hmk
  have hzs' := Lib.hid hzs
  clear hzs
  go_enter Try.func26, Try.ntmps26
  go_wp2_with fail
  refine (new_any w0 4 64 4 64 (by decide) (by decide)).mono ?_
  rintro e w1 ⟨rfl, hq0, hb0⟩
  obtain ⟨q, hq⟩ : ∃ q : DR, q = ⟨w0.heap.size, w0.heap.size + 1, w0.heap.size + 1 + 1, 4, 64, fun _ => none, fun _ => none, false, false, 0⟩ := ⟨_, rfl⟩
  rw [← hq] at hq0
  have hqe := Lib.hid hq
  have hqg : Hid (w0.heap.size = q.g) := Lib.hid (by rw [hq])
  have hlow : DLow w0.heap.size q := by rw [hq]; exact ⟨Nat.le_refl _, Nat.le_succ _, by show w0.heap.size ≤ w0.heap.size + 1 + 1; omega⟩
  have hb0' := Lib.hid hb0
  have hD := Lib.hid hq0
  clear hq hb0 hq0
  obtain ⟨g, hg⟩ : ∃ g, g = w0.heap.size := ⟨_, rfl⟩
  rw [← hg]
  have hgq : Hid (g = q.g) := Lib.hid (hg.trans hqg.out)
  have hg' := Lib.hid hg
  clear hg
  have hse := sectors_any w1 q hD.out
  have hsi := size_any w1 q hD.out
  rw [← hgq.out] at hse hsi
  rw [show (q.n : Int) = 4 by rw [hqe.out]; rfl] at hse
  rw [show (q.size : Int) = 64 by rw [hqe.out]; rfl] at hsi
  go_wp2_with fail
  refine hse.mono ?_
  clear hse
  rintro e w2 ⟨rfl, rfl⟩
  go_wp2_with fail
  refine hsi.mono ?_
  clear hsi
  rintro e w3 ⟨rfl, rfl⟩
  have hz0 := Holds.new w3 5 zs
  have hz1 := Holds.new w3 5 (zs.setIfInBounds 0 (.int .u8 7))
  have zc0 : (w3.alloc (.cells zs 5)).cell? ⟨w3.heap.size, 0, none⟩ = some (.int .u8 0) := (hz0.cell 0).trans (by rw [hzs'.out]; rfl)
  have zc9 : (w3.alloc (.cells (zs.setIfInBounds 0 (.int .u8 7)) 5)).cell? ⟨w3.heap.size, 9, none⟩ = some (.int .u8 0) := (hz1.cell 9).trans (by rw [hzs'.out]; rfl)
  have zf0 := hz0.frozen 0
  have zf9 := hz1.frozen 9
  have hfin : Hid ((zs.setIfInBounds 0 (.int .u8 7)).setIfInBounds 9 (.int .u8 7) = (bs3.map byteV).toArray) := Lib.hid (by rw [hzs'.out]; rfl)
  have hlow3 : w0.heap.size ≤ w3.heap.size := hb0'.out.size
  clear hz0 hz1
  go_wp2_with fail
  rw [hfin.out]
  have hb2 := Buf.made w3 bs3 (by decide)
  have hB := Lib.hid (below_new w3 (.cells (bs3.map byteV).toArray 5))
  obtain ⟨gb, hgb⟩ : ∃ x, x = w3.heap.size := ⟨_, rfl⟩
  rw [← hgb] at hb2 ⊢
  generalize w3.alloc (.cells (bs3.map byteV).toArray 5) = wa at hb2 hB ⊢
  have hrow : Hid (RowAt wa (some ⟨gb, 0, none⟩) (bs3.map byteV)) := Lib.hid hb2.rowAt
  have hDa := Lib.hid (hD.out.below hB.out)
  have hba := Lib.hid (hb0'.out.trans (hB.out.mono hlow3))
  clear hgb hb2 hB zc0 zc9 zf0 zf9 hmk hb0' hD
  go_loopw [3] (fun iv wr => ∃ (k : Nat) (q' : DR), 1 ≤ k ∧ k ≤ 4 ∧ iv = .int .i64 k ∧ DiskP q' wr ∧ q'.g = g ∧ q'.n = 4 ∧ q'.size = 64 ∧ q'.dead = false ∧ q'.cut = false ∧ (∀ j, q'.dur j = none) ∧ (∀ j, q'.wr j ≠ none ↔ (1 ≤ j ∧ j < (k : Int))) ∧ (∀ j p, q'.wr j = some p → p.l = bs3) ∧ DLow w0.heap.size q' ∧ RowAt wr (some ⟨gb, 0, none⟩) (bs3.map byteV) ∧ Below w0.heap.size w0 wr) (fun iv _ => 4 - (intOf iv).toNat)
  case atStart => exact ⟨1, q, by omega, by omega, rfl, hDa.out, hgq.out.symm, by rw [hqe.out], by rw [hqe.out], by rw [hqe.out], by rw [hqe.out], fun j => by rw [hqe.out], fun j => ⟨fun h => by rw [hqe.out] at h; exact absurd rfl h, fun h => by omega⟩, fun j p h => (by rw [hqe.out] at h; cases h), hlow, hrow.out, hba.out⟩
  clear hrow hDa hba hlow hqe hqg hgq hlow3 q
  obtain ⟨k, q, hk1, hk4, rfl, hD, hqg, hqn, hqs, hqd, hqc, hdur, hwr, hwl, hlow, hrow, hbel⟩ := hrel
  have hD' := Lib.hid hD
  have hQ := Lib.hid (And.intro hqg (And.intro hqn (And.intro hqs (And.intro hqd (And.intro hqc (And.intro hdur (And.intro hwr hwl)))))))
  have hrow' := Lib.hid hrow
  have hbel' := Lib.hid hbel
  clear hqn hqs hqd hqc hdur hwr hwl hrow hbel
  by_cases hlt : k < 4
  · have hwc := write_any wr q hD (k : Int) (by omega) (some ⟨gb, 0, none⟩) 64 64 bs3 rfl (by omega) hrow'.out
    rw [hqg] at hwc
    have hg2 := Lib.hid hqg
    clear hqg hD
    go_wp2_with fail
    refine hwc.mono ?_
    clear hwc
    intro e w4 hW
    unfold WriteE at hW
    obtain ⟨g1, g2, g3, g4, g5, g6, g7, g8⟩ := hQ.out
    have hpw : q.powered = q := by unfold DR.powered; rw [if_neg (by rw [g5]; simp)]
    rw [if_neg (by rw [g4]; simp), if_neg (by omega), if_neg (by rw [g3]; decide), hpw, if_neg (by rw [g4]; simp)] at hW
    obtain ⟨rfl, p, hp, hst⟩ := hW
    have hb4 := hst.low hlow hbel'.out.size
    have hnew : Hid (DiskP (q.wrote k p) w4 ∧ (q.wrote k p).g = g ∧ (q.wrote k p).n = 4 ∧ (q.wrote k p).size = 64 ∧ (q.wrote k p).dead = false ∧ (q.wrote k p).cut = false ∧ (∀ j, (q.wrote k p).dur j = none) ∧ (∀ j, (q.wrote k p).wr j ≠ none ↔ (1 ≤ j ∧ j < ((k + 1 : Nat) : Int))) ∧ (∀ j p', (q.wrote k p).wr j = some p' → p'.l = bs3) ∧ DLow w0.heap.size (q.wrote k p) ∧ RowAt w4 (some ⟨gb, 0, none⟩) (bs3.map byteV) ∧ Below w0.heap.size w0 w4) := Lib.hid (by
      refine ⟨hst.post, hst.g.trans g1, g2, g3, g4, g5, g6, fun j => ?_, fun j p' hp' => ?_, hb4.2, hst.bytes hD'.out hrow'.out, hbel'.out.trans hb4.1⟩
      · unfold DR.wrote
        by_cases e : j = (k : Int)
        · simp [e]; omega
        · simp only [if_neg e]
          rw [g7 j]
          omega
      · unfold DR.wrote at hp'
        by_cases e : j = (k : Int)
        · simp only [if_pos e] at hp'
          injection hp' with hp'
          rw [← hp']
          exact hp
        · simp only [if_neg e] at hp'
          exact g8 j p' hp')
    clear g1 g2 g3 g4 g5 g6 g7 g8 hpw hst hb4 hp
    go_wp2_with fail
    go_roundw
    case rel => exact ⟨k + 1, q.wrote k p, by omega, by omega, by go_num, hnew.out⟩
    case measure => simp [intOf]; omega
  · obtain rfl : k = 4 := by omega
    have hcr := crash_any wr q hD 6 (by omega) 2 5 (by decide) 5 (by rw [hQ.out.2.2.1]; decide)
    rw [hqg] at hcr
    have hg4 := Lib.hid hqg
    clear hqg hD
    go_wp2_with fail
    refine hcr.mono ?_
    clear hcr
    rintro e w5 ⟨rfl, ks, kp, mk, hks, hkp, hcb, hst⟩
    obtain ⟨g1, g2, g3, g4, g5, g6, g7, g8⟩ := hQ.out
    obtain rfl := keys123 hks (fun j => by
      have := g7 j
      cases e : q.wr j with
      | none => rw [e] at this; simp at this ⊢; omega
      | some p => rw [e] at this; simp at this ⊢; omega)
    obtain ⟨q5, hq5⟩ : ∃ q' : DR, q' = q.crashed mk kp := ⟨_, rfl⟩
    rw [← hq5] at hst
    have hsafe : ∀ j, q.safe j = List.replicate 64 0 := fun j => by unfold DR.safe; rw [g6 j, g3]
    have hlast : ∀ j, 1 ≤ j → j < 4 → q.last j = bs3 := fun j h1 h2 => by
      have := (g7 j).2 ⟨h1, by omega⟩
      unfold DR.last
      cases e : q.wr j with
      | none => exact absurd e this
      | some p => exact g8 j p e
    have hl : ∀ (m : Nat) (hm : m < 3) (j : Int), ([1, 2, 3] : List Int)[m] = j → q5.last j = crashB q 6 2 5 m j := fun m hm j hj => by
      have h1 := (hkp j).2 (by rw [← hj]; exact List.getElem_mem _)
      have h2 : q5.last j = match kp j with | some p => p.l | none => q.safe j := by
        rw [hq5]
        unfold DR.last DR.safe DR.crashed
        simp only
        cases kp j <;> rfl
      rw [h2]
      cases e : kp j with
      | none => exact absurd e h1
      | some p =>
        have := hcb m hm p (by rw [hj]; exact e)
        simp only [hj] at this
        exact this
    have hl1 : Hid (q5.last 1 = List.replicate 64 0) := Lib.hid ((hl 0 (by omega) 1 rfl).trans (by unfold crashB; rw [if_neg (by decide), if_neg (by decide)]; exact hsafe 1))
    have hl2 : Hid (q5.last 2 = bs3) := Lib.hid ((hl 1 (by omega) 2 rfl).trans (by unfold crashB; rw [if_neg (by decide), if_pos (by decide)]; exact hlast 2 (by omega) (by omega)))
    have hl3 : Hid (q5.last 3 = bs3.take 5 ++ (List.replicate 64 0).drop 5) := Lib.hid ((hl 2 (by omega) 3 rfl).trans (by unfold crashB; rw [if_pos (by decide), hlast 3 (by omega) (by omega), hsafe 3]))
    have hg5 : Hid (q5.g = g) := Lib.hid (by rw [hq5]; exact g1)
    have hn5 : Hid (q5.n = 4) := Lib.hid (by rw [hq5]; exact g2)
    have hd5 : Hid (q5.dead = false) := Lib.hid (by rw [hq5]; rfl)
    have hlw := hst.low hlow hbel'.out.size
    have hlow5 := hlw.2
    have hBw5 := Lib.hid (hbel'.out.trans hlw.1)
    have hDw5 := Lib.hid hst.post
    clear hst hq5 hl hlast hsafe hlw g1 g2 g3 g4 g5 g6 g7 g8 hks hkp hcb hlow
    go_wp2_with fail
    have hrx := read_any w5 q5 hDw5.out 1 (by decide)
    rw [hg5.out] at hrx
    refine hrx.mono ?_
    clear hrx
    intro e w6 hR
    unfold ReadE at hR
    rw [if_neg (by rw [hd5.out]; simp), if_neg (by rw [hn5.out]; decide), hl1.out] at hR
    obtain ⟨⟨v, rfl, hv⟩, hb⟩ := hR
    obtain ⟨gx, cx, rfl, hbf⟩ := hv.buf (by decide)
    rw [show (List.replicate 64 0 : List UInt8).length = 64 by decide]
    have hrox := Lib.hid hbf.rowAt
    have hDw6 := Lib.hid (hDw5.out.below hb)
    have hBw6 := Lib.hid (hBw5.out.trans (hb.mono hBw5.out.size))
    clear hv hb hbf
    go_wp2_with fail
    have hry := read_any w6 q5 hDw6.out 2 (by decide)
    rw [hg5.out] at hry
    refine hry.mono ?_
    clear hry
    intro e w7 hR
    unfold ReadE at hR
    rw [if_neg (by rw [hd5.out]; simp), if_neg (by rw [hn5.out]; decide), hl2.out] at hR
    obtain ⟨⟨v, rfl, hv⟩, hb⟩ := hR
    obtain ⟨gy, cy, rfl, hbf⟩ := hv.buf (by decide)
    rw [show (bs3 : List UInt8).length = 64 by decide]
    have hroy := Lib.hid hbf.rowAt
    have hDw7 := Lib.hid (hDw6.out.below hb)
    have hBw7 := Lib.hid (hBw6.out.trans (hb.mono hBw6.out.size))
    have hrox2 := Lib.hid (hrox.out.below hb)
    clear hrox
    have hrox := hrox2
    clear hrox2
    clear hv hb hbf
    go_wp2_with fail
    have hrz := read_any w7 q5 hDw7.out 3 (by decide)
    rw [hg5.out] at hrz
    refine hrz.mono ?_
    clear hrz
    intro e w8 hR
    unfold ReadE at hR
    rw [if_neg (by rw [hd5.out]; simp), if_neg (by rw [hn5.out]; decide), hl3.out] at hR
    obtain ⟨⟨v, rfl, hv⟩, hb⟩ := hR
    obtain ⟨gz, cz, rfl, hbf⟩ := hv.buf (by decide)
    rw [show (bs3.take 5 ++ (List.replicate 64 0).drop 5 : List UInt8).length = 64 by decide]
    have hroz := Lib.hid hbf.rowAt
    have hDw8 := Lib.hid (hDw7.out.below hb)
    have hBw8 := Lib.hid (hBw7.out.trans (hb.mono hBw7.out.size))
    have hrox2 := Lib.hid (hrox.out.below hb)
    clear hrox
    have hrox := hrox2
    clear hrox2
    have hroy2 := Lib.hid (hroy.out.below hb)
    clear hroy
    have hroy := hroy2
    clear hroy2
    clear hv hb hbf
    go_wp2_with fail
    have hct := cut_any w8 q5 hDw8.out 0 (by decide)
    rw [hg5.out] at hct
    refine hct.mono ?_
    clear hct
    rintro e w9 ⟨rfl, hst⟩
    obtain ⟨q9, hq9⟩ : ∃ q' : DR, q' = { q5 with g := g, dead := q5.dead, cut := true, left := (0 : Int).toNat } := ⟨_, rfl⟩
    have hst9 : DStep q5 w8 q9 w9 := by
      rw [hq9]
      exact hst
    have hlw := hst9.low hlow5 hBw8.out.size
    have hlow9 := hlw.2
    have hB9 := Lib.hid (hBw8.out.trans hlw.1)
    have hrx9 := Lib.hid (hst9.bytes hDw8.out hrox.out)
    have hry9 := Lib.hid (hst9.bytes hDw8.out hroy.out)
    have hrz9 := Lib.hid (hst9.bytes hDw8.out hroz.out)
    have hD9 := Lib.hid hst9.post
    have hg9 : Hid (q9.g = g) := Lib.hid (by rw [hq9])
    have hd9 : Hid (q9.dead = false) := Lib.hid (by rw [hq9]; exact hd5.out)
    have hp9 : Hid (q9.powered.dead = true ∧ q9.powered.g = q9.g) := Lib.hid (by rw [hq9]; exact ⟨rfl, rfl⟩)
    clear hst hst9 hlw hq9 hDw8 hBw8 hrox hroy hroz hDw7 hBw7 hDw6 hBw6 hDw5 hBw5 hlow5
    go_wp2_with fail
    have hfl := flush_any w9 q9 hD9.out
    rw [hg9.out] at hfl
    refine hfl.mono ?_
    clear hfl
    intro e w10 hF
    unfold FlushE at hF
    rw [if_neg (by rw [hd9.out]; simp), if_pos hp9.out.1] at hF
    obtain ⟨rfl, hst⟩ := hF
    have hlw := hst.low hlow9 hB9.out.size
    have hB10 := Lib.hid (hB9.out.trans hlw.1)
    have rx := (hst.bytes hD9.out hrx9.out)
    have ry := (hst.bytes hD9.out hry9.out)
    have rz := (hst.bytes hD9.out hrz9.out)
    have cx0 := rx.cellAt (i := 0) (by decide)
    have cy9 := ry.cellAt (i := 9) (by decide)
    have cz0 := rz.cellAt (i := 0) (by decide)
    have cz9 := rz.cellAt (i := 9) (by decide)
    rw [Nat.zero_add] at cx0 cy9 cz0 cz9
    have cx0' : w10.cell? ⟨gx, 0, none⟩ = some (.int .u8 0) := cx0
    have cy9' : w10.cell? ⟨gy, 9, none⟩ = some (.int .u8 7) := cy9
    have cz0' : w10.cell? ⟨gz, 0, none⟩ = some (.int .u8 7) := cz0
    have cz9' : w10.cell? ⟨gz, 9, none⟩ = some (.int .u8 0) := cz9
    have hdd := dead_any w10 q9.powered hst.post
    rw [hp9.out.2, hg9.out, hp9.out.1] at hdd
    clear hst hlw rx ry rz cx0 cy9 cz0 cz9 hrx9 hry9 hrz9 hD9 hB9
    go_wp2_with fail
    refine hdd.mono ?_
    clear hdd
    rintro e w11 ⟨rfl, rfl⟩
    go_wp2_with fail
    go_ret
    exact ⟨rfl, hB10.out⟩
end Go.Proofs.Ytncddkbagmelkaa
