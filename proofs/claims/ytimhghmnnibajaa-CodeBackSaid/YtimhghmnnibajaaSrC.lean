/-
  The walk of package code's source.summary.
-/
import Derived.Test.YtimhghmnnibajaaSrB
namespace Go.Proofs.Ytimhghmnnibajaa
open Go.RowKit

theorem smR_als {l : List UInt8} (h : alsR l = none) : smR l = none := by rw [smR, h]; rfl
theorem alsR_rep {l l1 : List UInt8} {n : Nat} (h : countR l = some (n, l1)) : alsR l = rep alR n l1 := by rw [alsR, h]; rfl
theorem alR_two {l l1 : List UInt8} {za : Int} (h : smallR l = some (za, l1)) : alR l = (smallR l1).map fun q => (⟨za, q.1⟩, q.2) := by rw [alR, h]; rfl
theorem nmR_two {l l1 s : List UInt8} (h : textR l = some (s, l1)) : nmR l = (ivR l1).map fun q => (⟨strV s, q.1⟩, q.2) := by rw [nmR, h]; rfl
theorem rep_no {α : Type} {r : List UInt8 → Option (α × List UInt8)} {l l' : List UInt8} {n k : Nat} {acc : List α} (h : RepAt r l n k acc (some l')) (hk : k < n) (hr : r l' = none) : rep r n l = none := by
  have h2 := h.2
  simp only at h2
  rw [← h2, show n - k = (n - k - 1) + 1 by omega]
  simp [rep, hr]
/-- What has been read ahead of the second row. -/
theorem smR_mid {l l1 l2 l3 l4 : List UInt8} {al : List Al} {b : Bool} {v : Iv} {m : Nat} (h1 : alsR l = some (al, l1)) (h2 : boolR l1 = some (b, l2)) (h3 : ivR l2 = some (v, l3)) (h4 : countR l3 = some (m, l4)) :
    smR l = (rep nmR m l4).map fun d => (⟨al, b, v, d.1⟩, d.2) := by
  rw [smR, h1]
  simp only [Option.bind_some]
  rw [h2]
  simp only [Option.bind_some]
  rw [h3]
  simp only [Option.bind_some]
  rw [h4]
  rfl
theorem Holds.store234 {w : World} {g : Nat} {t : TypeId} {a b c d e f : Value} (h : Holds w g t #[a, b, c, d, e, f]) (x y z : Value) : Holds (((w.setCell ⟨g, 2, none⟩ x).setCell ⟨g, 3, none⟩ y).setCell ⟨g, 4, none⟩ z) g t #[a, b, x, y, z, f] := by
  have := ((h.store 2 x).store 3 y).store 4 z
  simpa using this
theorem writes_store234 (w : World) (g : Nat) (x y z : Value) : Writes [some g] w (((w.setCell ⟨g, 2, none⟩ x).setCell ⟨g, 3, none⟩ y).setCell ⟨g, 4, none⟩ z) :=
  ((Writes.store w (p := ⟨g, 2, none⟩) (by simp) x).trans (Writes.store _ (p := ⟨g, 3, none⟩) (by simp) y)).trans (Writes.store _ (p := ⟨g, 4, none⟩) (by simp) z)
theorem Holds.store123 {w : World} {g : Nat} {t : TypeId} {a b c d : Value} (h : Holds w g t #[a, b, c, d]) (x y z : Value) : Holds (((w.setCell ⟨g, 1, none⟩ x).setCell ⟨g, 2, none⟩ y).setCell ⟨g, 3, none⟩ z) g t #[a, x, y, z] := by
  have := ((h.store 1 x).store 2 y).store 3 z
  simpa using this
theorem writes_store123 (w : World) (g : Nat) (x y z : Value) : Writes [some g] w (((w.setCell ⟨g, 1, none⟩ x).setCell ⟨g, 2, none⟩ y).setCell ⟨g, 3, none⟩ z) :=
  ((Writes.store w (p := ⟨g, 1, none⟩) (by simp) x).trans (Writes.store _ (p := ⟨g, 2, none⟩) (by simp) y)).trans (Writes.store _ (p := ⟨g, 3, none⟩) (by simp) z)
theorem new_cells2 (w : World) (t : TypeId) (k : Nat) (hk : w.heap.size = k) (a b : Value) : ∀ (j : Nat) (u : Value), [a, b][j]? = some u → (w.alloc (.cells #[a, b] t)).cell? ((⟨k, 0, none⟩ : Addr).add j) = some u := fun j u hj => by
  subst hk
  have h9 := (Holds.new w t #[a, b]).cell j
  have hadd : (⟨w.heap.size, 0, none⟩ : Addr).add j = ⟨w.heap.size, j, none⟩ := by unfold Addr.add; split <;> simp_all
  rw [hadd, h9]
  simpa using hj
theorem new_cells4 (w : World) (t : TypeId) (k : Nat) (hk : w.heap.size = k) (a b c d : Value) : ∀ (j : Nat) (u : Value), [a, b, c, d][j]? = some u → (w.alloc (.cells #[a, b, c, d] t)).cell? ((⟨k, 0, none⟩ : Addr).add j) = some u := fun j u hj => by
  subst hk
  have h9 := (Holds.new w t #[a, b, c, d]).cell j
  have hadd : (⟨w.heap.size, 0, none⟩ : Addr).add j = ⟨w.heap.size, j, none⟩ := by unfold Addr.add; split <;> simp_all
  rw [hadd, h9]
  simpa using hj

set_option maxRecDepth 100000 in
set_option maxHeartbeats 16000000 in
theorem summary_reads (w0 : World) (g : Nat) (l : List UInt8) (h : Rdr w0 g (some l)) :
    Calls Try.prog 71 #[.pointer (some ⟨g, 0, none⟩)] w0 (Read w0 g (SmV w0.heap.size) (smR l)) := by
  obtain ⟨iA, hiA, hzA0, hzA1, hzA2⟩ := info_parts Try.infoAl
  obtain ⟨iN, hiN, hzN0, hzN1, hzN2⟩ := info_parts Try.infoNm
  have hgl := h.lt
  have hS1 := Lib.hid (SmAt.start w0 g hgl)
  have hR1 := Lib.hid ((h.below (below_new w0 (.cells #[.slice none 0 0, .bool false, .bool false, .int .i64 0, .int .i64 0, .slice none 0 0] 61))).below (below_new _ (.cells #[.slice none 0 0, .bool false, .bool false, .int .i64 0, .int .i64 0, .slice none 0 0] 61)))
  clear h
  go_enter Try.func71, Try.ntmps71
  go_wp2_with fail
  generalize (w0.alloc (.cells #[.slice none 0 0, .bool false, .bool false, .int .i64 0, .int .i64 0, .slice none 0 0] 61)).alloc (.cells #[.slice none 0 0, .bool false, .bool false, .int .i64 0, .int .i64 0, .slice none 0 0] 61) = w1 at hS1 hR1 ⊢
  generalize w0.heap.size = ra at hS1 hgl ⊢
  refine (count_reads w1 g l hR1.out).mono ?_
  rintro e w2 ⟨⟨hM, hr⟩, hle⟩
  cases hn : countR l with
  | none =>
    rw [hn] at hr
    obtain ⟨⟨s, rfl⟩, hj⟩ := hr
    have hno := Lib.hid (smR_als (show alsR l = none by rw [alsR, hn]; rfl))
    have hM := Lib.hid hM
    rename_i u1
    clear u1 hn hle
    go_wp2_with fail
    exact ⟨rfl, hS1.out.jnk hM.out hno.out _ hj⟩
  | some p =>
  obtain ⟨n, l1⟩ := p
  rw [hn] at hr
  obtain ⟨⟨v, rfl, rfl⟩, hR⟩ := hr
  have hnl := hle n l1 hn
  have hals := Lib.hid (alsR_rep hn)
  have hS2 := Lib.hid (hS1.out.call hM)
  have hR2 := Lib.hid hR
  have hlb : n ≤ 100000000000 := by obtain ⟨_, _, _, _, _, h5, _⟩ := hR.cell; omega
  clear hR hM hS1 hR1 hn hle hnl
  go_wp2_with fail
  go_loopw [8] (fun i wr => ∃ k acc v1 l', k ≤ n ∧ i = .int .i64 (k : Nat) ∧ SmAt w0 wr g ra (ra + 2) v1 acc false false 0 0 (.slice none 0 0) [] ∧ Rdr wr g (some l') ∧ RepAt alR l1 n k acc (some l')) (fun i _ => n - (intOf i).toNat)
  case atStart => exact ⟨0, [], _, _, by omega, rfl, hS2.out, hR2.out, RepAt.start _ _ _⟩
  clear hS2 hR2
  obtain ⟨k, acc, v1, l', hk, rfl, hS0, hR0, hrep0⟩ := hrel
  have hrep := Lib.hid hrep0
  clear hrep0
  by_cases hlt : k < n
  · have hb1 := below_new wr (.cells #[.int .i64 0, .int .i64 0] 75)
    have hS1 := Lib.hid (hS0.below hb1)
    have hR1 := Lib.hid (hR0.below hb1)
    have hka := Lib.hid (Holds.new wr 75 #[.int .i64 0, .int .i64 0])
    have hv1 := Lib.hid (own_ne_new hS0.o1)
    have hBk := hS0.sz
    clear hb1 hS0 hR0
    go_wp2_with fail
    generalize wr.alloc (.cells #[.int .i64 0, .int .i64 0] 75) = x1 at hS1 hR1 hka ⊢
    generalize wr.heap.size = ka at hka hv1 hBk ⊢
    have hne1 : ¬ ra + 1 = ka := by omega
    have hne2 : ¬ ka = ra + 1 := by omega
    refine (small_reads x1 g l' hR1.out).mono ?_
    rintro e x2 ⟨hM2, hr2⟩
    cases hz : smallR l' with
    | none =>
      rw [hz] at hr2
      obtain ⟨⟨s, rfl⟩, hj⟩ := hr2
      have hno := Lib.hid (smR_als (show alsR l = none by rw [hals.out]; exact rep_no hrep.out hlt (by rw [alR, hz]; rfl)))
      have hM3 := Lib.hid hM2
      clear hz hM2
      go_wp2_with fail
      exact ⟨rfl, hS1.out.jnk hM3.out hno.out _ hj⟩
    | some p =>
    obtain ⟨za, l2⟩ := p
    rw [hz] at hr2
    obtain ⟨⟨v, rfl, rfl, hza⟩, hR2⟩ := hr2
    have hal := Lib.hid (alR_two hz)
    have hS2 := Lib.hid (hS1.out.call hM2)
    have hka2 := Lib.hid (hM2.holds hka.out (by simp; omega))
    have hR2' := Lib.hid hR2
    clear hza hR2 hz hM2 hS1 hR1 hka
    have z0 := (hka2.out.fact 0 rfl).2
    have fz0 := hka2.out.frozen 0
    go_wp2_with fail
    have hst := Writes.store x2 (M := [some ka]) (p := ⟨ka, 0, none⟩) (by simp) (.int .i64 za)
    have hS3 := Lib.hid (hS2.out.other hst hBk hv1.out (by simp [Value.ownBlock]))
    have hR3 := Lib.hid (hR2'.out.keep hst (fun j hj => by simp at hj; omega))
    have hka3 := Lib.hid (show Holds (x2.setCell ⟨ka, 0, none⟩ (.int .i64 za)) ka _ #[.int .i64 za, .int .i64 0] from hka2.out.store 0 _)
    clear z0 fz0 hst hS2 hR2' hka2
    generalize x2.setCell ⟨ka, 0, none⟩ (.int .i64 za) = x3 at hS3 hR3 hka3 ⊢
    refine (small_reads x3 g l2 hR3.out).mono ?_
    rintro e x4 ⟨hM4, hr4⟩
    cases hz : smallR l2 with
    | none =>
      rw [hz] at hr4
      obtain ⟨⟨s, rfl⟩, hj⟩ := hr4
      have hno := Lib.hid (smR_als (show alsR l = none by rw [hals.out]; exact rep_no hrep.out hlt (by rw [hal.out, hz]; rfl)))
      have hM3 := Lib.hid hM4
      clear hz hM4
      go_wp2_with fail
      exact ⟨rfl, hS3.out.jnk hM3.out hno.out _ hj⟩
    | some p =>
    obtain ⟨zb, l3⟩ := p
    rw [hz] at hr4
    obtain ⟨⟨v, rfl, rfl, hzb⟩, hR4⟩ := hr4
    have hrep2 := Lib.hid (hrep.out.step hlt ⟨za, zb⟩ (some l3) (by rw [hal.out, hz]; rfl))
    have hS4 := hS3.out.call hM4
    have hka4 := hM4.holds hka3.out (by simp; omega)
    have hst := Writes.store x4 (M := [some ka]) (p := ⟨ka, 1, none⟩) (by simp) (.int .i64 zb)
    have hS5 := hS4.other hst hBk hv1.out (by simp [Value.ownBlock])
    have hR5 := hR4.keep hst (fun j hj => by simp at hj; omega)
    have hsz : (x4.setCell ⟨ka, 1, none⟩ (.int .i64 zb)).heap.size = x4.heap.size := by simp [World.setCell]
    have hb6 := below_new (x4.setCell ⟨ka, 1, none⟩ (.int .i64 zb)) (.cells #[.int .i64 za, .int .i64 zb] 75)
    have hS6 := Lib.hid (hS5.below hb6)
    have hR6 := Lib.hid (hR5.below hb6)
    have hcells := Lib.hid (new_cells2 (x4.setCell ⟨ka, 1, none⟩ (.int .i64 zb)) 75 x4.heap.size hsz (.int .i64 za) (.int .i64 zb))
    have hlen := hrep.out.1
    have ho6 := hS6.out.o1
    rw [hlen] at ho6
    have ho6' := Lib.hid ho6
    have hlen' := Lib.hid hlen
    have hbs := Lib.hid (Nat.le_trans hS5.sz hb6.size)
    have hgr : Hid (g < ra + 2) := Lib.hid (by omega)
    have z0 := (hka4.fact 0 rfl).2
    have z1 := (hka4.fact 1 rfl).2
    have fz1 := hka4.frozen 1
    have y0 := (hS4.cell.fact 0 rfl).2
    clear hzb hR4 hz hM4 hS3 hR3 hka3 hal hrep hst hS5 hR5 hb6 hsz ho6 hlen hka4 hS4
    go_wp2_with
      (at_builtin
       go_loud (refine wpList_append_own_at _ rfl (.tmp 17) (.tmp 19) 56 rfl (ra + 2) 75 iA (.agg #[.int .i64 0, .int .i64 0]) 2 16 Try.underlying56 hiA hzA0 hzA1 hzA2 rfl (by omega) v1 k _ rfl ho6'.out ⟨x4.heap.size, 0, none⟩ 1 1 [.int .i64 za, .int .i64 zb] rfl rfl hcells.out (by intro u hu; simp at hu; rcases hu with rfl | rfl <;> rfl) (by unfold maxLen; omega) (by omega) hbs.out ?_)
       intro v3 w5 ho5 hg5 _ _
       obtain ⟨A3, c3, rfl, _, _⟩ := own_rowN ho5
       obtain ⟨q0, fq0, hS7⟩ := hS6.out.app1 (a := ⟨za, zb⟩) hlen'.out.symm rfl ho5 hg5
       have hS8 := Lib.hid hS7
       have hR8 := Lib.hid ((hR6.out.keep (Writes.of_grown hg5 (M := [v1.ownBlock]) (by simp)) (fun j hj => by have := own_low ho6'.out (show some j = v1.ownBlock by simpa using hj); have := hgr.out; omega)).keep (Writes.store w5 (M := [some (ra + 1)]) (p := ⟨ra + 1, 0, none⟩) (by simp) (.slice A3 (k + 1) c3)) (fun j hj => by simp at hj; omega))
       clear ho5 hg5 hS7)
    go_roundw
    case rel => exact ⟨k + 1, _, _, l3, by omega, by go_num, hS8.out, hR8.out, hrep2.out⟩
    case measure => simp [intOf]; omega
  obtain rfl : k = n := by omega
  have halsE := Lib.hid (show alsR l = some (acc, l') by rw [hals.out]; exact hrep.out.end_)
  have hS := Lib.hid hS0
  have hR := Lib.hid hR0
  clear hS0 hR0 hrep hals
  go_wp2_with fail
  refine (bool_reads wr g l' hR.out).mono ?_
  rintro e x2 ⟨hM2, hr2⟩
  cases hz : boolR l' with
  | none =>
    rw [hz] at hr2
    obtain ⟨⟨s, rfl⟩, hj⟩ := hr2
    have hno := Lib.hid (show smR l = none by rw [smR, halsE.out]; simp [hz])
    have hM3 := Lib.hid hM2
    clear hz hM2
    go_wp2_with fail
    exact ⟨rfl, hS.out.jnk hM3.out hno.out _ hj⟩
  | some p =>
  obtain ⟨b, l2⟩ := p
  rw [hz] at hr2
  obtain ⟨⟨v, rfl, rfl⟩, hR2⟩ := hr2
  have hbE := Lib.hid hz
  have hS2 := hS.out.call hM2
  have hst := Writes.store x2 (M := [some (ra + 1)]) (p := ⟨ra + 1, 1, none⟩) (by simp) (.bool b)
  have hS3 := Lib.hid (hS2.self hst (en' := b) (by have := hS2.cell.store 1 (.bool b); simpa using this))
  have hR3 := Lib.hid (hR2.keep hst (fun j hj => by simp at hj; omega))
  have z1 := (hS2.cell.fact 1 rfl).2
  have fz1 := hS2.cell.frozen 1
  clear hz hM2 hS hR hR2 hS2 hst
  go_wp2_with fail
  clear z1 fz1
  generalize x2.setCell ⟨ra + 1, 1, none⟩ (.bool b) = x3 at hS3 hR3 ⊢
  refine (interval_reads x3 g l2 hR3.out).mono ?_
  rintro e x4 ⟨hM4, hr4⟩
  cases hz : ivR l2 with
  | none =>
    rw [hz] at hr4
    obtain ⟨⟨s, rfl⟩, hj⟩ := hr4
    have hno := Lib.hid (show smR l = none by rw [smR, halsE.out]; simp [hbE.out, hz])
    have hM3 := Lib.hid hM4
    clear hz hM4
    go_wp2_with fail
    exact ⟨rfl, hS3.out.jnk hM3.out hno.out _ hj⟩
  | some p =>
  obtain ⟨iv, l3⟩ := p
  rw [hz] at hr4
  obtain ⟨⟨v, rfl, rfl, hiv⟩, hR4⟩ := hr4
  have hiE := Lib.hid hz
  have hS4 := hS3.out.call hM4
  have hst := writes_store234 x4 (ra + 1) (.bool iv.s) (.int .i64 iv.lo) (.int .i64 iv.hi)
  have hS5 := Lib.hid (hS4.self hst (hS4.cell.store234 _ _ _))
  have hR5 := Lib.hid (hR4.keep hst (fun j hj => by simp at hj; omega))
  have z2 := (hS4.cell.fact 2 rfl).2
  have fz2 := hS4.cell.frozen 2
  have z3 := (hS4.cell.fact 3 rfl).2
  have fz3 := hS4.cell.frozen 3
  have z4 := (hS4.cell.fact 4 rfl).2
  have fz4 := hS4.cell.frozen 4
  clear hz hM4 hS3 hR3 hR4 hS4 hst hiv
  go_wp2_with fail
  clear z2 z3 z4 fz2 fz3 fz4
  generalize ((x4.setCell ⟨ra + 1, 2, none⟩ (.bool iv.s)).setCell ⟨ra + 1, 3, none⟩ (.int .i64 iv.lo)).setCell ⟨ra + 1, 4, none⟩ (.int .i64 iv.hi) = x5 at hS5 hR5 ⊢
  refine (count_reads x5 g l3 hR5.out).mono ?_
  rintro e x6 ⟨⟨hM6, hr6⟩, hle⟩
  cases hz : countR l3 with
  | none =>
    rw [hz] at hr6
    obtain ⟨⟨s, rfl⟩, hj⟩ := hr6
    have hno := Lib.hid (show smR l = none by rw [smR, halsE.out]; simp [hbE.out, hiE.out, hz])
    have hM3 := Lib.hid hM6
    clear hz hM6 hle
    go_wp2_with fail
    exact ⟨rfl, hS5.out.jnk hM3.out hno.out _ hj⟩
  | some p =>
  obtain ⟨m, l4⟩ := p
  rw [hz] at hr6
  obtain ⟨⟨v, rfl, rfl⟩, hR6⟩ := hr6
  have hml := hle m l4 hz
  have hmid := Lib.hid (smR_mid halsE.out hbE.out hiE.out hz)
  have hS6 := Lib.hid (hS5.out.call hM6)
  have hR6' := Lib.hid hR6
  have hmb : m ≤ 100000000000 := by obtain ⟨_, _, _, _, _, h5, _⟩ := hR6.cell; omega
  clear hz hM6 hle hml hR6 hS5 hR5 hbE hiE halsE
  go_wp2_with fail
  go_loopw [31] (fun i wr => ∃ k acc2 v2 l', k ≤ m ∧ i = .int .i64 (k : Nat) ∧ SmAt w0 wr g ra (ra + 2) v1 acc b iv.s iv.lo iv.hi v2 acc2 ∧ Rdr wr g (some l') ∧ RepAt nmR l4 m k acc2 (some l')) (fun i _ => m - (intOf i).toNat)
  case atStart => exact ⟨0, [], _, _, by omega, rfl, hS6.out, hR6'.out, RepAt.start _ _ _⟩
  clear hS6 hR6'
  obtain ⟨k, acc2, v2, l', hk, rfl, hS0, hR0, hrep0⟩ := hrel
  have hrep := Lib.hid hrep0
  clear hrep0
  by_cases hlt : k < m
  · have hb1 := below_new wr (.cells #[.string ⟨#[]⟩, .bool false, .int .i64 0, .int .i64 0] 118)
    have hS1 := Lib.hid (hS0.below hb1)
    have hR1 := Lib.hid (hR0.below hb1)
    have hka := Lib.hid (Holds.new wr 118 #[.string ⟨#[]⟩, .bool false, .int .i64 0, .int .i64 0])
    have hv1 := Lib.hid (own_ne_new hS0.o1)
    have hv2 := Lib.hid (own_ne_new hS0.o2)
    have hBk := hS0.sz
    clear hb1 hS0 hR0
    go_wp2_with fail
    generalize wr.alloc (.cells #[.string ⟨#[]⟩, .bool false, .int .i64 0, .int .i64 0] 118) = x1 at hS1 hR1 hka ⊢
    generalize wr.heap.size = ka at hka hv1 hv2 hBk ⊢
    have hne1 : ¬ ra + 1 = ka := by omega
    have hne2 : ¬ ka = ra + 1 := by omega
    refine (text_reads x1 g l' hR1.out).mono ?_
    rintro e x2 ⟨hM2, hr2⟩
    cases hz : textR l' with
    | none =>
      rw [hz] at hr2
      obtain ⟨⟨s, rfl⟩, hj⟩ := hr2
      have hno := Lib.hid (show smR l = none by rw [hmid.out, rep_no hrep.out hlt (by rw [nmR, hz]; rfl)]; rfl)
      have hM3 := Lib.hid hM2
      clear hz hM2
      go_wp2_with fail
      exact ⟨rfl, hS1.out.jnk hM3.out hno.out _ hj⟩
    | some p =>
    obtain ⟨s, l2⟩ := p
    rw [hz] at hr2
    obtain ⟨⟨v, rfl, rfl, hza⟩, hR2⟩ := hr2
    have hal := Lib.hid (nmR_two hz)
    have hS2 := Lib.hid (hS1.out.call hM2)
    have hka2 := Lib.hid (hM2.holds hka.out (by simp; omega))
    have hR2' := Lib.hid hR2
    clear hza hR2 hz hM2 hS1 hR1 hka
    have z0 := (hka2.out.fact 0 rfl).2
    have fz0 := hka2.out.frozen 0
    go_wp2_with fail
    have hst := Writes.store x2 (M := [some ka]) (p := ⟨ka, 0, none⟩) (by simp) (.string (strV s))
    have hS3 := Lib.hid (hS2.out.other hst hBk hv1.out hv2.out)
    have hR3 := Lib.hid (hR2'.out.keep hst (fun j hj => by simp at hj; omega))
    have hka3 := Lib.hid (show Holds (x2.setCell ⟨ka, 0, none⟩ (.string (strV s))) ka _ #[.string (strV s), .bool false, .int .i64 0, .int .i64 0] from hka2.out.store 0 _)
    clear z0 fz0 hst hS2 hR2' hka2
    generalize x2.setCell ⟨ka, 0, none⟩ (.string (strV s)) = x3 at hS3 hR3 hka3 ⊢
    refine (interval_reads x3 g l2 hR3.out).mono ?_
    rintro e x4 ⟨hM4, hr4⟩
    cases hz : ivR l2 with
    | none =>
      rw [hz] at hr4
      obtain ⟨⟨s, rfl⟩, hj⟩ := hr4
      have hno := Lib.hid (show smR l = none by rw [hmid.out, rep_no hrep.out hlt (by rw [hal.out, hz]; rfl)]; rfl)
      have hM3 := Lib.hid hM4
      clear hz hM4
      go_wp2_with fail
      exact ⟨rfl, hS3.out.jnk hM3.out hno.out _ hj⟩
    | some p =>
    obtain ⟨jv, l3⟩ := p
    rw [hz] at hr4
    obtain ⟨⟨v, rfl, rfl, hzb⟩, hR4⟩ := hr4
    have hrep2 := Lib.hid (hrep.out.step hlt ⟨strV s, jv⟩ (some l3) (by rw [hal.out, hz]; rfl))
    have hS4 := hS3.out.call hM4
    have hka4 := hM4.holds hka3.out (by simp; omega)
    have hst := writes_store123 x4 ka (.bool jv.s) (.int .i64 jv.lo) (.int .i64 jv.hi)
    have hS5 := hS4.other hst hBk hv1.out hv2.out
    have hR5 := hR4.keep hst (fun j hj => by simp at hj; omega)
    have hsz : (((x4.setCell ⟨ka, 1, none⟩ (.bool jv.s)).setCell ⟨ka, 2, none⟩ (.int .i64 jv.lo)).setCell ⟨ka, 3, none⟩ (.int .i64 jv.hi)).heap.size = x4.heap.size := by simp [World.setCell]
    have hb6 := below_new (((x4.setCell ⟨ka, 1, none⟩ (.bool jv.s)).setCell ⟨ka, 2, none⟩ (.int .i64 jv.lo)).setCell ⟨ka, 3, none⟩ (.int .i64 jv.hi)) (.cells #[.string (strV s), .bool jv.s, .int .i64 jv.lo, .int .i64 jv.hi] 118)
    have hS6 := Lib.hid (hS5.below hb6)
    have hR6 := Lib.hid (hR5.below hb6)
    have hcells := Lib.hid (new_cells4 (((x4.setCell ⟨ka, 1, none⟩ (.bool jv.s)).setCell ⟨ka, 2, none⟩ (.int .i64 jv.lo)).setCell ⟨ka, 3, none⟩ (.int .i64 jv.hi)) 118 x4.heap.size hsz (.string (strV s)) (.bool jv.s) (.int .i64 jv.lo) (.int .i64 jv.hi))
    have hlen := hrep.out.1
    have ho6 := hS6.out.o2
    rw [hlen] at ho6
    have ho6' := Lib.hid ho6
    have hlen' := Lib.hid hlen
    have hbs := Lib.hid (Nat.le_trans hS5.sz hb6.size)
    have hgr : Hid (g < ra + 2) := Lib.hid (by omega)
    have z0 := (hka4.fact 0 rfl).2
    have z1 := (hka4.fact 1 rfl).2
    have z2 := (hka4.fact 2 rfl).2
    have z3 := (hka4.fact 3 rfl).2
    have fz1 := hka4.frozen 1
    have fz2 := hka4.frozen 2
    have fz3 := hka4.frozen 3
    have y5 := (hS4.cell.fact 5 rfl).2
    clear hzb hR4 hz hM4 hS3 hR3 hka3 hal hrep hst hS5 hR5 hb6 hsz ho6 hlen hka4 hS4
    go_wp2_with
      (at_builtin
       go_loud (refine wpList_append_own_at _ rfl (.tmp 40) (.tmp 42) 59 rfl (ra + 2) 118 iN (.agg #[.string ⟨#[]⟩, .bool false, .int .i64 0, .int .i64 0]) 4 40 Try.underlying59 hiN hzN0 hzN1 hzN2 rfl (by omega) v2 k _ rfl ho6'.out ⟨x4.heap.size, 0, none⟩ 1 1 [.string (strV s), .bool jv.s, .int .i64 jv.lo, .int .i64 jv.hi] rfl rfl hcells.out (by intro u hu; simp at hu; rcases hu with rfl | rfl | rfl | rfl <;> rfl) (by unfold maxLen; omega) (by omega) hbs.out ?_)
       intro v3 w5 ho5 hg5 _ _
       obtain ⟨A3, c3, rfl, _, _⟩ := own_rowN ho5
       obtain ⟨q0, fq0, hS7⟩ := hS6.out.app2 (a := ⟨strV s, jv⟩) hlen'.out.symm rfl ho5 hg5
       have hS8 := Lib.hid hS7
       have hR8 := Lib.hid ((hR6.out.keep (Writes.of_grown hg5 (M := [v2.ownBlock]) (by simp)) (fun j hj => by have := own_low ho6'.out (show some j = v2.ownBlock by simpa using hj); have := hgr.out; omega)).keep (Writes.store w5 (M := [some (ra + 1)]) (p := ⟨ra + 1, 5, none⟩) (by simp) (.slice A3 (k + 1) c3)) (fun j hj => by simp at hj; omega))
       clear ho5 hg5 hS7)
    go_roundw
    case rel => exact ⟨k + 1, _, _, l3, by omega, by go_num, hS8.out, hR8.out, hrep2.out⟩
    case measure => simp [intOf]; omega
  obtain rfl : k = m := by omega
  have hE := Lib.hid (show smR l = some (⟨acc, b, iv, acc2⟩, l') by rw [hmid.out, hrep.out.end_]; rfl)
  have hS := Lib.hid hS0
  have hR := Lib.hid hR0
  clear hrep hmid
  obtain ⟨A1, c1, rfl, _, _⟩ := own_rowN hS0.o1
  obtain ⟨A2, c2, rfl, _, _⟩ := own_rowN hS0.o2
  have z0 := (hS0.cell.fact 0 rfl).2
  have z1 := (hS0.cell.fact 1 rfl).2
  have z2 := (hS0.cell.fact 2 rfl).2
  have z3 := (hS0.cell.fact 3 rfl).2
  have z4 := (hS0.cell.fact 4 rfl).2
  have z5 := (hS0.cell.fact 5 rfl).2
  have y0 := (hS0.zero.fact 0 rfl).2
  have y1 := (hS0.zero.fact 1 rfl).2
  have y2 := (hS0.zero.fact 2 rfl).2
  have y3 := (hS0.zero.fact 3 rfl).2
  have y4 := (hS0.zero.fact 4 rfl).2
  have y5 := (hS0.zero.fact 5 rfl).2
  have f0 := hS0.zero.frozen 0
  have f1 := hS0.zero.frozen 1
  have f2 := hS0.zero.frozen 2
  have f3 := hS0.zero.frozen 3
  have f4 := hS0.zero.frozen 4
  have f5 := hS0.zero.frozen 5
  clear hS0 hR0
  go_wp2_with fail
  have hst := writes_store6 wr ra (.slice A1 acc.length c1) (.bool b) (.bool iv.s) (.int .i64 iv.lo) (.int .i64 iv.hi) (.slice A2 acc2.length c2)
  have hn0 := hS.out.n0
  refine ret_cell1 rfl rfl rfl (hS.out.zero.store6 (.slice A1 acc.length c1) (.bool b) (.bool iv.s) (.int .i64 iv.lo) (.int .i64 iv.hi) (.slice A2 acc2.length c2)) Try.underlying61 Try.sSm (Read.ok (hS.out.M.then_ hst (fun j hj e => by simp at e; omega)) hE.out ⟨_, _, rfl, ?_, ?_⟩ (hR.out.keep hst (fun j hj => by simp at hj; omega)))
  · exact own_base (own_above hS.out.o1 hst (fun j hj => by simp at hj; omega)) (by omega)
  · exact own_base (own_above hS.out.o2 hst (fun j hj => by simp at hj; omega)) (by omega)
end Go.Proofs.Ytimhghmnnibajaa
