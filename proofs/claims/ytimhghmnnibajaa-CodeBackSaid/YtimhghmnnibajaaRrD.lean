/-
  The walks of the reference's reader (augurref1.Reader): Alarms.
-/
import Derived.Test.YtimhghmnnibajaaRrP
namespace Go.Proofs.Ytimhghmnnibajaa
open Go.RowKit

theorem Try.infoAl : (Try.prog.info? 75).map (fun i => (i.zero, i.size, i.bytes)) = some (some (.agg #[.int .i64 0, .int .i64 0]), 2, 16) := by kernel_rfl
theorem Rrd.keep {w w' : World} {g : Nat} {st : Option (List UInt8)} {M : List (Option Nat)} (h : Rrd w g st) (hM : Writes M w w') (hk : ∀ k, some k ∈ M → g < k) : Rrd w' g st := by
  obtain ⟨A, n, c, h1, h2, h3⟩ := h
  refine ⟨A, n, c, hM.holds h1 (fun e => by have := hk g e; omega), h2, fun l e => ?_⟩
  obtain ⟨e1, e2, e3, e4⟩ := h3 l e
  refine ⟨e1, e2, (hM.row e3 (Nat.le_refl _) fun hne hm => ?_).more hM.size, e4⟩
  obtain ⟨b, off, rfl, _⟩ := e3 hne
  have h5 := hk b hm
  have h6 := e4 (by rintro rfl; exact hne rfl) _ rfl
  simp only at h6
  omega
theorem Rrd.lt {w : World} {g : Nat} {st : Option (List UInt8)} (h : Rrd w g st) : g < w.heap.size := by
  obtain ⟨A, n, c, h1, _⟩ := h
  exact h1.lt
/-- What Alarms answers. -/
def TookAls (w : World) (g : Nat) (st : Option (List UInt8)) (e : Ending) (w' : World) : Prop :=
  ∃ v, e = .returned v ∧ w'.ownsRow w.heap.size 75 2 v (valOf alsR [] st).length ((valOf alsR [] st).flatMap Al.cells) ∧ Rrd w' g (nextOf alsR st) ∧ Writes [some g] w w'
theorem TookAls.no {w w' : World} {g : Nat} {st : Option (List UInt8)} (hr : st.bind alsR = none) (hR : Rrd w' g none) (hM : Writes [some g] w w') : TookAls w g st (.returned (.slice none 0 0)) w' := by
  have h1 : valOf alsR [] st = [] := by simp [valOf, hr]
  have h2 : nextOf alsR st = none := by
    cases st with
    | none => rfl
    | some l =>
      have : alsR l = none := hr
      simp [nextOf, this]
  exact ⟨_, rfl, by rw [h1]; exact World.ownsRow_nil _ _ _ _, by rw [h2]; exact hR, hM⟩
theorem num_none {st : Option (List UInt8)} (h : nextOf numR st = none) : valOf numR 0 st = 0 ∧ st.bind numR = none := by
  cases st with
  | none => exact ⟨rfl, rfl⟩
  | some l => cases hn : numR l with
    | none => exact ⟨by simp [valOf, hn], by simpa using hn⟩
    | some p => simp [nextOf, hn] at h
theorem num_some {st : Option (List UInt8)} {l' : List UInt8} (h : nextOf numR st = some l') : ∃ l, st = some l ∧ numR l = some (valOf numR 0 st, l') := by
  cases st with
  | none => simp [nextOf] at h
  | some l => cases hn : numR l with
    | none => simp [nextOf, hn] at h
    | some p =>
      simp [nextOf, hn] at h
      refine ⟨l, rfl, ?_⟩
      simp only [valOf, Option.bind_some, hn, Option.map_some, Option.getD_some]
      rw [← h]
theorem als_none {st : Option (List UInt8)} (h : st.bind numR = none) : st.bind alsR = none := by
  cases st with
  | none => rfl
  | some l =>
    have : numR l = none := h
    simp [alsR, countR, this]

set_option maxRecDepth 100000 in
set_option maxHeartbeats 4000000 in
theorem rrAls_any (w0 : World) (g : Nat) (st : Option (List UInt8)) (h : Rrd w0 g st) :
    Calls Try.prog 72 #[.pointer (some ⟨g, 0, none⟩)] w0 (TookAls w0 g st) := by
  obtain ⟨iA, hiA, hzA0, hzA1, hzA2⟩ := info_parts Try.infoAl
  have hlt := valNum_lt st
  have hgw := h.lt
  go_enter Try.func72, Try.ntmps72
  go_wp2_with fail
  refine (rrNum_any _ g st h).mono ?_
  rintro e w2 ⟨rfl, hR0, hM0⟩
  obtain ⟨A, m, c, c0, c1, f0, f1, hh0, hm, hl⟩ := hR0.cells
  have hh := Lib.hid hh0
  have hM := Lib.hid hM0
  have hR := Lib.hid hR0
  clear hM0 hh0 hR0
  cases hst : nextOf numR st with
  | none =>
    obtain ⟨hn0, hno0⟩ := num_none hst
    have hno := Lib.hid (als_none hno0)
    have hR1 : Hid (Rrd w2 g none) := Lib.hid (hst ▸ hR.out)
    rw [hst] at c1
    rw [hn0]
    clear hl hR hn0 hlt hst hno0 h
    go_wp2_with fail
    go_loopw [4, 5] (fun l i wr => l = .slice none 0 0 ∧ i = .int .u64 0 ∧ Hid (wr = w2)) (fun _ _ _ => 0)
    case atStart => exact ⟨rfl, rfl, Lib.hid rfl⟩
    obtain ⟨rfl, rfl, hwr⟩ := hrel
    obtain rfl := hwr.out
    go_wp2_with fail
    go_ret
    exact TookAls.no hno.out hR1.out hM.out
  | some l1 =>
  obtain ⟨l, hl1, hn1⟩ := num_some hst
  obtain ⟨hl0, hc, _, _⟩ := hl l1 hst
  have hl2 := Lib.hid hl0
  have hn2 := Lib.hid hn1
  have hst1 := Lib.hid hl1
  have hR1 : Hid (Rrd w2 g (some l1)) := Lib.hid (hst ▸ hR.out)
  rw [hst] at c1
  clear hl hR hst hl1 hn1 hl0 h
  generalize valOf numR 0 st = n at hlt hn2 ⊢
  by_cases hle : n ≤ m
  case neg =>
    have hno : Hid (st.bind alsR = none) := Lib.hid (by
      rw [hst1.out]
      simp only [Option.bind_some, alsR, countR, hn2.out]
      rw [if_neg (by rw [hl2.out]; exact hle)]
      rfl)
    have hR2 : Hid (Rrd (w2.setCell ⟨g, 1, none⟩ (.bool true)) g none) := Lib.hid (Rrd.fail hh.out hm)
    have hM2 : Hid (Writes [some g] w0 (w2.setCell ⟨g, 1, none⟩ (.bool true))) := Lib.hid (hM.out.trans (Writes.store w2 (by simp) _))
    have c1b : (w2.setCell ⟨g, 1, none⟩ (.bool true)).cell? ⟨g, 1, none⟩ = some (.bool true) := by
      obtain ⟨A, m, c, _, h1, _⟩ := hR2.out.cells
      exact h1
    go_wp2_with fail
    clear c1 c0 f0 f1
    generalize w2.setCell ⟨g, 1, none⟩ (.bool true) = w3 at hR2 hM2 c1b ⊢
    go_loopw [4, 5] (fun l i wr => l = .slice none 0 0 ∧ i = .int .u64 0 ∧ Hid (wr = w3)) (fun _ _ _ => 0)
    case atStart => exact ⟨rfl, rfl, Lib.hid rfl⟩
    obtain ⟨rfl, rfl, hwr⟩ := hrel
    obtain rfl := hwr.out
    have hn0 : 0 < n := by omega
    go_wp2_with fail
    go_ret
    exact TookAls.no hno.out hR2.out hM2.out
  have hals : Hid (alsR l = rep alR n l1) := Lib.hid (by
    simp only [alsR, countR, hn2.out, Option.bind_some]
    rw [if_pos (by rw [hl2.out]; exact hle)]
    rfl)
  have hdec : decide (m < n) = false := by simp; omega
  go_wp2_with fail
  clear c0 c1 f0 f1
  go_loopw [4, 5] (fun x i wr => ∃ k acc st', k ≤ n ∧ i = .int .u64 (k : Nat) ∧ wr.ownsRow w0.heap.size 75 2 x k (acc.flatMap Al.cells) ∧ Rrd wr g st' ∧ Writes [some g] w0 wr ∧ RepAt alR l1 n k acc st') (fun _ i _ => n - (intOf i).toNat)
  case atStart => exact ⟨0, [], _, by omega, rfl, World.ownsRow_nil _ _ _ _, hR1.out, hM.out, RepAt.start _ _ _⟩
  clear hR1 hM hh
  obtain ⟨k, acc, st', hk, rfl, ho0, hR0, hM0, hrep0⟩ := hrel
  obtain ⟨A', m', c', d0, d1, e0, e1, _, _, _⟩ := hR0.cells
  have ho := Lib.hid ho0
  have hR := Lib.hid hR0
  have hM := Lib.hid hM0
  have hrep := Lib.hid hrep0
  clear ho0 hR0 hM0 hrep0
  cases st' with
  | none =>
    have hno : Hid (st.bind alsR = none) := Lib.hid (by rw [hst1.out]; simpa [hals.out] using hrep.out.none_)
    by_cases hkn : k < n
    · go_wp2_with fail
      go_ret
      exact TookAls.no hno.out hR.out hM.out
    · go_wp2_with fail
      go_ret
      exact TookAls.no hno.out hR.out hM.out
  | some l' =>
    by_cases hkn : k < n
    · go_wp2_with fail
      refine (rrSmall_any _ g (some l') hR.out).mono ?_
      rintro e w3 ⟨rfl, hR3, hM3⟩
      have hR3 := Lib.hid hR3
      have hM3 := Lib.hid hM3
      go_wp2_with fail
      refine (rrSmall_any _ g _ hR3.out).mono ?_
      rintro e w4 ⟨rfl, hR4, hM4⟩
      have hR4 := Lib.hid hR4
      have hM4 := Lib.hid (hM3.out.trans hM4)
      have hrep2 := Lib.hid (hrep.out.step hkn _ _ (alR_eq l'))
      generalize valOf smallR 0 (some l') = za at hrep2 ⊢
      generalize valOf smallR 0 (nextOf smallR (some l')) = zb at hrep2 ⊢
      generalize nextOf smallR (nextOf smallR (some l')) = st2 at hrep2 hR4
      have hvo : u4.ownBlock = none ∨ u4.ownBlock ∉ [some g] := by
        by_cases hn : u4.ownBlock = none
        · exact .inl hn
        · refine .inr fun e => ?_
          simp only [List.mem_cons, List.mem_nil_iff, or_false] at e
          have := own_low ho.out e.symm
          omega
      have ho4 := Lib.hid (hM4.out.own ho.out hvo)
      have hM5 := Lib.hid (hM.out.trans hM4.out)
      clear hvo
      have hcells : ∀ (w4 : World) (za zb : Int) (j : Nat) (u : Value), [Value.int .i64 za, .int .i64 zb][j]? = some u → (w4.alloc (.cells #[.int .i64 za, .int .i64 zb] 75)).cell? ((⟨w4.heap.size, 0, none⟩ : Addr).add j) = some u := fun w4 za zb j u hj => by
        have h9 := (Holds.new w4 75 #[.int .i64 za, .int .i64 zb]).cell j
        have hadd : (⟨w4.heap.size, 0, none⟩ : Addr).add j = ⟨w4.heap.size, j, none⟩ := by unfold Addr.add; split <;> simp_all
        rw [hadd, h9]
        simpa using hj
      have hcells := Lib.hid hcells
      have hw0s := hM5.out.size
      go_wp2_with (at_builtin
                   go_loud (refine wpList_append_own_at _ rfl (.tmp 37) (.tmp 41) 56 rfl w0.heap.size 75 iA (.agg #[.int .i64 0, .int .i64 0]) 2 16 Try.underlying56 hiA hzA0 hzA1 hzA2 rfl (by omega) u4 k _ rfl (own_below ho4.out (below_new _ _)) ⟨w4.heap.size, 0, none⟩ 1 1 [.int .i64 za, .int .i64 zb] rfl rfl (hcells.out w4 za zb) (by intro u hu; simp at hu; rcases hu with rfl | rfl <;> rfl) (by unfold maxLen; omega) (by omega) (by simp; omega) ?_)
                   intro v3 w5 ho5 hg hnil hat)
      go_roundw
      case rel =>
        have hMa : Writes [u4.ownBlock] w4 w5 := (Writes.alloc _ _ _).trans (Writes.of_grown hg (by simp))
        have hlow : ∀ j, some j ∈ [u4.ownBlock] → w0.heap.size ≤ j := fun j hj => own_low ho4.out (by simpa using hj)
        refine ⟨k + 1, _, st2, by omega, by go_num, ?_, hR4.out.keep hMa (fun j hj => Nat.lt_of_lt_of_le hgw (hlow j hj)), hM5.out.then_ hMa (fun j hj e => by have := hlow j e; omega), hrep2.out⟩
        rw [List.flatMap_append]
        simpa [Al.cells] using ho5
      case measure => simp [intOf]; omega
    · obtain rfl : k = n := by omega
      have hend := hrep.out.end_
      have hyes : Hid (valOf alsR [] st = acc ∧ nextOf alsR st = some l') := Lib.hid (by
        rw [hst1.out]
        simp [valOf, nextOf, hals.out, hend])
      have hlen := hrep.out.1
      have hlen := Lib.hid hlen
      clear hend
      go_wp2_with fail
      go_ret
      refine ⟨_, rfl, ?_, by rw [hyes.out.2]; exact hR.out, hM.out⟩
      rw [hyes.out.1, hlen.out]
      exact ho.out
end Go.Proofs.Ytimhghmnnibajaa
