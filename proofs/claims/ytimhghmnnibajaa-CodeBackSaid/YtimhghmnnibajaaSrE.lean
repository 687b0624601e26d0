/-
  The walks of the reference's reader (augurref1.Reader): Ival.
-/
import Derived.Test.YtimhghmnnibajaaSrD
namespace Go.Proofs.Ytimhghmnnibajaa
open Go.RowKit

theorem ivR_false {st : Option (List UInt8)} (h : valOf boolR false st = false) : nextOf ivR st = nextOf boolR st ∧ (nextOf ivR st ≠ none → valOf ivR ⟨false, 0, 0⟩ st = ⟨false, 0, 0⟩) := by
  cases st with
  | none => exact ⟨rfl, fun h => absurd rfl h⟩
  | some l =>
    cases hb : boolR l with
    | none => exact ⟨by simp [nextOf, ivR, hb], fun h => by simp [nextOf, ivR, hb] at h⟩
    | some p =>
      obtain ⟨b, l2⟩ := p
      have e : b = false := by simpa [valOf, hb] using h
      subst e
      exact ⟨by simp [nextOf, ivR, hb], fun _ => by simp [valOf, ivR, hb]⟩
theorem ivR_true {st : Option (List UInt8)} (h : valOf boolR false st = true) : nextOf ivR st = nextOf intR (nextOf intR (nextOf boolR st)) ∧
    (nextOf ivR st ≠ none → valOf ivR ⟨false, 0, 0⟩ st = ⟨true, valOf intR 0 (nextOf boolR st), valOf intR 0 (nextOf intR (nextOf boolR st))⟩) := by
  cases st with
  | none => simp [valOf] at h
  | some l =>
    cases hb : boolR l with
    | none => simp [valOf, hb] at h
    | some p =>
      obtain ⟨b, l2⟩ := p
      have e : b = true := by simpa [valOf, hb] using h
      subst e
      cases h1 : intR l2 with
      | none => exact ⟨by simp [nextOf, ivR, hb, h1], fun h => by simp [nextOf, ivR, hb, h1] at h⟩
      | some q =>
        cases h2 : intR q.2 with
        | none => exact ⟨by simp [nextOf, ivR, hb, h1, h2], fun h => by simp [nextOf, ivR, hb, h1, h2] at h⟩
        | some r => exact ⟨by simp [nextOf, ivR, hb, h1, h2], fun _ => by simp [valOf, nextOf, ivR, hb, h1, h2]⟩
/-- What the reference's Ival answers: just the interval, if it does not fail. -/
def TookIv (w : World) (g : Nat) (st : Option (List UInt8)) (e : Ending) (w' : World) : Prop :=
  (∃ i : Iv, e = .returned (.agg #[.bool i.s, .int .i64 i.lo, .int .i64 i.hi]) ∧ (nextOf ivR st ≠ none → valOf ivR ⟨false, 0, 0⟩ st = i)) ∧ Rrd w' g (nextOf ivR st) ∧ Writes [some g] w w'

set_option maxRecDepth 100000 in
set_option maxHeartbeats 2000000 in
theorem rrIv_any (w : World) (g : Nat) (st : Option (List UInt8)) (h : Rrd w g st) :
    Calls Try.prog 73 #[.pointer (some ⟨g, 0, none⟩)] w (TookIv w g st) := by
  have hg1 := h.lt
  have hb1 := (below_new w (.cells #[.bool false, .int .i64 0, .int .i64 0] 58))
  have hb2 := hb1.trans ((below_new (w.alloc (.cells #[.bool false, .int .i64 0, .int .i64 0] 58)) (.cells #[.bool false, .int .i64 0, .int .i64 0] 58)).mono hb1.size)
  have ha := Lib.hid ((Holds.new w 58 #[.bool false, .int .i64 0, .int .i64 0]).alloc (.cells #[.bool false, .int .i64 0, .int .i64 0] 58))
  have hc0 := Holds.new (w.alloc (.cells #[.bool false, .int .i64 0, .int .i64 0] 58)) 58 #[.bool false, .int .i64 0, .int .i64 0]
  rw [show (w.alloc (.cells #[.bool false, .int .i64 0, .int .i64 0] 58)).heap.size = w.heap.size + 1 by simp] at hc0
  have hc := Lib.hid hc0
  have hr := Lib.hid (h.below hb2)
  have hM := Lib.hid (Writes.of_below hb2 [some g])
  clear hb1 hb2 h hc0
  go_enter Try.func73, Try.ntmps73
  go_wp2_with fail
  generalize (w.alloc (.cells #[.bool false, .int .i64 0, .int .i64 0] 58)).alloc (.cells #[.bool false, .int .i64 0, .int .i64 0] 58) = w1 at ha hc hr hM ⊢
  generalize hra0 : w.heap.size = ra at ha hc hg1 ⊢
  have hra := Lib.hid hra0
  clear hra0
  refine (rrBool_any w1 g st hr.out).mono ?_
  rintro e w2 ⟨rfl, hR0, hM2⟩
  have ha2 := Lib.hid (hM2.holds ha.out (by simp; omega))
  have hc2 := Lib.hid (hM2.holds hc.out (by simp; omega))
  have hM3 := Lib.hid (hM.out.trans hM2)
  have hR := Lib.hid hR0
  clear hM2 ha hc hM hr hR0
  have z0 := (hc2.out.fact 0 rfl).2
  have z1 := (hc2.out.fact 1 rfl).2
  have z2 := (hc2.out.fact 2 rfl).2
  have y0 := (ha2.out.fact 0 rfl).2
  have y1 := (ha2.out.fact 1 rfl).2
  have y2 := (ha2.out.fact 2 rfl).2
  have fz0 := hc2.out.frozen 0
  have fy0 := ha2.out.frozen 0
  have fy1 := ha2.out.frozen 1
  have fy2 := ha2.out.frozen 2
  cases hb : valOf boolR false st with
  | false =>
    obtain ⟨h1, h2⟩ := ivR_false hb
    have h1 := Lib.hid h1
    have h2 := Lib.hid h2
    rename_i u1 u2
    clear u1 u2 hb
    go_wp2_with fail
    have hs := writes_store3 w2 ra (.bool false) (.int .i64 0) (.int .i64 0)
    exact ret_cell1 rfl rfl rfl (Holds.store3 ha2.out (.bool false) (.int .i64 0) (.int .i64 0)) Try.underlying58 Try.sIv ⟨⟨⟨false, 0, 0⟩, rfl, h2.out⟩, by rw [h1.out]; exact hR.out.keep hs (fun k hk => by simp at hk; omega), hM3.out.then_ hs fun k hk hm => by simp at hm; have := hra.out; omega⟩
  | true =>
    obtain ⟨h1, h2⟩ := ivR_true hb
    have h1 := Lib.hid h1
    have h2 := Lib.hid h2
    rename_i u1 u2
    clear u1 u2 hb
    generalize nextOf boolR st = st1 at hR h1 h2
    go_wp2_with fail
    have hst := Writes.store w2 (M := [some (ra + 1)]) (p := ⟨ra + 1, 0, none⟩) (by simp) (.bool true)
    have hR3 := hR.out.keep hst (fun k hk => by simp at hk; omega)
    have hc3 := hc2.out.store 0 (.bool true)
    have ha3 := hst.holds ha2.out (by simp)
    have hM4 := Lib.hid (hM3.out.then_ hst (M' := [some (ra + 1)]) (fun k hk hm => by simp at hm; have := hra.out; omega))
    clear z0 z1 z2 y0 y1 y2 fz0 fy0 fy1 fy2 hst hR hc2 ha2 hM3
    generalize w2.setCell ⟨ra + 1, 0, none⟩ (.bool true) = w3 at hR3 hc3 ha3 hM4 ⊢
    refine (rrInt_any w3 g st1 hR3).mono ?_
    rintro e w4 ⟨rfl, hR0, hMx⟩
    have hc4 := Lib.hid (hMx.holds hc3 (by simp; omega))
    have ha4 := Lib.hid (hMx.holds ha3 (by simp; omega))
    have hM5 := Lib.hid (hM4.out.trans hMx)
    have hR4 := Lib.hid hR0
    clear hR3 hc3 ha3 hM4 hMx hR0
    have q1 := (hc4.out.fact 1 rfl).2
    have fq1 := hc4.out.frozen 1
    generalize valOf intR 0 st1 = z1 at h2 ⊢
    generalize nextOf intR st1 = st2 at hR4 h1 h2
    go_wp2_with fail
    have hst := Writes.store w4 (M := [some (ra + 1)]) (p := ⟨ra + 1, 1, none⟩) (by simp) (.int .i64 z1)
    have hR5 := hR4.out.keep hst (fun k hk => by simp at hk; omega)
    have hc5 := hc4.out.store 1 (.int .i64 z1)
    have ha5 := hst.holds ha4.out (by simp)
    have hM6 := Lib.hid (hM5.out.then_ hst (M' := [some (ra + 1)]) (fun k hk hm => by simp at hm; have := hra.out; omega))
    clear q1 fq1 hst hR4 hc4 ha4 hM5
    generalize w4.setCell ⟨ra + 1, 1, none⟩ (.int .i64 z1) = w5 at hR5 hc5 ha5 hM6 ⊢
    refine (rrInt_any w5 g st2 hR5).mono ?_
    rintro e w6 ⟨rfl, hR0, hMx⟩
    have hc6 := Lib.hid (hMx.holds hc5 (by simp; omega))
    have ha6 := Lib.hid (hMx.holds ha5 (by simp; omega))
    have hM7 := Lib.hid (hM6.out.trans hMx)
    have hR6 := Lib.hid hR0
    clear hR5 hc5 ha5 hM6 hMx hR0
    generalize valOf intR 0 st2 = z2 at h2 ⊢
    have q0 := (hc6.out.fact 0 rfl).2
    have q1 := (hc6.out.fact 1 rfl).2
    have q2 := (hc6.out.fact 2 rfl).2
    have p0 := (ha6.out.fact 0 rfl).2
    have p1 := (ha6.out.fact 1 rfl).2
    have p2 := (ha6.out.fact 2 rfl).2
    have fq2 := hc6.out.frozen 2
    have fp0 := ha6.out.frozen 0
    have fp1 := ha6.out.frozen 1
    have fp2 := ha6.out.frozen 2
    go_wp2_with fail
    have hst := Writes.store w6 (M := [some (ra + 1)]) (p := ⟨ra + 1, 2, none⟩) (by simp) (.int .i64 z2)
    have hR7 := hR6.out.keep hst (fun k hk => by simp at hk; omega)
    have ha7 := hst.holds ha6.out (by simp)
    have hM8 := hM7.out.then_ hst (M' := [some (ra + 1)]) (fun k hk hm => by simp at hm; have := hra.out; omega)
    generalize w6.setCell ⟨ra + 1, 2, none⟩ (.int .i64 z2) = w7 at hR7 ha7 hM8 ⊢
    have hs := writes_store3 w7 ra (.bool true) (.int .i64 z1) (.int .i64 z2)
    exact ret_cell1 rfl rfl rfl (Holds.store3 ha7 (.bool true) (.int .i64 z1) (.int .i64 z2)) Try.underlying58 Try.sIv ⟨⟨⟨true, z1, z2⟩, rfl, h2.out⟩, by rw [h1.out]; exact hR7.keep hs (fun k hk => by simp at hk; omega), hM8.then_ hs fun k hk hm => by simp at hm; have := hra.out; omega⟩
end Go.Proofs.Ytimhghmnnibajaa
