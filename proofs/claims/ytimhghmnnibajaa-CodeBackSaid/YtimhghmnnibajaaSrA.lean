/-
  The walks of package code's reader, below its calls that recover: interval.
-/
import Derived.Test.YtimhghmnnibajaaRrD
import Derived.Test.YtimhghmnnibajaaRqB
namespace Go.Proofs.Ytimhghmnnibajaa
open Go.RowKit

/-- The end of a function whose result is a struct in memory. -/
theorem ret_cell1 {fn : Func} {p : Tmp} {ty : TypeId} {R : Ending → World → Prop} {a : Act} {w : World} {g : Nat} {t : TypeId} {cs : Array Value} {fs : Array Field} (h : fn.results = #[.cell p ty]) (hd0 : a.defers = []) (hp : a.tmps.getD p undef = .pointer (some ⟨g, 0, none⟩))
    (hg : Holds w g t cs) (hu : Try.prog.underlying ty = some (.struct fs)) (hi : (Try.prog.info? ty).map (·.size) = some cs.size)
    (hR : R (.returned (.agg cs)) w) : bodyPost Try.prog fn R .ret a w := by
  refine bodyPost_ret_by (v := .agg cs) ?_ hd0 hR
  have hp' : a.tmps[p]?.getD undef = .pointer (some ⟨g, 0, none⟩) := by simpa [Array.getD_eq_getD_getElem?] using hp
  simp [results, h, hp', asAddr, run_loadVar_row w g t ty cs (0, 0) _ hg hu rfl hi]
theorem Try.sIv : (Try.prog.info? 58).map (·.size) = some 3 := by kernel_rfl
theorem Jnk.keep {w w' : World} {g : Nat} {M : List (Option Nat)} (h : Jnk w g) (hM : Writes M w w') (hk : some g ∉ M) : Jnk w' g := by
  obtain ⟨A, n, c, h1, h2⟩ := h
  exact ⟨A, n, c, hM.holds h1 hk, h2⟩
theorem Rdr.lt {w : World} {g : Nat} {st : Option (List UInt8)} (h : Rdr w g st) : g < w.heap.size := by
  obtain ⟨A, n, c, h1, _⟩ := h
  exact h1.lt
theorem Holds.store3 {w : World} {g : Nat} {t : TypeId} {a b c : Value} (h : Holds w g t #[a, b, c]) (x y z : Value) : Holds (((w.setCell ⟨g, 0, none⟩ x).setCell ⟨g, 1, none⟩ y).setCell ⟨g, 2, none⟩ z) g t #[x, y, z] := by
  have := ((h.store 0 x).store 1 y).store 2 z
  simpa using this
theorem writes_store3 (w : World) (g : Nat) (x y z : Value) : Writes [some g] w (((w.setCell ⟨g, 0, none⟩ x).setCell ⟨g, 1, none⟩ y).setCell ⟨g, 2, none⟩ z) :=
  ((Writes.store w (p := ⟨g, 0, none⟩) (by simp) x).trans (Writes.store _ (p := ⟨g, 1, none⟩) (by simp) y)).trans (Writes.store _ (p := ⟨g, 2, none⟩) (by simp) z)
set_option maxRecDepth 100000 in
set_option maxHeartbeats 2000000 in
theorem interval_reads (w : World) (g : Nat) (l : List UInt8) (h : Rdr w g (some l)) :
    Calls Try.prog 87 #[.pointer (some ⟨g, 0, none⟩)] w (Read w g (fun _ (i : Iv) v => v = .agg #[.bool i.s, .int .i64 i.lo, .int .i64 i.hi] ∧ i.ok) (ivR l)) := by
  have hgl := h.lt
  have hb1 := (below_new w (.cells #[.bool false, .int .i64 0, .int .i64 0] 58))
  have hb2 := hb1.trans ((below_new (w.alloc (.cells #[.bool false, .int .i64 0, .int .i64 0] 58)) (.cells #[.bool false, .int .i64 0, .int .i64 0] 58)).mono hb1.size)
  have ha := Lib.hid ((Holds.new w 58 #[.bool false, .int .i64 0, .int .i64 0]).alloc (.cells #[.bool false, .int .i64 0, .int .i64 0] 58))
  have hc := Holds.new (w.alloc (.cells #[.bool false, .int .i64 0, .int .i64 0] 58)) 58 #[.bool false, .int .i64 0, .int .i64 0]
  rw [show (w.alloc (.cells #[.bool false, .int .i64 0, .int .i64 0] 58)).heap.size = w.heap.size + 1 by simp] at hc
  have hc := Lib.hid hc
  rename_i hc'
  clear hc'
  have hr := Lib.hid (h.below hb2)
  have hM := Lib.hid (Writes.of_below hb2 [some g])
  have hs1 := hb1.size
  have hg1 : g < w.heap.size := hgl
  clear hb1 hb2 h hs1 hgl
  go_enter Try.func87, Try.ntmps87
  go_wp2_with fail
  generalize (w.alloc (.cells #[.bool false, .int .i64 0, .int .i64 0] 58)).alloc (.cells #[.bool false, .int .i64 0, .int .i64 0] 58) = w1 at ha hc hr hM ⊢
  generalize hra : w.heap.size = ra at ha hc hg1 ⊢
  have hra := Lib.hid (Nat.le_of_eq hra)
  rename_i hra'
  clear hra'
  have hz : Hid (ra + 1 ≠ ra) := Lib.hid (by omega)
  refine (bool_reads w1 g l hr.out).mono ?_
  rintro e w2 ⟨hM2, hr2⟩
  have ha2 := Lib.hid (hM2.holds ha.out (by simp; omega))
  have hc2 := Lib.hid (hM2.holds hc.out (by simp; omega))
  have hM2' := Lib.hid (hM.out.trans hM2)
  clear hM2 ha hc hM hr
  cases hbv : boolR l with
  | none =>
    rw [hbv] at hr2
    obtain ⟨⟨s, rfl⟩, hj⟩ := hr2
    have hno := Lib.hid (show ivR l = none by rw [ivR, hbv]; rfl)
    clear hbv
    go_wp2_with fail
    exact ⟨rfl, Read.no hM2'.out hno.out _ hj⟩
  | some p =>
    obtain ⟨b, l2⟩ := p
    rw [hbv] at hr2
    obtain ⟨⟨v, rfl, rfl⟩, hR⟩ := hr2
    have hR := Lib.hid hR
    rename_i hR'
    clear hR'
    have z0 := (hc2.out.fact 0 rfl).2
    have z1 := (hc2.out.fact 1 rfl).2
    have z2 := (hc2.out.fact 2 rfl).2
    have y0 := (ha2.out.fact 0 rfl).2
    have y1 := (ha2.out.fact 1 rfl).2
    have y2 := (ha2.out.fact 2 rfl).2
    have fz0 := hc2.out.frozen 0
    have fz1 := hc2.out.frozen 1
    have fz2 := hc2.out.frozen 2
    have fy0 := ha2.out.frozen 0
    have fy1 := ha2.out.frozen 1
    have fy2 := ha2.out.frozen 2
    cases b with
    | false =>
      have hyes := Lib.hid (show ivR l = some (⟨false, 0, 0⟩, l2) by rw [ivR, hbv]; rfl)
      clear hbv
      go_wp2_with fail
      have hst := Writes.store w2 (M := [some (ra + 1)]) (p := ⟨ra + 1, 0, none⟩) (by simp) (.bool false)
      have hR3 := hR.out.keep hst (fun k hk => by simp at hk; omega)
      have ha3 := hst.holds ha2.out (by simp)
      have hM3 := hM2'.out.then_ hst (M' := [some (ra + 1)]) (fun k hk hm => by simp at hm; have := hra.out; omega)
      generalize w2.setCell ⟨ra + 1, 0, none⟩ (.bool false) = w3 at hR3 ha3 hM3 ⊢
      have hW := Holds.store3 ha3 (.bool false) (.int .i64 0) (.int .i64 0)
      have hs := writes_store3 w3 ra (.bool false) (.int .i64 0) (.int .i64 0)
      exact ret_cell1 rfl rfl rfl hW Try.underlying58 Try.sIv (Read.ok (hM3.then_ hs fun k hk hm => by simp at hm; have := hra.out; omega) hyes.out ⟨rfl, ⟨by simp, by simp⟩, ⟨by simp, by simp⟩⟩ (hR3.keep hs fun k hk => by simp at hk; omega))
    | true =>
      have hyes := Lib.hid (show ivR l = (intR l2).bind fun q => (intR q.2).map fun r => (⟨true, q.1, r.1⟩, r.2) by rw [ivR, hbv]; rfl)
      clear hbv
      go_wp2_with fail
      have hst := Writes.store w2 (M := [some (ra + 1)]) (p := ⟨ra + 1, 0, none⟩) (by simp) (.bool true)
      have hR3 := hR.out.keep hst (fun k hk => by simp at hk; omega)
      have hc3 := hc2.out.store 0 (.bool true)
      have ha3 := hst.holds ha2.out (by simp)
      have hM3 := Lib.hid (hM2'.out.then_ hst (M' := [some (ra + 1)]) (fun k hk hm => by simp at hm; have := hra.out; omega))
      clear z0 z1 z2 y0 y1 y2 fz0 fz1 fz2 fy0 fy1 fy2 hst hR hc2 ha2 hM2'
      generalize w2.setCell ⟨ra + 1, 0, none⟩ (.bool true) = w3 at hR3 hc3 ha3 hM3 ⊢
      refine (int_reads w3 g l2 hR3).mono ?_
      rintro e w4 ⟨hM4, hr4⟩
      have hc4 := Lib.hid (hM4.holds hc3 (by simp; omega))
      have ha4 := Lib.hid (hM4.holds ha3 (by simp; omega))
      have hM4' := Lib.hid (hM3.out.trans hM4)
      clear hR3 hc3 ha3 hM3 hM4
      cases hi1 : intR l2 with
      | none =>
        rw [hi1] at hr4
        obtain ⟨⟨s, rfl⟩, hj⟩ := hr4
        have hno := Lib.hid (show ivR l = none by rw [hyes.out, hi1]; rfl)
        clear hi1
        go_wp2_with fail
        exact ⟨rfl, Read.no hM4'.out hno.out _ hj⟩
      | some p =>
        obtain ⟨z1, l3⟩ := p
        rw [hi1] at hr4
        obtain ⟨⟨v, rfl, rfl, hlo⟩, hR⟩ := hr4
        have hlo' := Lib.hid hlo
        clear hlo
        have hR' := Lib.hid hR
        clear hR
        have hyes2 := Lib.hid (show ivR l = (intR l3).map fun r => (⟨true, z1, r.1⟩, r.2) by rw [hyes.out, hi1]; rfl)
        clear hi1
        have q1 := (hc4.out.fact 1 rfl).2
        have fq1 := hc4.out.frozen 1
        go_wp2_with fail
        have hst := Writes.store w4 (M := [some (ra + 1)]) (p := ⟨ra + 1, 1, none⟩) (by simp) (.int .i64 z1)
        have hR5 := hR'.out.keep hst (fun k hk => by simp at hk; omega)
        have hc5 := hc4.out.store 1 (.int .i64 z1)
        have ha5 := hst.holds ha4.out (by simp)
        have hM5 := Lib.hid (hM4'.out.then_ hst (M' := [some (ra + 1)]) (fun k hk hm => by simp at hm; have := hra.out; omega))
        clear q1 fq1 hst hR' hc4 ha4 hM4'
        generalize w4.setCell ⟨ra + 1, 1, none⟩ (.int .i64 z1) = w5 at hR5 hc5 ha5 hM5 ⊢
        refine (int_reads w5 g l3 hR5).mono ?_
        rintro e w6 ⟨hM6, hr6⟩
        have hc6 := Lib.hid (hM6.holds hc5 (by simp; omega))
        have ha6 := Lib.hid (hM6.holds ha5 (by simp; omega))
        have hM6' := Lib.hid (hM5.out.trans hM6)
        clear hR5 hc5 ha5 hM5 hM6
        cases hi2 : intR l3 with
        | none =>
          rw [hi2] at hr6
          obtain ⟨⟨s, rfl⟩, hj⟩ := hr6
          have hno := Lib.hid (show ivR l = none by rw [hyes2.out, hi2]; rfl)
          clear hi2
          go_wp2_with fail
          exact ⟨rfl, Read.no hM6'.out hno.out _ hj⟩
        | some p =>
          obtain ⟨z2, l4⟩ := p
          rw [hi2] at hr6
          obtain ⟨⟨v, rfl, rfl, hhi⟩, hR⟩ := hr6
          have hhi' := Lib.hid hhi
          clear hhi
          have hR' := Lib.hid hR
          clear hR
          have hyes3 := Lib.hid (show ivR l = some (⟨true, z1, z2⟩, l4) by rw [hyes2.out, hi2]; rfl)
          clear hi2
          have q0 := (hc6.out.fact 0 rfl).2
          have q1 := (hc6.out.fact 1 rfl).2
          have q2 := (hc6.out.fact 2 rfl).2
          have p0 := (ha6.out.fact 0 rfl).2
          have p1 := (ha6.out.fact 1 rfl).2
          have p2 := (ha6.out.fact 2 rfl).2
          have fq2 := hc6.out.frozen 2
          have fp0 := ha6.out.frozen 0
          have fp1 := ha6.out.frozen 1
          have fp2 := ha6.out.frozen 2
          go_wp2_with fail
          have hst := Writes.store w6 (M := [some (ra + 1)]) (p := ⟨ra + 1, 2, none⟩) (by simp) (.int .i64 z2)
          have hR7 := hR'.out.keep hst (fun k hk => by simp at hk; omega)
          have ha7 := hst.holds ha6.out (by simp)
          have hM7 := hM6'.out.then_ hst (M' := [some (ra + 1)]) (fun k hk hm => by simp at hm; have := hra.out; omega)
          generalize w6.setCell ⟨ra + 1, 2, none⟩ (.int .i64 z2) = w7 at hR7 ha7 hM7 ⊢
          have hW := Holds.store3 ha7 (.bool true) (.int .i64 z1) (.int .i64 z2)
          have hs := writes_store3 w7 ra (.bool true) (.int .i64 z1) (.int .i64 z2)
          exact ret_cell1 rfl rfl rfl hW Try.underlying58 Try.sIv (Read.ok (hM7.then_ hs fun k hk hm => by simp at hm; have := hra.out; omega) hyes3.out ⟨rfl, hlo'.out, hhi'.out⟩ (hR7.keep hs fun k hk => by simp at hk; omega))
end Go.Proofs.Ytimhghmnnibajaa
