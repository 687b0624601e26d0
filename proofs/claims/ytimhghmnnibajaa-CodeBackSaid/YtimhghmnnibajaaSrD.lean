/-
  The walk of package code's Reader.Summary: the call that recovers.
-/
import Derived.Test.YtimhghmnnibajaaSrC
import Derived.Test.YtimhghmnnibajaaCodeH
namespace Go.Proofs.Ytimhghmnnibajaa
open Go.RowKit

theorem results_cell1 {fn : Func} {p : Tmp} {ty : TypeId} {tmps : Array Value} {w : World} {g : Nat} {t : TypeId} {cs : Array Value} {fs : Array Field} (h : fn.results = #[.cell p ty]) (hp : tmps.getD p undef = .pointer (some ⟨g, 0, none⟩))
    (hg : Holds w g t cs) (hu : Try.prog.underlying ty = some (.struct fs)) (hi : (Try.prog.info? ty).map (·.size) = some cs.size) : (results fn tmps).run Try.prog w = .ok (.agg cs) w := by
  have hp' : tmps[p]?.getD undef = .pointer (some ⟨g, 0, none⟩) := by simpa [Array.getD_eq_getD_getElem?] using hp
  simp [results, h, hp', asAddr, run_loadVar_row w g t ty cs (0, 0) _ hg hu rfl hi]
def zeroSm : Sm := ⟨[], false, ⟨false, 0, 0⟩, []⟩
theorem SmV.zero (n0 : Nat) (w : World) : SmV n0 w zeroSm (.agg #[.slice none 0 0, .bool false, .bool false, .int .i64 0, .int .i64 0, .slice none 0 0]) :=
  ⟨_, _, rfl, World.ownsRow_nil _ _ _ _, World.ownsRow_nil _ _ _ _⟩

theorem catch_panicking_Sm (p q : Addr) (u : TypeId) (pv : Value) (older : List PanicEntry) (w : World) (hp : w.cell? p = some (.pointer (some ⟨q.block, 0, none⟩))) (hq : q = ⟨q.block, 1, none⟩) (hc : w.cell? q = some (.bool false)) (hz : w.frozen? q = false) :
    CallsD Try.prog 85 #[.pointer (some p)] (.panicking ({ v := .iface u pv, recovered := false } :: older)) w fun e u' w' =>
      e = .returned (.tuple #[]) ∧ u' = .panicking ({ v := .iface u pv, recovered := true } :: older) ∧ w' = w.setCell q (.bool true) := by
  obtain ⟨g, o, sp⟩ := q
  simp only [Addr.mk.injEq, true_and] at hq
  obtain ⟨rfl, rfl⟩ := hq
  refine callsD_of_wpS Try.func85 rfl fun c₀ cs hu => ?_
  apply wpS_seq
  apply wpS_region
  simp [wpOpsS, go_sem, recoverD, hu, Try.ntmps85, Exit.thenS]
  refine wpS_cond (t := true) (by simp [Act.eval, Array.replicate]) ?_
  simp only [if_true]
  apply wpS_region
  simp [wpOpsS, go_sem, hp, hc, hz, bodyPostS, results, Try.results85]

theorem catch_idle_Sm (p : Addr) (w : World) :
    CallsD Try.prog 85 #[.pointer (some p)] .returning w fun e u' w' => e = .returned (.tuple #[]) ∧ u' = .returning ∧ w' = w := by
  refine callsD_of_wpS Try.func85 rfl fun c₀ cs hu => ?_
  apply wpS_seq
  apply wpS_region
  simp [wpOpsS, go_sem, recoverD, hu, Try.ntmps85, Exit.thenS]
  refine wpS_cond (t := false) (by simp [Act.eval, Array.replicate]) ?_
  simp only [Bool.false_eq_true, if_false]
  refine wpS_of_wp (wp_skip ?_)
  cases c₀
  simp_all [bodyPostS, results, Try.results85]

def z6 : Obj := .cells #[.slice none 0 0, .bool false, .bool false, .int .i64 0, .int .i64 0, .slice none 0 0] 61

set_option maxRecDepth 100000 in
set_option maxHeartbeats 2000000 in
theorem attempt_fails_Sm (w : World) (g : Nat) (h : Rdr w g none) :
    Calls Try.prog 70 #[.pointer (some ⟨g, 0, none⟩), .func (.func 71) #[.pointer (some ⟨g, 0, none⟩)] #[]] w fun e w' => e = .returned (.agg #[.slice none 0 0, .bool false, .bool false, .int .i64 0, .int .i64 0, .slice none 0 0]) ∧ Rdr w' g none ∧ Writes [some g] w w' := by
  have hb := below_new w (.cells #[.pointer (some ⟨g, 0, none⟩)] 31)
  have hb2 := below_new (w.alloc (.cells #[.pointer (some ⟨g, 0, none⟩)] 31)) z6
  have h2 := Lib.hid ((h.below hb).below hb2)
  have hM := Lib.hid ((Writes.of_below hb [some g]).trans (Writes.of_below hb2 [some g]))
  have hr := Holds.new (w.alloc (.cells #[.pointer (some ⟨g, 0, none⟩)] 31)) 61 #[.slice none 0 0, .bool false, .bool false, .int .i64 0, .int .i64 0, .slice none 0 0]
  rw [show (w.alloc (.cells #[.pointer (some ⟨g, 0, none⟩)] 31)).heap.size = w.heap.size + 1 by simp] at hr
  have hr' := Lib.hid hr
  obtain ⟨A, n, c, hh, _, _⟩ := h
  have c1 : w.cell? ⟨g, 1, none⟩ = some (.bool true) := by rw [hh.cell 1]; rfl
  have hgs := hh.lt
  clear hh hr hb hb2
  go_enter_defers Try.func70, Try.ntmps70
  go_wp2_with fail
  exact ⟨_, results_cell1 rfl rfl hr'.out Try.underlying61 Try.sSm, rfl, h2.out, hM.out⟩

set_option maxRecDepth 100000 in
set_option maxHeartbeats 2000000 in
theorem attempt_reads_Sm (w : World) (g : Nat) (l : List UInt8) (h : Rdr w g (some l)) :
    Calls Try.prog 70 #[.pointer (some ⟨g, 0, none⟩), .func (.func 71) #[.pointer (some ⟨g, 0, none⟩)] #[]] w (Tried w g (.agg #[.slice none 0 0, .bool false, .bool false, .int .i64 0, .int .i64 0, .slice none 0 0]) (SmV w.heap.size) (smR l)) := by
  have hmf : ∀ (fn : Fn) (first cap : Array Value) (w : World), (Instr.makeFunc fn first cap).run Try.prog w = .ok (.func fn first cap) w := fun _ _ _ _ => rfl
  have hb := below_new w (.cells #[.pointer (some ⟨g, 0, none⟩)] 31)
  have hb2 := below_new (w.alloc (.cells #[.pointer (some ⟨g, 0, none⟩)] 31)) (.cells #[.slice none 0 0, .bool false, .bool false, .int .i64 0, .int .i64 0, .slice none 0 0] 61)
  have hbx := (Holds.new w 31 #[.pointer (some ⟨g, 0, none⟩)]).alloc (.cells #[.slice none 0 0, .bool false, .bool false, .int .i64 0, .int .i64 0, .slice none 0 0] 61)
  have h2 := (h.below hb).below hb2
  have hM := (Writes.of_below hb [some g]).trans (Writes.of_below hb2 [some g])
  have hr := Holds.new (w.alloc (.cells #[.pointer (some ⟨g, 0, none⟩)] 31)) 61 #[.slice none 0 0, .bool false, .bool false, .int .i64 0, .int .i64 0, .slice none 0 0]
  rw [show (w.alloc (.cells #[.pointer (some ⟨g, 0, none⟩)] 31)).heap.size = w.heap.size + 1 by simp] at hr
  obtain ⟨A, n, c, hh, _, _⟩ := h
  have c1 : w.cell? ⟨g, 1, none⟩ = some (.bool false) := by rw [hh.cell 1]; rfl
  have hgs := hh.lt
  have hgs2 : ¬ w.heap.size = g := by omega
  have hgs3 : ¬ w.heap.size + 1 = g := by omega
  clear hh hb hb2
  have h2 := Lib.hid h2
  have hM := Lib.hid hM
  have hr := Lib.hid hr
  have hbx := Lib.hid hbx
  rename_i u1 u2 u3 u4
  clear u1 u2 u3 u4
  go_enter_defers Try.func70, Try.ntmps70
  go_wp2_with fail
  generalize (w.alloc (.cells #[.pointer (some ⟨g, 0, none⟩)] 31)).alloc (.cells #[.slice none 0 0, .bool false, .bool false, .int .i64 0, .int .i64 0, .slice none 0 0] 61) = w1 at h2 hM hr hbx ⊢
  generalize hra : w.heap.size = ra at hr hbx hgs hgs2 hgs3 ⊢
  have hra := Lib.hid hra
  rename_i u1
  clear u1
  refine (summary_reads w1 g l h2.out).mono ?_
  rintro e w2 ⟨hM2, hr2⟩
  have hbx2 := hM2.holds hbx.out (by simp; omega)
  have hr3 := Lib.hid (hM2.holds hr.out (by simp; omega))
  have cb := (hbx2.fact 0 rfl).2
  have hM3 := Lib.hid (hM.out.trans hM2)
  have hsz := Lib.hid (show w.heap.size ≤ w1.heap.size from hM.out.size)
  have hlt1 := Lib.hid hr.out.lt
  clear hbx2 hM2 hM hr hbx h2
  cases hrd : smR l with
  | none =>
    rw [hrd] at hr2
    have hrd := Lib.hid hrd
    obtain ⟨⟨s, rfl⟩, hj⟩ := hr2
    obtain ⟨A2, n2, c2, hh2, hn2⟩ := hj
    go_wp2_with fail
    refine leaves_cons (f := 85) (args := #[.pointer (some ⟨ra, 0, none⟩)]) (by simp) (by simp [go_sem]) ?_
    refine (catch_panicking_Sm ⟨ra, 0, none⟩ ⟨g, 1, none⟩ 9 _ [] _ cb rfl (by rw [hh2.cell 1]; rfl) (hh2.frozen 1)).mono ?_
    rintro e u' w'' ⟨rfl, rfl, rfl⟩
    exact ⟨_, results_cell1 rfl rfl (hr3.out.apart (by simp; omega) (.bool true)) Try.underlying61 Try.sSm, Tried.no rfl (hM3.out.trans (Writes.store w2 (by simp) _)) (Rdr.fail ⟨A2, n2, c2, hh2, hn2⟩)⟩
  | some p =>
    obtain ⟨a, l'⟩ := p
    rw [hrd] at hr2
    have hrd := Lib.hid hrd
    obtain ⟨⟨v, rfl, v1, v2, rfl, o1, o2⟩, hR⟩ := hr2
    obtain ⟨A1, c1, rfl, _, _⟩ := own_rowN o1
    obtain ⟨A2, c2, rfl, _, _⟩ := own_rowN o2
    have o1' := Lib.hid o1
    have o2' := Lib.hid o2
    have hR' := Lib.hid hR
    have y0 := (hr3.out.fact 0 rfl).2
    have y1 := (hr3.out.fact 1 rfl).2
    have y2 := (hr3.out.fact 2 rfl).2
    have y3 := (hr3.out.fact 3 rfl).2
    have y4 := (hr3.out.fact 4 rfl).2
    have y5 := (hr3.out.fact 5 rfl).2
    have f0 := hr3.out.frozen 0
    have f1 := hr3.out.frozen 1
    have f2 := hr3.out.frozen 2
    have f3 := hr3.out.frozen 3
    have f4 := hr3.out.frozen 4
    have f5 := hr3.out.frozen 5
    clear o1 o2 hR cb
    go_wp2_with fail
    refine leaves_cons (f := 85) (args := #[.pointer (some ⟨ra, 0, none⟩)]) (by simp) (by simp [go_sem]) ?_
    refine (catch_idle_Sm ⟨ra, 0, none⟩ _).mono ?_
    rintro e u' w'' ⟨rfl, rfl, rfl⟩
    have hst := writes_store6 w2 (ra + 1) (.slice A1 a.al.length c1) (.bool a.ends) (.bool a.ret.s) (.int .i64 a.ret.lo) (.int .i64 a.ret.hi) (.slice A2 a.md.length c2)
    refine ⟨_, results_cell1 rfl rfl (hr3.out.store6 (.slice A1 a.al.length c1) (.bool a.ends) (.bool a.ret.s) (.int .i64 a.ret.lo) (.int .i64 a.ret.hi) (.slice A2 a.md.length c2)) Try.underlying61 Try.sSm, ?_⟩
    have hl := hlt1.out
    have hfin : Tried w g (.agg #[.slice none 0 0, .bool false, .bool false, .int .i64 0, .int .i64 0, .slice none 0 0]) (SmV w.heap.size) (some (a, l')) (.returned (.agg #[.slice A1 a.al.length c1, .bool a.ends, .bool a.ret.s, .int .i64 a.ret.lo, .int .i64 a.ret.hi, .slice A2 a.md.length c2])) (store6 w2 (ra + 1) (.slice A1 a.al.length c1) (.bool a.ends) (.bool a.ret.s) (.int .i64 a.ret.lo) (.int .i64 a.ret.hi) (.slice A2 a.md.length c2)) := by
      refine Tried.ok rfl (hM3.out.then_ hst fun j hj e => by have := hra.out; simp at e; omega) ?_ ?_
      · exact ⟨_, _, rfl, own_base (own_above o1'.out hst fun j hj => by simp at hj; omega) hsz.out, own_base (own_above o2'.out hst fun j hj => by simp at hj; omega) hsz.out⟩
      · exact Rdr.keep hR'.out hst fun j hj => by simp at hj; have := hra.out; omega
    rw [hrd.out]
    exact hfin
theorem SmV.agg {n0 : Nat} {w : World} {s : Sm} {v : Value} (h : SmV n0 w s v) : ∃ A1 c1 A2 c2, v = .agg #[.slice A1 s.al.length c1, .bool s.ends, .bool s.ret.s, .int .i64 s.ret.lo, .int .i64 s.ret.hi, .slice A2 s.md.length c2] := by
  obtain ⟨v1, v2, rfl, o1, o2⟩ := h
  obtain ⟨A1, c1, rfl, _, _⟩ := own_rowN o1
  obtain ⟨A2, c2, rfl, _, _⟩ := own_rowN o2
  exact ⟨A1, c1, A2, c2, rfl⟩
theorem SmV.keep {n0 : Nat} {w w' : World} {s : Sm} {v : Value} {M : List (Option Nat)} (h : SmV n0 w s v) (hM : Writes M w w') (hk : ∀ j, some j ∈ M → j < n0) : SmV n0 w' s v := by
  obtain ⟨v1, v2, rfl, o1, o2⟩ := h
  exact ⟨v1, v2, rfl, own_above o1 hM hk, own_above o2 hM hk⟩
theorem SmV.below {n0 : Nat} {w w' : World} {s : Sm} {v : Value} (h : SmV n0 w s v) (hb : Below w.heap.size w w') : SmV n0 w' s v := by
  obtain ⟨v1, v2, rfl, o1, o2⟩ := h
  exact ⟨v1, v2, rfl, own_below o1 hb, own_below o2 hb⟩
theorem SmV.base {n0 n1 : Nat} {w : World} {s : Sm} {v : Value} (h : SmV n0 w s v) (hn : n1 ≤ n0) : SmV n1 w s v := by
  obtain ⟨v1, v2, rfl, o1, o2⟩ := h
  exact ⟨v1, v2, rfl, own_base o1 hn, own_base o2 hn⟩
/-- What a reader's Summary answers. -/
def TookSm (w : World) (g : Nat) (st : Option (List UInt8)) (e : Ending) (w' : World) : Prop :=
  (∃ v, e = .returned v ∧ SmV w.heap.size w' (valOf smR zeroSm st) v) ∧ Rdr w' g (nextOf smR st) ∧ Writes [some g] w w'
set_option maxRecDepth 100000 in
set_option maxHeartbeats 2000000 in
theorem rSm_any (w : World) (g : Nat) (st : Option (List UInt8)) (h : Rdr w g st) :
    Calls Try.prog 39 #[.pointer (some ⟨g, 0, none⟩)] w (TookSm w g st) := by
  have hmf : ∀ (fn : Fn) (first cap : Array Value) (w : World), (Instr.makeFunc fn first cap).run Try.prog w = .ok (.func fn first cap) w := fun _ _ _ _ => rfl
  have hb := below_new w (.cells #[.slice none 0 0, .bool false, .bool false, .int .i64 0, .int .i64 0, .slice none 0 0] 61)
  have hr1 := Lib.hid (Holds.new w 61 #[.slice none 0 0, .bool false, .bool false, .int .i64 0, .int .i64 0, .slice none 0 0])
  have h1 := Lib.hid (h.below hb)
  have hM := Lib.hid (Writes.of_below hb [some g])
  have hgl := h.lt
  clear hb h
  go_enter Try.func39, Try.ntmps39
  go_wp2_with fail
  generalize w.alloc (.cells #[.slice none 0 0, .bool false, .bool false, .int .i64 0, .int .i64 0, .slice none 0 0] 61) = w1 at hr1 h1 hM ⊢
  generalize hra : w.heap.size = ra at hr1 hgl ⊢
  have hra := Lib.hid hra
  rename_i u1
  clear u1
  have hsz := Lib.hid (show w.heap.size ≤ w1.heap.size from hM.out.size)
  have hlt := Lib.hid hr1.out.lt
  have hfin : Hid (∀ (e : Ending) (w2 : World), (∃ v, e = .returned v ∧ SmV w1.heap.size w2 (valOf smR zeroSm st) v) ∧ Rdr w2 g (nextOf smR st) ∧ Writes [some g] w1 w2 → ∃ x0 x1 x2 x3 x4 x5, e = .returned (.agg #[x0, .bool x1, .bool x2, .int .i64 x3, .int .i64 x4, x5]) ∧ (∃ A n c, x0 = .slice A n c) ∧ (∃ A n c, x5 = .slice A n c) ∧ Holds w2 ra 61 #[.slice none 0 0, .bool false, .bool false, .int .i64 0, .int .i64 0, .slice none 0 0] ∧
      TookSm w g st (.returned (.agg #[x0, .bool x1, .bool x2, .int .i64 x3, .int .i64 x4, x5])) (store6 w2 ra x0 (.bool x1) (.bool x2) (.int .i64 x3) (.int .i64 x4) x5)) := Lib.hid fun e w2 ⟨⟨v, he, hv⟩, hR, hM2⟩ => by
    obtain ⟨v1, v2, rfl, o1, o2⟩ := hv
    have hl := hlt.out
    have hst := writes_store6 w2 ra v1 (.bool (valOf smR zeroSm st).ends) (.bool (valOf smR zeroSm st).ret.s) (.int .i64 (valOf smR zeroSm st).ret.lo) (.int .i64 (valOf smR zeroSm st).ret.hi) v2
    obtain ⟨A1, c1, e1, _, _⟩ := own_rowN o1
    obtain ⟨A2, c2, e2, _, _⟩ := own_rowN o2
    refine ⟨_, _, _, _, _, _, he, ⟨_, _, _, e1⟩, ⟨_, _, _, e2⟩, hM2.holds hr1.out (by simp; omega), ⟨_, rfl, _, _, rfl, own_base (own_above o1 hst fun j hj => by simp at hj; omega) hsz.out, own_base (own_above o2 hst fun j hj => by simp at hj; omega) hsz.out⟩, hR.keep hst fun j hj => by simp at hj; omega, (hM.out.trans hM2).then_ hst fun j hj e => by have := hra.out; simp at e; omega⟩
  have hcall : Calls Try.prog 70 #[.pointer (some ⟨g, 0, none⟩), .func (.func 71) #[.pointer (some ⟨g, 0, none⟩)] #[]] w1 fun e w2 => (∃ v, e = .returned v ∧ SmV w1.heap.size w2 (valOf smR zeroSm st) v) ∧ Rdr w2 g (nextOf smR st) ∧ Writes [some g] w1 w2 := by
    cases st with
    | none => exact (attempt_fails_Sm _ g h1.out).mono fun e w2 ⟨he, hR, hM⟩ => ⟨⟨_, he, SmV.zero _ _⟩, hR, hM⟩
    | some l =>
      refine (attempt_reads_Sm _ g l h1.out).mono fun e w2 ⟨hM, hr⟩ => ?_
      cases hn : smR l with
      | none =>
        rw [hn] at hr
        obtain ⟨rfl, hR⟩ := hr
        have e1 : valOf smR zeroSm (some l) = zeroSm := by simp [valOf, hn]
        have e2 : nextOf smR (some l) = none := by simp [nextOf, hn]
        rw [e1, e2]
        exact ⟨⟨_, rfl, SmV.zero _ _⟩, hR, hM⟩
      | some p =>
        obtain ⟨s, l'⟩ := p
        rw [hn] at hr
        obtain ⟨⟨v, rfl, hv⟩, hR⟩ := hr
        have e1 : valOf smR zeroSm (some l) = s := by simp [valOf, hn]
        have e2 : nextOf smR (some l) = some l' := by simp [nextOf, hn]
        rw [e1, e2]
        exact ⟨⟨_, rfl, hv⟩, hR, hM⟩
  refine hcall.mono ?_
  clear hcall
  rintro e w2 hp
  obtain ⟨x0, x1, x2, x3, x4, x5, rfl, ⟨A1, n1, c1, rfl⟩, ⟨A2, n2, c2, rfl⟩, hh, hT⟩ := hfin.out e w2 hp
  have hT' := Lib.hid hT
  have hh' := Lib.hid hh
  have y0 := (hh.fact 0 rfl).2
  have y1 := (hh.fact 1 rfl).2
  have y2 := (hh.fact 2 rfl).2
  have y3 := (hh.fact 3 rfl).2
  have y4 := (hh.fact 4 rfl).2
  have y5 := (hh.fact 5 rfl).2
  have f0 := hh.frozen 0
  have f1 := hh.frozen 1
  have f2 := hh.frozen 2
  have f3 := hh.frozen 3
  have f4 := hh.frozen 4
  have f5 := hh.frozen 5
  clear hp hfin hT hh
  go_wp2_with fail
  exact ret_cell1 rfl rfl rfl (hh'.out.store6 _ _ _ _ _ _) Try.underlying61 Try.sSm hT'.out
end Go.Proofs.Ytimhghmnnibajaa
