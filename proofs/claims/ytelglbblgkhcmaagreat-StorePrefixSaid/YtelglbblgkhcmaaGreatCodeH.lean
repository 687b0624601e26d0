/-
  The walks of package code's reader: the calls that recover: Num, Int, Text, Bool (written by gen_attempt.py).
-/
import Derived.Test.YtelglbblgkhcmaaGreatCodeG
import Derived.Defers
import Derived.Recover
namespace Go.Proofs.YtelglbblgkhcmaaGreat
open Go.RowKit

theorem Rdr.below {w w' : World} {g : Nat} {st : Option (List UInt8)} (h : Rdr w g st) (hb : Below w.heap.size w w') : Rdr w' g st := by
  obtain ⟨A, n, c, h1, h2, h3⟩ := h
  exact ⟨A, n, c, h1.below hb h1.lt, h2, fun l e => by
    obtain ⟨a1, a2, a3, a4⟩ := h3 l e
    exact ⟨a1, a2, a3.up hb, a4⟩⟩
theorem Rdr.fail {w : World} {g : Nat} (h : Jnk w g) : Rdr (w.setCell ⟨g, 1, none⟩ (.bool true)) g none := by
  obtain ⟨A, n, c, h1, h2⟩ := h
  refine ⟨A, n, c, ?_, h2, fun l e => by cases e⟩
  have := h1.store 1 (.bool true)
  simpa using this

/-- What a reader's method leaves: the value, or the zero one behind a failure; what is left. -/
def nextOf {α : Type} (r : List UInt8 → Option (α × List UInt8)) (st : Option (List UInt8)) : Option (List UInt8) := st.bind fun l => (r l).map (·.2)
def valOf {α : Type} (r : List UInt8 → Option (α × List UInt8)) (zero : α) (st : Option (List UInt8)) : α := ((st.bind r).map (·.1)).getD zero
def Took {α : Type} (w : World) (g : Nat) (val : α → Value) (r : List UInt8 → Option (α × List UInt8)) (zero : α) (st : Option (List UInt8)) (e : Ending) (w' : World) : Prop :=
  e = .returned (val (valOf r zero st)) ∧ Rdr w' g (nextOf r st) ∧ Writes [some g] w w'
/-- What an attempt comes to. -/
def Tried {α : Type} (w : World) (g : Nat) (zero : Value) (val : World → α → Value → Prop) (r : Option (α × List UInt8)) (e : Ending) (w' : World) : Prop :=
  Writes [some g] w w' ∧ match r with
  | some (a, l') => (∃ v, e = .returned v ∧ val w' a v) ∧ Rdr w' g (some l')
  | none => e = .returned zero ∧ Rdr w' g none
theorem Tried.no {α : Type} {w w' : World} {g : Nat} {zero : Value} {val : World → α → Value → Prop} {r : Option (α × List UInt8)} (hr : r = none) (hM : Writes [some g] w w') (hR : Rdr w' g none) : Tried w g zero val r (.returned zero) w' := by
  subst hr
  exact ⟨hM, rfl, hR⟩
theorem Tried.ok {α : Type} {w w' : World} {g : Nat} {zero : Value} {val : World → α → Value → Prop} {r : Option (α × List UInt8)} {a : α} {l : List UInt8} (hr : r = some (a, l)) (hM : Writes [some g] w w') {v : Value} (hv : val w' a v) (hR : Rdr w' g (some l)) : Tried w g zero val r (.returned v) w' := by
  subst hr
  exact ⟨hM, ⟨v, rfl, hv⟩, hR⟩

theorem catch_panicking_Text (p q : Addr) (u : TypeId) (pv : Value) (older : List PanicEntry) (w : World) (hp : w.cell? p = some (.pointer (some ⟨q.block, 0, none⟩))) (hq : q = ⟨q.block, 1, none⟩) (hc : w.cell? q = some (.bool false)) (hz : w.frozen? q = false) :
    CallsD Tryz.prog 105 #[.pointer (some p)] (.panicking ({ v := .iface u pv, recovered := false } :: older)) w fun e u' w' =>
      e = .returned (.tuple #[]) ∧ u' = .panicking ({ v := .iface u pv, recovered := true } :: older) ∧ w' = w.setCell q (.bool true) := by
  obtain ⟨g, o, sp⟩ := q
  simp only [Addr.mk.injEq, true_and] at hq
  obtain ⟨rfl, rfl⟩ := hq
  refine callsD_of_wpS Tryz.func105 rfl fun c₀ cs hu => ?_
  apply wpS_seq
  apply wpS_region
  simp [wpOpsS, go_sem, recoverD, hu, Tryz.ntmps105, Exit.thenS]
  refine wpS_cond (t := true) (by simp [Act.eval, Array.replicate]) ?_
  simp only [if_true]
  apply wpS_region
  simp [wpOpsS, go_sem, hp, hc, hz, bodyPostS, results, Tryz.results105]

theorem catch_idle_Text (p : Addr) (w : World) :
    CallsD Tryz.prog 105 #[.pointer (some p)] .returning w fun e u' w' => e = .returned (.tuple #[]) ∧ u' = .returning ∧ w' = w := by
  refine callsD_of_wpS Tryz.func105 rfl fun c₀ cs hu => ?_
  apply wpS_seq
  apply wpS_region
  simp [wpOpsS, go_sem, recoverD, hu, Tryz.ntmps105, Exit.thenS]
  refine wpS_cond (t := false) (by simp [Act.eval, Array.replicate]) ?_
  simp only [Bool.false_eq_true, if_false]
  refine wpS_of_wp (wp_skip ?_)
  cases c₀
  simp_all [bodyPostS, results, Tryz.results105]

set_option maxRecDepth 100000 in
set_option maxHeartbeats 1000000 in
theorem attempt_fails_Text (w : World) (g : Nat) (h : Rdr w g none) :
    Calls Tryz.prog 77 #[.pointer (some ⟨g, 0, none⟩), .func (.func 78) #[.pointer (some ⟨g, 0, none⟩)] #[]] w fun e w' => e = .returned (.string ⟨#[]⟩) ∧ Rdr w' g none ∧ Writes [some g] w w' := by
  have hb := below_new w (.cells #[.pointer (some ⟨g, 0, none⟩)] 109)
  have h2 := Lib.hid (h.below hb)
  obtain ⟨A, n, c, hh, _, _⟩ := h
  have c1 : w.cell? ⟨g, 1, none⟩ = some (.bool true) := by rw [hh.cell 1]; rfl
  have hgs := hh.lt
  clear hh
  go_enter_defers Tryz.func77, Tryz.ntmps77
  go_wp2_with fail
  exact ⟨_, results_tmp rfl _ _ _, rfl, h2.out, Writes.of_below hb _⟩

set_option maxRecDepth 100000 in
set_option maxHeartbeats 1000000 in
theorem attempt_reads_Text (w : World) (g : Nat) (l : List UInt8) (h : Rdr w g (some l)) :
    Calls Tryz.prog 77 #[.pointer (some ⟨g, 0, none⟩), .func (.func 78) #[.pointer (some ⟨g, 0, none⟩)] #[]] w (Tried w g (.string ⟨#[]⟩) (fun _ (s : List UInt8) v => v = .string (strV s) ∧ s.length ≤ 100000000000) (textR l)) := by
  have hmf : ∀ (fn : Fn) (first cap : Array Value) (w : World), (Instr.makeFunc fn first cap).run Tryz.prog w = .ok (.func fn first cap) w := fun _ _ _ _ => rfl
  have hb := below_new w (.cells #[.pointer (some ⟨g, 0, none⟩)] 109)
  have hbx := Holds.new w 109 #[.pointer (some ⟨g, 0, none⟩)]
  have h2 := Lib.hid (h.below hb)
  obtain ⟨A, n, c, hh, _, _⟩ := h
  have c1 : w.cell? ⟨g, 1, none⟩ = some (.bool false) := by rw [hh.cell 1]; rfl
  have hgs := hh.lt
  have hgs2 : ¬ w.heap.size = g := by omega
  clear hh
  go_enter_defers Tryz.func77, Tryz.ntmps77
  go_wp2_with fail
  refine (text_reads _ g l h2.out).mono ?_
  rintro e w2 ⟨hM, hr⟩
  have hbx2 := hM.holds hbx (by simp; omega)
  have hM2 := (Writes.of_below hb [some g]).trans hM
  have cb : w2.cell? ⟨w.heap.size, 0, none⟩ = some (.pointer (some ⟨g, 0, none⟩)) := by rw [hbx2.cell 0]; rfl
  have hM2 := Lib.hid hM2
  clear hM hbx2 hbx
  cases hrd : textR l with
  | none =>
    rw [hrd] at hr
    have hrd := Lib.hid hrd
    obtain ⟨⟨s, rfl⟩, hj⟩ := hr
    obtain ⟨A2, n2, c2, hh2, hn2⟩ := hj
    go_wp2_with fail
    refine leaves_cons (f := 105) (args := #[.pointer (some ⟨w.heap.size, 0, none⟩)]) (by simp) (by simp [go_sem]) ?_
    refine (catch_panicking_Text ⟨w.heap.size, 0, none⟩ ⟨g, 1, none⟩ 9 _ [] _ cb rfl (by rw [hh2.cell 1]; rfl) (hh2.frozen 1)).mono ?_
    rintro e u' w'' ⟨rfl, rfl, rfl⟩
    exact ⟨_, results_tmp rfl _ _ _, Tried.no hrd.out (hM2.out.trans (Writes.store w2 (by simp) _)) (Rdr.fail ⟨A2, n2, c2, hh2, hn2⟩)⟩
  | some p =>
    obtain ⟨a, l'⟩ := p
    rw [hrd] at hr
    have hrd := Lib.hid hrd
    obtain ⟨⟨v, rfl, hv0⟩, hR⟩ := hr
    have hv := Lib.hid hv0
    clear hv0
    have hR := Lib.hid hR
    go_wp2_with fail
    refine leaves_cons (f := 105) (args := #[.pointer (some ⟨w.heap.size, 0, none⟩)]) (by simp) (by simp [go_sem]) ?_
    refine (catch_idle_Text ⟨w.heap.size, 0, none⟩ _).mono ?_
    rintro e u' w'' ⟨rfl, rfl, rfl⟩
    refine ⟨v, ?_, ?_⟩
    · simp [results, Tryz.results77, go_sem]
    exact Tried.ok hrd.out hM2.out hv.out hR.out

set_option maxRecDepth 100000 in
set_option maxHeartbeats 400000 in
theorem rText_any (w : World) (g : Nat) (st : Option (List UInt8)) (h : Rdr w g st) :
    Calls Tryz.prog 48 #[.pointer (some ⟨g, 0, none⟩)] w (Took w g (fun s : List UInt8 => .string (strV s)) textR ([]) st) := by
  have hmf : ∀ (fn : Fn) (first cap : Array Value) (w : World), (Instr.makeFunc fn first cap).run Tryz.prog w = .ok (.func fn first cap) w := fun _ _ _ _ => rfl
  go_enter Tryz.func48, Tryz.ntmps48
  cases st with
  | none =>
    go_wp2_with fail
    refine (attempt_fails_Text _ g h).mono ?_
    rintro e w2 ⟨rfl, hR, hM⟩
    go_wp2_with fail
    go_ret
    exact ⟨rfl, hR, hM⟩
  | some l =>
    go_wp2_with fail
    refine (attempt_reads_Text _ g l h).mono ?_
    rintro e w2 ⟨hM, hr⟩
    cases hn : textR l with
    | none =>
      rw [hn] at hr
      obtain ⟨rfl, hR⟩ := hr
      have h1 := Lib.hid (show valOf textR ([]) (some l) = [] by simp [valOf, hn])
      have h2 := Lib.hid (show nextOf textR (some l) = none by simp [nextOf, hn])
      clear hn
      go_wp2_with fail
      go_ret
      exact ⟨by rw [h1.out]; rfl, by rw [h2.out]; exact hR, hM⟩
    | some p =>
      obtain ⟨n, l'⟩ := p
      rw [hn] at hr
      obtain ⟨⟨v, rfl, hv⟩, hR⟩ := hr
      obtain ⟨rfl, _⟩ := hv
      have h1 := Lib.hid (show valOf textR ([]) (some l) = n by simp [valOf, hn])
      have h2 := Lib.hid (show nextOf textR (some l) = some l' by simp [nextOf, hn])
      clear hn
      go_wp2_with fail
      go_ret
      exact ⟨by rw [h1.out]; rfl, by rw [h2.out]; exact hR, hM⟩

theorem catch_panicking_Bool (p q : Addr) (u : TypeId) (pv : Value) (older : List PanicEntry) (w : World) (hp : w.cell? p = some (.pointer (some ⟨q.block, 0, none⟩))) (hq : q = ⟨q.block, 1, none⟩) (hc : w.cell? q = some (.bool false)) (hz : w.frozen? q = false) :
    CallsD Tryz.prog 107 #[.pointer (some p)] (.panicking ({ v := .iface u pv, recovered := false } :: older)) w fun e u' w' =>
      e = .returned (.tuple #[]) ∧ u' = .panicking ({ v := .iface u pv, recovered := true } :: older) ∧ w' = w.setCell q (.bool true) := by
  obtain ⟨g, o, sp⟩ := q
  simp only [Addr.mk.injEq, true_and] at hq
  obtain ⟨rfl, rfl⟩ := hq
  refine callsD_of_wpS Tryz.func107 rfl fun c₀ cs hu => ?_
  apply wpS_seq
  apply wpS_region
  simp [wpOpsS, go_sem, recoverD, hu, Tryz.ntmps107, Exit.thenS]
  refine wpS_cond (t := true) (by simp [Act.eval, Array.replicate]) ?_
  simp only [if_true]
  apply wpS_region
  simp [wpOpsS, go_sem, hp, hc, hz, bodyPostS, results, Tryz.results107]

theorem catch_idle_Bool (p : Addr) (w : World) :
    CallsD Tryz.prog 107 #[.pointer (some p)] .returning w fun e u' w' => e = .returned (.tuple #[]) ∧ u' = .returning ∧ w' = w := by
  refine callsD_of_wpS Tryz.func107 rfl fun c₀ cs hu => ?_
  apply wpS_seq
  apply wpS_region
  simp [wpOpsS, go_sem, recoverD, hu, Tryz.ntmps107, Exit.thenS]
  refine wpS_cond (t := false) (by simp [Act.eval, Array.replicate]) ?_
  simp only [Bool.false_eq_true, if_false]
  refine wpS_of_wp (wp_skip ?_)
  cases c₀
  simp_all [bodyPostS, results, Tryz.results107]

set_option maxRecDepth 100000 in
set_option maxHeartbeats 1000000 in
theorem attempt_fails_Bool (w : World) (g : Nat) (h : Rdr w g none) :
    Calls Tryz.prog 79 #[.pointer (some ⟨g, 0, none⟩), .func (.func 80) #[.pointer (some ⟨g, 0, none⟩)] #[]] w fun e w' => e = .returned (.bool false) ∧ Rdr w' g none ∧ Writes [some g] w w' := by
  have hb := below_new w (.cells #[.pointer (some ⟨g, 0, none⟩)] 109)
  have h2 := Lib.hid (h.below hb)
  obtain ⟨A, n, c, hh, _, _⟩ := h
  have c1 : w.cell? ⟨g, 1, none⟩ = some (.bool true) := by rw [hh.cell 1]; rfl
  have hgs := hh.lt
  clear hh
  go_enter_defers Tryz.func79, Tryz.ntmps79
  go_wp2_with fail
  exact ⟨_, results_tmp rfl _ _ _, rfl, h2.out, Writes.of_below hb _⟩

set_option maxRecDepth 100000 in
set_option maxHeartbeats 1000000 in
theorem attempt_reads_Bool (w : World) (g : Nat) (l : List UInt8) (h : Rdr w g (some l)) :
    Calls Tryz.prog 79 #[.pointer (some ⟨g, 0, none⟩), .func (.func 80) #[.pointer (some ⟨g, 0, none⟩)] #[]] w (Tried w g (.bool false) (fun _ (b : Bool) v => v = .bool b) (boolR l)) := by
  have hmf : ∀ (fn : Fn) (first cap : Array Value) (w : World), (Instr.makeFunc fn first cap).run Tryz.prog w = .ok (.func fn first cap) w := fun _ _ _ _ => rfl
  have hb := below_new w (.cells #[.pointer (some ⟨g, 0, none⟩)] 109)
  have hbx := Holds.new w 109 #[.pointer (some ⟨g, 0, none⟩)]
  have h2 := Lib.hid (h.below hb)
  obtain ⟨A, n, c, hh, _, _⟩ := h
  have c1 : w.cell? ⟨g, 1, none⟩ = some (.bool false) := by rw [hh.cell 1]; rfl
  have hgs := hh.lt
  have hgs2 : ¬ w.heap.size = g := by omega
  clear hh
  go_enter_defers Tryz.func79, Tryz.ntmps79
  go_wp2_with fail
  refine (bool_reads _ g l h2.out).mono ?_
  rintro e w2 ⟨hM, hr⟩
  have hbx2 := hM.holds hbx (by simp; omega)
  have hM2 := (Writes.of_below hb [some g]).trans hM
  have cb : w2.cell? ⟨w.heap.size, 0, none⟩ = some (.pointer (some ⟨g, 0, none⟩)) := by rw [hbx2.cell 0]; rfl
  have hM2 := Lib.hid hM2
  clear hM hbx2 hbx
  cases hrd : boolR l with
  | none =>
    rw [hrd] at hr
    have hrd := Lib.hid hrd
    obtain ⟨⟨s, rfl⟩, hj⟩ := hr
    obtain ⟨A2, n2, c2, hh2, hn2⟩ := hj
    go_wp2_with fail
    refine leaves_cons (f := 107) (args := #[.pointer (some ⟨w.heap.size, 0, none⟩)]) (by simp) (by simp [go_sem]) ?_
    refine (catch_panicking_Bool ⟨w.heap.size, 0, none⟩ ⟨g, 1, none⟩ 9 _ [] _ cb rfl (by rw [hh2.cell 1]; rfl) (hh2.frozen 1)).mono ?_
    rintro e u' w'' ⟨rfl, rfl, rfl⟩
    exact ⟨_, results_tmp rfl _ _ _, Tried.no hrd.out (hM2.out.trans (Writes.store w2 (by simp) _)) (Rdr.fail ⟨A2, n2, c2, hh2, hn2⟩)⟩
  | some p =>
    obtain ⟨a, l'⟩ := p
    rw [hrd] at hr
    have hrd := Lib.hid hrd
    obtain ⟨⟨v, rfl, hv0⟩, hR⟩ := hr
    have hv := Lib.hid hv0
    clear hv0
    have hR := Lib.hid hR
    go_wp2_with fail
    refine leaves_cons (f := 107) (args := #[.pointer (some ⟨w.heap.size, 0, none⟩)]) (by simp) (by simp [go_sem]) ?_
    refine (catch_idle_Bool ⟨w.heap.size, 0, none⟩ _).mono ?_
    rintro e u' w'' ⟨rfl, rfl, rfl⟩
    refine ⟨v, ?_, ?_⟩
    · simp [results, Tryz.results79, go_sem]
    exact Tried.ok hrd.out hM2.out hv.out hR.out

set_option maxRecDepth 100000 in
set_option maxHeartbeats 400000 in
theorem rBool_any (w : World) (g : Nat) (st : Option (List UInt8)) (h : Rdr w g st) :
    Calls Tryz.prog 49 #[.pointer (some ⟨g, 0, none⟩)] w (Took w g (fun b : Bool => .bool b) boolR (false) st) := by
  have hmf : ∀ (fn : Fn) (first cap : Array Value) (w : World), (Instr.makeFunc fn first cap).run Tryz.prog w = .ok (.func fn first cap) w := fun _ _ _ _ => rfl
  go_enter Tryz.func49, Tryz.ntmps49
  cases st with
  | none =>
    go_wp2_with fail
    refine (attempt_fails_Bool _ g h).mono ?_
    rintro e w2 ⟨rfl, hR, hM⟩
    go_wp2_with fail
    go_ret
    exact ⟨rfl, hR, hM⟩
  | some l =>
    go_wp2_with fail
    refine (attempt_reads_Bool _ g l h).mono ?_
    rintro e w2 ⟨hM, hr⟩
    cases hn : boolR l with
    | none =>
      rw [hn] at hr
      obtain ⟨rfl, hR⟩ := hr
      have h1 := Lib.hid (show valOf boolR (false) (some l) = false by simp [valOf, hn])
      have h2 := Lib.hid (show nextOf boolR (some l) = none by simp [nextOf, hn])
      clear hn
      go_wp2_with fail
      go_ret
      exact ⟨by rw [h1.out]; rfl, by rw [h2.out]; exact hR, hM⟩
    | some p =>
      obtain ⟨n, l'⟩ := p
      rw [hn] at hr
      obtain ⟨⟨v, rfl, hv⟩, hR⟩ := hr
      obtain rfl := hv
      have h1 := Lib.hid (show valOf boolR (false) (some l) = n by simp [valOf, hn])
      have h2 := Lib.hid (show nextOf boolR (some l) = some l' by simp [nextOf, hn])
      clear hn
      go_wp2_with fail
      go_ret
      exact ⟨by rw [h1.out]; rfl, by rw [h2.out]; exact hR, hM⟩

end Go.Proofs.YtelglbblgkhcmaaGreat
