/-
  The walks of augurlaw2's helps: put, l2.
-/
import Derived.Test.YtimhghmnnibajaaCodeWa
namespace Go.Proofs.Ytimhghmnnibajaa
open Go.RowKit Go.ChangeShapes Go.WideShapes Go.Deep

/-- A part as it is written. -/
def putE (p : Pt) : List UInt8 :=
  if p.what % 5 = 0 then numE p.n else if p.what % 5 = 1 then intE (wrap64 p.n) else if p.what % 5 = 2 then txtE p.t else if p.what % 5 = 3 then boolE ((p.n : Int) % 2 == 1) else smE p.s
theorem wrap_ok (n : Int) : i64ok (wrap64 n) := by unfold i64ok wrap64; omega

set_option maxRecDepth 100000 in
set_option maxHeartbeats 4000000 in
theorem put_0 (w0 : World) (B : Nat) (va : Value) (l : List UInt8) (M : Option Nat) (p : Pt) (A1 A2 : Option Addr) (n1 c1 n2 c2 : Nat) (hv : Sr w0 B va l M) (hB : B ≤ w0.heap.size) (hq : p.what % 5 = 0) (hp : p.ok 1000) (h1 : p.s.al.length = n1) (h2 : p.s.md.length = n2)
    (hr1 : Row w0 w0.heap.size A1 (p.s.al.flatMap Al.cells)) (hg1 : p.s.al.flatMap Al.cells ≠ [] → M = none ∨ M ≠ blk A1) (hr2 : Row w0 w0.heap.size A2 (p.s.md.flatMap Nm.cells)) (hg2 : p.s.md.flatMap Nm.cells ≠ [] → M = none ∨ M ≠ blk A2) (hlen : l.length ≤ 70000000000) :
    Calls Try.prog 30 #[va, .agg #[.int .u8 p.what, .int .u64 p.n, .string p.t, .slice A1 n1 c1, .bool p.s.ends, .bool p.s.ret.s, .int .i64 p.s.ret.lo, .int .i64 p.s.ret.hi, .slice A2 n2 c2]] w0 (Refd w0 B M (l ++ putE p)) := by
  obtain ⟨what, n, t, s⟩ := p
  obtain ⟨hp1, hp2, hp3, hp4⟩ := hp
  have q : what % 5 = 0 := hq
  simp only at hp1 hp2 hp3 hp4 h1 h2 hr1 hg1 hr2 hg2 ⊢
  have hbx := Holds.new w0 63 #[.int .u8 what, .int .u64 n, .string t, .slice A1 n1 c1, .bool s.ends, .bool s.ret.s, .int .i64 s.ret.lo, .int .i64 s.ret.hi, .slice A2 n2 c2]
  have hb0 := Lib.hid (below_new w0 (.cells #[.int .u8 what, .int .u64 n, .string t, .slice A1 n1 c1, .bool s.ends, .bool s.ret.s, .int .i64 s.ret.lo, .int .i64 s.ret.hi, .slice A2 n2 c2] 63))
  have e0 := (hbx.fact 0 rfl).2
  have e1 := (hbx.fact 1 rfl).2
  have e2 := (hbx.fact 2 rfl).2
  have e3 := (hbx.fact 3 rfl).2
  have e4 := (hbx.fact 4 rfl).2
  have e5 := (hbx.fact 5 rfl).2
  have e6 := (hbx.fact 6 rfl).2
  have e7 := (hbx.fact 7 rfl).2
  have e8 := (hbx.fact 8 rfl).2
  have hv1 := Lib.hid (hv.below hb0.out)
  have hB1 := Lib.hid (Nat.le_trans hB hb0.out.size)
  have hr1 := Lib.hid ((hr1.below hb0.out).more hb0.out.size)
  rename_i hr1'
  have hr2 := Lib.hid ((hr2.below hb0.out).more hb0.out.size)
  rename_i hr2'
  have hg1 := Lib.hid hg1
  rename_i hg1'
  have hg2 := Lib.hid hg2
  rename_i hg2'
  have hh1 := Lib.hid h1
  have hh2 := Lib.hid h2
  have hp4 := Lib.hid hp4
  rename_i hp4'
  have hlen := Lib.hid hlen
  rename_i hlen'
  have hn2h := Lib.hid hp2
  clear hbx hv hB hr1' hr2' hg1' hg2' h1 h2 hp4' hlen'
  have hE := Lib.hid (show putE ⟨what, n, t, s⟩ = numE n by simp [putE, q])
  have hrem : Int.tmod (what : Int) 5 = 0 := by rw [IntWalk.rem_in _ _ (by omega)]; omega
  generalize putE ⟨what, n, t, s⟩ = E at hE ⊢
  go_enter Try.func30, Try.ntmps30
  go_wp2_with fail
  refine (refNum_any _ B va l M n hv1.out hB1.out hn2h.out (by have := hlen.out; omega)).mono ?_
  rintro e w' ⟨v', rfl, h3⟩
  have h3 := Lib.hid h3
  rename_i h3'
  clear h3'
  go_wp2_with fail
  go_ret
  rw [hE.out]
  exact Refd.before hb0.out ⟨v', rfl, h3.out⟩

set_option maxRecDepth 100000 in
set_option maxHeartbeats 4000000 in
theorem put_1 (w0 : World) (B : Nat) (va : Value) (l : List UInt8) (M : Option Nat) (p : Pt) (A1 A2 : Option Addr) (n1 c1 n2 c2 : Nat) (hv : Sr w0 B va l M) (hB : B ≤ w0.heap.size) (hq : p.what % 5 = 1) (hp : p.ok 1000) (h1 : p.s.al.length = n1) (h2 : p.s.md.length = n2)
    (hr1 : Row w0 w0.heap.size A1 (p.s.al.flatMap Al.cells)) (hg1 : p.s.al.flatMap Al.cells ≠ [] → M = none ∨ M ≠ blk A1) (hr2 : Row w0 w0.heap.size A2 (p.s.md.flatMap Nm.cells)) (hg2 : p.s.md.flatMap Nm.cells ≠ [] → M = none ∨ M ≠ blk A2) (hlen : l.length ≤ 70000000000) :
    Calls Try.prog 30 #[va, .agg #[.int .u8 p.what, .int .u64 p.n, .string p.t, .slice A1 n1 c1, .bool p.s.ends, .bool p.s.ret.s, .int .i64 p.s.ret.lo, .int .i64 p.s.ret.hi, .slice A2 n2 c2]] w0 (Refd w0 B M (l ++ putE p)) := by
  obtain ⟨what, n, t, s⟩ := p
  obtain ⟨hp1, hp2, hp3, hp4⟩ := hp
  have q : what % 5 = 1 := hq
  simp only at hp1 hp2 hp3 hp4 h1 h2 hr1 hg1 hr2 hg2 ⊢
  have hbx := Holds.new w0 63 #[.int .u8 what, .int .u64 n, .string t, .slice A1 n1 c1, .bool s.ends, .bool s.ret.s, .int .i64 s.ret.lo, .int .i64 s.ret.hi, .slice A2 n2 c2]
  have hb0 := Lib.hid (below_new w0 (.cells #[.int .u8 what, .int .u64 n, .string t, .slice A1 n1 c1, .bool s.ends, .bool s.ret.s, .int .i64 s.ret.lo, .int .i64 s.ret.hi, .slice A2 n2 c2] 63))
  have e0 := (hbx.fact 0 rfl).2
  have e1 := (hbx.fact 1 rfl).2
  have e2 := (hbx.fact 2 rfl).2
  have e3 := (hbx.fact 3 rfl).2
  have e4 := (hbx.fact 4 rfl).2
  have e5 := (hbx.fact 5 rfl).2
  have e6 := (hbx.fact 6 rfl).2
  have e7 := (hbx.fact 7 rfl).2
  have e8 := (hbx.fact 8 rfl).2
  have hv1 := Lib.hid (hv.below hb0.out)
  have hB1 := Lib.hid (Nat.le_trans hB hb0.out.size)
  have hr1 := Lib.hid ((hr1.below hb0.out).more hb0.out.size)
  rename_i hr1'
  have hr2 := Lib.hid ((hr2.below hb0.out).more hb0.out.size)
  rename_i hr2'
  have hg1 := Lib.hid hg1
  rename_i hg1'
  have hg2 := Lib.hid hg2
  rename_i hg2'
  have hh1 := Lib.hid h1
  have hh2 := Lib.hid h2
  have hp4 := Lib.hid hp4
  rename_i hp4'
  have hlen := Lib.hid hlen
  rename_i hlen'
  have hn2h := Lib.hid hp2
  clear hbx hv hB hr1' hr2' hg1' hg2' h1 h2 hp4' hlen'
  have hE := Lib.hid (show putE ⟨what, n, t, s⟩ = intE (wrap64 n) by simp [putE, q])
  have hrem : Int.tmod (what : Int) 5 = 1 := by rw [IntWalk.rem_in _ _ (by omega)]; omega
  generalize putE ⟨what, n, t, s⟩ = E at hE ⊢
  go_enter Try.func30, Try.ntmps30
  go_wp2_with fail
  refine (refInt_any _ B va l M (wrap64 n) hv1.out hB1.out (wrap_ok _) (by have := hlen.out; omega)).mono ?_
  rintro e w' ⟨v', rfl, h3⟩
  have h3 := Lib.hid h3
  rename_i h3'
  clear h3'
  go_wp2_with fail
  go_ret
  rw [hE.out]
  exact Refd.before hb0.out ⟨v', rfl, h3.out⟩

set_option maxRecDepth 100000 in
set_option maxHeartbeats 4000000 in
theorem put_2 (w0 : World) (B : Nat) (va : Value) (l : List UInt8) (M : Option Nat) (p : Pt) (A1 A2 : Option Addr) (n1 c1 n2 c2 : Nat) (hv : Sr w0 B va l M) (hB : B ≤ w0.heap.size) (hq : p.what % 5 = 2) (hp : p.ok 1000) (h1 : p.s.al.length = n1) (h2 : p.s.md.length = n2)
    (hr1 : Row w0 w0.heap.size A1 (p.s.al.flatMap Al.cells)) (hg1 : p.s.al.flatMap Al.cells ≠ [] → M = none ∨ M ≠ blk A1) (hr2 : Row w0 w0.heap.size A2 (p.s.md.flatMap Nm.cells)) (hg2 : p.s.md.flatMap Nm.cells ≠ [] → M = none ∨ M ≠ blk A2) (hlen : l.length ≤ 70000000000) :
    Calls Try.prog 30 #[va, .agg #[.int .u8 p.what, .int .u64 p.n, .string p.t, .slice A1 n1 c1, .bool p.s.ends, .bool p.s.ret.s, .int .i64 p.s.ret.lo, .int .i64 p.s.ret.hi, .slice A2 n2 c2]] w0 (Refd w0 B M (l ++ putE p)) := by
  obtain ⟨what, n, t, s⟩ := p
  obtain ⟨hp1, hp2, hp3, hp4⟩ := hp
  have q : what % 5 = 2 := hq
  simp only at hp1 hp2 hp3 hp4 h1 h2 hr1 hg1 hr2 hg2 ⊢
  have hbx := Holds.new w0 63 #[.int .u8 what, .int .u64 n, .string t, .slice A1 n1 c1, .bool s.ends, .bool s.ret.s, .int .i64 s.ret.lo, .int .i64 s.ret.hi, .slice A2 n2 c2]
  have hb0 := Lib.hid (below_new w0 (.cells #[.int .u8 what, .int .u64 n, .string t, .slice A1 n1 c1, .bool s.ends, .bool s.ret.s, .int .i64 s.ret.lo, .int .i64 s.ret.hi, .slice A2 n2 c2] 63))
  have e0 := (hbx.fact 0 rfl).2
  have e1 := (hbx.fact 1 rfl).2
  have e2 := (hbx.fact 2 rfl).2
  have e3 := (hbx.fact 3 rfl).2
  have e4 := (hbx.fact 4 rfl).2
  have e5 := (hbx.fact 5 rfl).2
  have e6 := (hbx.fact 6 rfl).2
  have e7 := (hbx.fact 7 rfl).2
  have e8 := (hbx.fact 8 rfl).2
  have hv1 := Lib.hid (hv.below hb0.out)
  have hB1 := Lib.hid (Nat.le_trans hB hb0.out.size)
  have hr1 := Lib.hid ((hr1.below hb0.out).more hb0.out.size)
  rename_i hr1'
  have hr2 := Lib.hid ((hr2.below hb0.out).more hb0.out.size)
  rename_i hr2'
  have hg1 := Lib.hid hg1
  rename_i hg1'
  have hg2 := Lib.hid hg2
  rename_i hg2'
  have hh1 := Lib.hid h1
  have hh2 := Lib.hid h2
  have hp4 := Lib.hid hp4
  rename_i hp4'
  have hlen := Lib.hid hlen
  rename_i hlen'
  have hn2h := Lib.hid hp2
  clear hbx hv hB hr1' hr2' hg1' hg2' h1 h2 hp4' hlen'
  have hE := Lib.hid (show putE ⟨what, n, t, s⟩ = txtE t by simp [putE, q])
  have hrem : Int.tmod (what : Int) 5 = 2 := by rw [IntWalk.rem_in _ _ (by omega)]; omega
  generalize putE ⟨what, n, t, s⟩ = E at hE ⊢
  go_enter Try.func30, Try.ntmps30
  go_wp2_with fail
  refine (refText_any _ B va l M t hv1.out hB1.out (by omega) (by have := hlen.out; omega)).mono ?_
  rintro e w' ⟨v', rfl, h3⟩
  have h3 := Lib.hid h3
  rename_i h3'
  clear h3'
  go_wp2_with fail
  go_ret
  rw [hE.out]
  exact Refd.before hb0.out ⟨v', rfl, h3.out⟩

set_option maxRecDepth 100000 in
set_option maxHeartbeats 4000000 in
theorem put_3 (w0 : World) (B : Nat) (va : Value) (l : List UInt8) (M : Option Nat) (p : Pt) (A1 A2 : Option Addr) (n1 c1 n2 c2 : Nat) (hv : Sr w0 B va l M) (hB : B ≤ w0.heap.size) (hq : p.what % 5 = 3) (hp : p.ok 1000) (h1 : p.s.al.length = n1) (h2 : p.s.md.length = n2)
    (hr1 : Row w0 w0.heap.size A1 (p.s.al.flatMap Al.cells)) (hg1 : p.s.al.flatMap Al.cells ≠ [] → M = none ∨ M ≠ blk A1) (hr2 : Row w0 w0.heap.size A2 (p.s.md.flatMap Nm.cells)) (hg2 : p.s.md.flatMap Nm.cells ≠ [] → M = none ∨ M ≠ blk A2) (hlen : l.length ≤ 70000000000) :
    Calls Try.prog 30 #[va, .agg #[.int .u8 p.what, .int .u64 p.n, .string p.t, .slice A1 n1 c1, .bool p.s.ends, .bool p.s.ret.s, .int .i64 p.s.ret.lo, .int .i64 p.s.ret.hi, .slice A2 n2 c2]] w0 (Refd w0 B M (l ++ putE p)) := by
  obtain ⟨what, n, t, s⟩ := p
  obtain ⟨hp1, hp2, hp3, hp4⟩ := hp
  have q : what % 5 = 3 := hq
  simp only at hp1 hp2 hp3 hp4 h1 h2 hr1 hg1 hr2 hg2 ⊢
  have hbx := Holds.new w0 63 #[.int .u8 what, .int .u64 n, .string t, .slice A1 n1 c1, .bool s.ends, .bool s.ret.s, .int .i64 s.ret.lo, .int .i64 s.ret.hi, .slice A2 n2 c2]
  have hb0 := Lib.hid (below_new w0 (.cells #[.int .u8 what, .int .u64 n, .string t, .slice A1 n1 c1, .bool s.ends, .bool s.ret.s, .int .i64 s.ret.lo, .int .i64 s.ret.hi, .slice A2 n2 c2] 63))
  have e0 := (hbx.fact 0 rfl).2
  have e1 := (hbx.fact 1 rfl).2
  have e2 := (hbx.fact 2 rfl).2
  have e3 := (hbx.fact 3 rfl).2
  have e4 := (hbx.fact 4 rfl).2
  have e5 := (hbx.fact 5 rfl).2
  have e6 := (hbx.fact 6 rfl).2
  have e7 := (hbx.fact 7 rfl).2
  have e8 := (hbx.fact 8 rfl).2
  have hv1 := Lib.hid (hv.below hb0.out)
  have hB1 := Lib.hid (Nat.le_trans hB hb0.out.size)
  have hr1 := Lib.hid ((hr1.below hb0.out).more hb0.out.size)
  rename_i hr1'
  have hr2 := Lib.hid ((hr2.below hb0.out).more hb0.out.size)
  rename_i hr2'
  have hg1 := Lib.hid hg1
  rename_i hg1'
  have hg2 := Lib.hid hg2
  rename_i hg2'
  have hh1 := Lib.hid h1
  have hh2 := Lib.hid h2
  have hp4 := Lib.hid hp4
  rename_i hp4'
  have hlen := Lib.hid hlen
  rename_i hlen'
  have hn2h := Lib.hid hp2
  clear hbx hv hB hr1' hr2' hg1' hg2' h1 h2 hp4' hlen'
  have hE := Lib.hid (show putE ⟨what, n, t, s⟩ = boolE ((n : Int) % 2 == 1) by simp [putE, q])
  have hrem : Int.tmod (what : Int) 5 = 3 := by rw [IntWalk.rem_in _ _ (by omega)]; omega
  have hrem2 : Int.tmod (n : Int) 2 = (n : Int) % 2 := IntWalk.rem_in _ _ (by omega)
  generalize putE ⟨what, n, t, s⟩ = E at hE ⊢
  go_enter Try.func30, Try.ntmps30
  go_wp2_with fail
  refine (refBool_any _ B va l M ((n : Int) % 2 == 1) hv1.out hB1.out (by have := hlen.out; omega)).mono ?_
  rintro e w' ⟨v', rfl, h3⟩
  have h3 := Lib.hid h3
  rename_i h3'
  clear h3'
  go_wp2_with fail
  go_ret
  rw [hE.out]
  exact Refd.before hb0.out ⟨v', rfl, h3.out⟩

set_option maxRecDepth 100000 in
set_option maxHeartbeats 4000000 in
theorem put_4 (w0 : World) (B : Nat) (va : Value) (l : List UInt8) (M : Option Nat) (p : Pt) (A1 A2 : Option Addr) (n1 c1 n2 c2 : Nat) (hv : Sr w0 B va l M) (hB : B ≤ w0.heap.size) (hq : p.what % 5 = 4) (hp : p.ok 1000) (h1 : p.s.al.length = n1) (h2 : p.s.md.length = n2) (hn1 : n1 ≤ 1000) (hn2 : n2 ≤ 1000)
    (hr1 : Row w0 w0.heap.size A1 (p.s.al.flatMap Al.cells)) (hg1 : p.s.al.flatMap Al.cells ≠ [] → M = none ∨ M ≠ blk A1) (hr2 : Row w0 w0.heap.size A2 (p.s.md.flatMap Nm.cells)) (hg2 : p.s.md.flatMap Nm.cells ≠ [] → M = none ∨ M ≠ blk A2) (hlen : l.length ≤ 70000000000) :
    Calls Try.prog 30 #[va, .agg #[.int .u8 p.what, .int .u64 p.n, .string p.t, .slice A1 n1 c1, .bool p.s.ends, .bool p.s.ret.s, .int .i64 p.s.ret.lo, .int .i64 p.s.ret.hi, .slice A2 n2 c2]] w0 (Refd w0 B M (l ++ putE p)) := by
  obtain ⟨what, n, t, s⟩ := p
  obtain ⟨hp1, hp2, hp3, hp4⟩ := hp
  have q : what % 5 = 4 := hq
  simp only at hp1 hp2 hp3 hp4 h1 h2 hr1 hg1 hr2 hg2 ⊢
  have hbx := Holds.new w0 63 #[.int .u8 what, .int .u64 n, .string t, .slice A1 n1 c1, .bool s.ends, .bool s.ret.s, .int .i64 s.ret.lo, .int .i64 s.ret.hi, .slice A2 n2 c2]
  have hb0 := Lib.hid (below_new w0 (.cells #[.int .u8 what, .int .u64 n, .string t, .slice A1 n1 c1, .bool s.ends, .bool s.ret.s, .int .i64 s.ret.lo, .int .i64 s.ret.hi, .slice A2 n2 c2] 63))
  have e0 := (hbx.fact 0 rfl).2
  have e1 := (hbx.fact 1 rfl).2
  have e2 := (hbx.fact 2 rfl).2
  have e3 := (hbx.fact 3 rfl).2
  have e4 := (hbx.fact 4 rfl).2
  have e5 := (hbx.fact 5 rfl).2
  have e6 := (hbx.fact 6 rfl).2
  have e7 := (hbx.fact 7 rfl).2
  have e8 := (hbx.fact 8 rfl).2
  have hv1 := Lib.hid (hv.below hb0.out)
  have hB1 := Lib.hid (Nat.le_trans hB hb0.out.size)
  have hr1 := Lib.hid ((hr1.below hb0.out).more hb0.out.size)
  rename_i hr1'
  have hr2 := Lib.hid ((hr2.below hb0.out).more hb0.out.size)
  rename_i hr2'
  have hg1 := Lib.hid hg1
  rename_i hg1'
  have hg2 := Lib.hid hg2
  rename_i hg2'
  have hh1 := Lib.hid h1
  have hh2 := Lib.hid h2
  have hp4 := Lib.hid hp4
  rename_i hp4'
  have hlen := Lib.hid hlen
  rename_i hlen'
  have hn2h := Lib.hid hp2
  clear hbx hv hB hr1' hr2' hg1' hg2' h1 h2 hp4' hlen'
  have hE := Lib.hid (show putE ⟨what, n, t, s⟩ = smE s by simp [putE, q])
  have hrem : Int.tmod (what : Int) 5 = 4 := by rw [IntWalk.rem_in _ _ (by omega)]; omega
  generalize putE ⟨what, n, t, s⟩ = E at hE ⊢
  go_enter Try.func30, Try.ntmps30
  go_wp2_with fail
  refine (refSm_any _ B va l M s A1 A2 n1 c1 n2 c2 hv1.out hB1.out hp4.out hh1.out hh2.out hn1 hn2 hr1.out hg1.out hr2.out hg2.out hlen.out).mono ?_
  rintro e w' ⟨v', rfl, h3⟩
  have h3 := Lib.hid h3
  rename_i h3'
  clear h3'
  go_wp2_with fail
  go_ret
  rw [hE.out]
  exact Refd.before hb0.out ⟨v', rfl, h3.out⟩

set_option maxRecDepth 100000 in
theorem put_any (w0 : World) (B : Nat) (va : Value) (l : List UInt8) (M : Option Nat) (p : Pt) (A1 A2 : Option Addr) (n1 c1 n2 c2 : Nat) (hv : Sr w0 B va l M) (hB : B ≤ w0.heap.size) (hp : p.ok 1000) (h1 : p.s.al.length = n1) (h2 : p.s.md.length = n2) (hn1 : n1 ≤ 1000) (hn2 : n2 ≤ 1000)
    (hr1 : Row w0 w0.heap.size A1 (p.s.al.flatMap Al.cells)) (hg1 : p.s.al.flatMap Al.cells ≠ [] → M = none ∨ M ≠ blk A1) (hr2 : Row w0 w0.heap.size A2 (p.s.md.flatMap Nm.cells)) (hg2 : p.s.md.flatMap Nm.cells ≠ [] → M = none ∨ M ≠ blk A2) (hlen : l.length ≤ 70000000000) :
    Calls Try.prog 30 #[va, .agg #[.int .u8 p.what, .int .u64 p.n, .string p.t, .slice A1 n1 c1, .bool p.s.ends, .bool p.s.ret.s, .int .i64 p.s.ret.lo, .int .i64 p.s.ret.hi, .slice A2 n2 c2]] w0 (Refd w0 B M (l ++ putE p)) := by
  rcases (show p.what % 5 = 0 ∨ p.what % 5 = 1 ∨ p.what % 5 = 2 ∨ p.what % 5 = 3 ∨ p.what % 5 = 4 by omega) with q | q | q | q | q
  · exact put_0 w0 B va l M p A1 A2 n1 c1 n2 c2 hv hB q hp h1 h2 hr1 hg1 hr2 hg2 hlen
  · exact put_1 w0 B va l M p A1 A2 n1 c1 n2 c2 hv hB q hp h1 h2 hr1 hg1 hr2 hg2 hlen
  · exact put_2 w0 B va l M p A1 A2 n1 c1 n2 c2 hv hB q hp h1 h2 hr1 hg1 hr2 hg2 hlen
  · exact put_3 w0 B va l M p A1 A2 n1 c1 n2 c2 hv hB q hp h1 h2 hr1 hg1 hr2 hg2 hlen
  · exact put_4 w0 B va l M p A1 A2 n1 c1 n2 c2 hv hB q hp h1 h2 hn1 hn2 hr1 hg1 hr2 hg2 hlen

theorem Try.infoStr : (Try.prog.info? 9).map (fun i => (i.zero, i.size, i.bytes)) = some (some (.string ⟨#[]⟩), 1, 16) := by kernel_rfl
set_option maxRecDepth 100000 in
set_option maxHeartbeats 2000000 in
theorem l2_any (w0 : World) (A : Option Addr) (c : Nat) (ps : List Pt) (hA : Parts w0 w0.heap.size A ps) (hm : ps.length ≤ 1000) :
    Calls Try.prog 32 #[.slice A ps.length c] w0 fun e w' => ∃ v, e = .returned v ∧ w'.ownsRow w0.heap.size 9 1 v ps.length (ps.map fun p => .string p.t) ∧ Below w0.heap.size w0 w' := by
  obtain ⟨iS, hiS, hzS0, hzS1, hzS2⟩ := info_parts Try.infoStr
  have hA := Lib.hid hA
  rename_i hA'
  clear hA'
  go_enter Try.func32, Try.ntmps32
  go_wp2_with fail
  go_loopw [3, 4] (fun v i wr => ∃ k : Nat, k ≤ ps.length ∧ i = .int .i64 k ∧ Below w0.heap.size w0 wr ∧ Hid (wr.ownsRow w0.heap.size 9 1 v k ((ps.take k).map fun p => .string p.t))) (fun _ i _ => ps.length - (intOf i).toNat)
  case atStart => exact ⟨0, by omega, rfl, Below.refl _ _, Lib.hid (World.ownsRow_nil _ _ _ _)⟩
  obtain ⟨k, hk, rfl, hb, ho⟩ := hrel
  have hb := Lib.hid hb
  rename_i hb'
  clear hb'
  by_cases hlt : k < ps.length
  · obtain ⟨b, off, A1, c1, A2, c2, rfl, hp⟩ := (hA.out.below hb.out).at_ hlt
    have hts := Lib.hid (List.take_succ_eq_append_getElem hlt)
    have q0 := hp.t
    clear hp
    generalize ps[k] = p at *
    have hsz := hb.out.size
    go_wp2_with (at_builtin
                 refine wpList_append_row _ rfl (.tmp 11) (.tmp 17) 40 rfl w0.heap.size 9 iS (.string ⟨#[]⟩) 16 Try.underlying40 hiS hzS0 hzS1 hzS2 rfl u3 _ _ rfl (own_below ho.out (below_new _ _)) _ (some ⟨wr.heap.size, 0, none⟩) 1 1 [.string p.t] rfl rfl (Row.one _ _ _) (by intro u hu; simp at hu; subst hu; rfl) (by unfold maxLen; omega) (by omega) (by simp; omega) ?_
                 intro v3 w3 ho3 hg hat
                 have hb3 : Below w0.heap.size w0 w3 := hb.out.trans (((below_new wr _).mono hsz).trans ((Writes.of_grown hg (List.mem_singleton_self _)).below (by simp; omega) (fun j hj => own_low ho.out (by simpa using hj)))))
    go_roundw
    case rel => exact ⟨k + 1, by omega, by go_num, hb3, Lib.hid (by rw [hts.out, List.map_append]; exact ho3)⟩
    case measure => simp [intOf]; omega
  · obtain rfl : k = ps.length := by omega
    have ho1 := ho.out
    rw [List.take_length] at ho1
    have ho1 := Lib.hid ho1
    rename_i ho1'
    clear ho1' ho
    go_wp2_with fail
    go_ret
    exact ⟨_, rfl, ho1.out, hb.out⟩
end Go.Proofs.Ytimhghmnnibajaa
