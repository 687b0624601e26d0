/-
  Summaries held against one another: equal ones are told so. The statement's help 'whole'.
-/
import Derived.Test.YtimhghmnnibajaaSrF
import Derived.Deep.QuietTactic
import Derived.BigQuiet
namespace Go.Proofs.Ytimhghmnnibajaa
open Go.RowKit

set_option maxRecDepth 100000 in
set_option maxHeartbeats 1000000 in
theorem alEq_any (w : World) (A1 A2 : Option Addr) (n c1 c2 : Nat) (al : List Al) (hn : al.length = n) (hm : n ≤ maxLen) (h1 : Row w w.heap.size A1 (al.flatMap Al.cells)) (h2 : Row w w.heap.size A2 (al.flatMap Al.cells)) :
    Calls Try.prog 69 #[.slice A1 n c1, .slice A2 n c2] w fun e w' => e = .returned (.bool true) ∧ Below w.heap.size w w' := by
  unfold maxLen at hm
  have h1 := Lib.hid h1
  have h2 := Lib.hid h2
  have hn := Lib.hid hn
  rename_i x1 x2 x3
  clear x1 x2 x3
  go_enter Try.func69, Try.ntmps69
  go_wp2_with fail
  go_loopw [5] (fun i wr => ∃ k : Nat, k ≤ n ∧ i = .int .i64 k ∧ Below w.heap.size w wr) (fun i _ => n - (intOf i).toNat)
  case atStart => exact ⟨0, Nat.zero_le _, rfl, Below.refl _ _⟩
  case round =>
    obtain ⟨k, hk, rfl, hb⟩ := hrel
    by_cases hlt : k < n
    · obtain ⟨g1, o1, e1, hg1, hne1, q1⟩ := Row.elem (C := 2) (h1.out.below hb) (fun _ _ => rfl) (by omega) (k := k) (by rw [hn.out]; exact hlt)
      obtain ⟨g2, o2, e2, hg2, hne2, q2⟩ := Row.elem (C := 2) (h2.out.below hb) (fun _ _ => rfl) (by omega) (k := k) (by rw [hn.out]; exact hlt)
      subst e1 e2
      have a0 := q1 0 _ rfl
      have a1 := q1 1 _ rfl
      have b0 := q2 0 _ rfl
      have b1 := q2 1 _ rfl
      simp only [Nat.add_zero] at a0 b0
      have hb := Lib.hid hb
      rename_i x4
      clear x4 hne1 hne2 q1 q2
      generalize (al[k]'(by rw [hn.out]; exact hlt)).pos = z at a0 b0
      generalize (al[k]'(by rw [hn.out]; exact hlt)).kind = y at a1 b1
      go_wp2_with fail
      go_region
      all_goals
        go_wp2_with fail
        go_roundw
        case rel => exact ⟨k + 1, by omega, by go_num, hb.out.drew⟩
        case measure => simp [intOf]; omega
    · go_wp2_with fail
      go_ret
      exact ⟨rfl, hb⟩

set_option maxRecDepth 100000 in
set_option maxHeartbeats 4000000 in
theorem smEq_any (w : World) (B0 : Nat) (hB0 : Hid (B0 ≤ w.heap.size)) (A1 A2 B1 B2 : Option Addr) (n1 n2 c1 c2 d1 d2 : Nat) (s : Sm) (h1 : s.al.length = n1) (h2 : s.md.length = n2) (hm1 : n1 ≤ maxLen) (hm2 : n2 ≤ maxLen)
    (ha1 : Row w w.heap.size A1 (s.al.flatMap Al.cells)) (ha2 : Row w w.heap.size A2 (s.md.flatMap Nm.cells)) (hb1 : Row w w.heap.size B1 (s.al.flatMap Al.cells)) (hb2 : Row w w.heap.size B2 (s.md.flatMap Nm.cells)) :
    Calls Try.prog 38 #[.agg #[.slice A1 n1 c1, .bool s.ends, .bool s.ret.s, .int .i64 s.ret.lo, .int .i64 s.ret.hi, .slice A2 n2 c2], .agg #[.slice B1 n1 d1, .bool s.ends, .bool s.ret.s, .int .i64 s.ret.lo, .int .i64 s.ret.hi, .slice B2 n2 d2]] w fun e w' => e = .returned (.bool true) ∧ Below B0 w w' := by
  have k1 := below_new w (.cells #[.slice A1 n1 c1, .bool s.ends, .bool s.ret.s, .int .i64 s.ret.lo, .int .i64 s.ret.hi, .slice A2 n2 c2] 61)
  have k2 := k1.trans ((below_new (w.alloc (.cells #[.slice A1 n1 c1, .bool s.ends, .bool s.ret.s, .int .i64 s.ret.lo, .int .i64 s.ret.hi, .slice A2 n2 c2] 61)) (.cells #[.slice B1 n1 d1, .bool s.ends, .bool s.ret.s, .int .i64 s.ret.lo, .int .i64 s.ret.hi, .slice B2 n2 d2] 61)).mono k1.size)
  have ha1' := Lib.hid ((ha1.below k2).more k2.size)
  have ha2' := Lib.hid ((ha2.below k2).more k2.size)
  have hb1' := Lib.hid ((hb1.below k2).more k2.size)
  have hb2' := Lib.hid ((hb2.below k2).more k2.size)
  have hp := Lib.hid ((Holds.new w 61 #[.slice A1 n1 c1, .bool s.ends, .bool s.ret.s, .int .i64 s.ret.lo, .int .i64 s.ret.hi, .slice A2 n2 c2]).alloc (.cells #[.slice B1 n1 d1, .bool s.ends, .bool s.ret.s, .int .i64 s.ret.lo, .int .i64 s.ret.hi, .slice B2 n2 d2] 61))
  have hq0 := Holds.new (w.alloc (.cells #[.slice A1 n1 c1, .bool s.ends, .bool s.ret.s, .int .i64 s.ret.lo, .int .i64 s.ret.hi, .slice A2 n2 c2] 61)) 61 #[.slice B1 n1 d1, .bool s.ends, .bool s.ret.s, .int .i64 s.ret.lo, .int .i64 s.ret.hi, .slice B2 n2 d2]
  rw [show (w.alloc (.cells #[.slice A1 n1 c1, .bool s.ends, .bool s.ret.s, .int .i64 s.ret.lo, .int .i64 s.ret.hi, .slice A2 n2 c2] 61)).heap.size = w.heap.size + 1 by simp] at hq0
  have hq := Lib.hid hq0
  have hB := Lib.hid (Nat.le_trans hB0.out k2.size)
  have hk := Lib.hid (k2.mono hB0.out)
  have h1' := Lib.hid h1
  have h2' := Lib.hid h2
  have hm1' := Lib.hid hm1
  unfold maxLen at hm2
  clear k1 k2 hq0 ha1 ha2 hb1 hb2 h1 h2 hm1
  go_enter Try.func38, Try.ntmps38
  go_wp2_with fail
  generalize (w.alloc (.cells #[.slice A1 n1 c1, .bool s.ends, .bool s.ret.s, .int .i64 s.ret.lo, .int .i64 s.ret.hi, .slice A2 n2 c2] 61)).alloc (.cells #[.slice B1 n1 d1, .bool s.ends, .bool s.ret.s, .int .i64 s.ret.lo, .int .i64 s.ret.hi, .slice B2 n2 d2] 61) = w1 at ha1' ha2' hb1' hb2' hp hq hB hk ⊢
  generalize w.heap.size = ra at hp hq ⊢
  refine (alEq_any w1 A1 B1 n1 c1 d1 s.al h1'.out hm1'.out ha1'.out hb1'.out).mono ?_
  rintro e w2 ⟨rfl, kb⟩
  have hp2 := Lib.hid (hp.out.below kb hp.out.lt)
  have hq2 := Lib.hid (hq.out.below kb hq.out.lt)
  have ha3 := Lib.hid ((ha2'.out.below kb).more kb.size)
  have hb3 := Lib.hid ((hb2'.out.below kb).more kb.size)
  have hk2 := Lib.hid (hk.out.trans (kb.mono hB.out))
  have hB2 := Lib.hid (Nat.le_trans hB.out kb.size)
  have p5 := (hp2.out.fact 5 rfl).2
  have q5 := (hq2.out.fact 5 rfl).2
  clear kb hp hq ha1' ha2' hb1' hb2' hk hB hm1' h1'
  go_wp2_with fail
  clear p5 q5
  go_loopw [5] (fun i wr => ∃ k : Nat, k ≤ n2 ∧ i = .int .i64 k ∧ Below w2.heap.size w2 wr) (fun i _ => n2 - (intOf i).toNat)
  case atStart => exact ⟨0, Nat.zero_le _, rfl, Below.refl _ _⟩
  case round =>
    obtain ⟨k, hk, rfl, hb⟩ := hrel
    have p5 := ((hp2.out.below hb hp2.out.lt).fact 5 rfl).2
    have q5 := ((hq2.out.below hb hq2.out.lt).fact 5 rfl).2
    by_cases hlt : k < n2
    · obtain ⟨g1, o1, e1, hg1, hne1, z1⟩ := Row.elem (C := 4) (ha3.out.below hb) (fun _ _ => rfl) (by omega) (k := k) (by rw [h2'.out]; exact hlt)
      obtain ⟨g2, o2, e2, hg2, hne2, z2⟩ := Row.elem (C := 4) (hb3.out.below hb) (fun _ _ => rfl) (by omega) (k := k) (by rw [h2'.out]; exact hlt)
      subst e1 e2
      have a0 := z1 0 _ rfl
      have a1 := z1 1 _ rfl
      have a2 := z1 2 _ rfl
      have a3 := z1 3 _ rfl
      have b0 := z2 0 _ rfl
      have b1 := z2 1 _ rfl
      have b2 := z2 2 _ rfl
      have b3 := z2 3 _ rfl
      simp only [Nat.add_zero] at a0 b0
      have hb' := Lib.hid hb
      clear hb hne1 hne2 z1 z2
      generalize (s.md[k]'(by rw [h2'.out]; exact hlt)).name = y0 at a0 b0
      generalize (s.md[k]'(by rw [h2'.out]; exact hlt)).v.s = y1 at a1 b1
      generalize (s.md[k]'(by rw [h2'.out]; exact hlt)).v.lo = y2 at a2 b2
      generalize (s.md[k]'(by rw [h2'.out]; exact hlt)).v.hi = y3 at a3 b3
      go_wp2_with fail
      go_region
      all_goals
        go_wp2_with fail
        go_roundw
        case rel => exact ⟨k + 1, by omega, by go_num, hb'.out.drew⟩
        case measure => simp [intOf]; omega
    · have hk3 := Lib.hid (hk2.out.trans (hb.mono hB2.out))
      clear hb
      go_wp2_with fail
      go_ret
      exact ⟨rfl, hk3.out⟩

set_option maxRecDepth 100000 in
set_option maxHeartbeats 1000000 in
theorem whole_any2 (w : World) (g : Nat) (st : Option (List UInt8)) (h : Rrd w g st) :
    Calls Try.prog 35 #[.pointer (some ⟨g, 0, none⟩)] w (TookR w g (fun z : Int => .int .i64 z) intR 0 st) := by
  go_enter Try.func35, Try.ntmps35
  go_wp2_with fail
  refine (rrInt_any _ g st h).mono ?_
  rintro e w2 ⟨he, hR, hM⟩
  have he2 : e = .returned (.int .i64 (valOf intR 0 st)) := he
  subst he2
  clear he
  obtain ⟨A, m, c, c0, c1, f0, f1, _, _, _⟩ := hR.cells
  have hR := Lib.hid hR
  have hM := Lib.hid hM
  rename_i u1 u2
  clear u1 u2
  cases hs : nextOf intR st with
  | none =>
    rw [hs] at c1
    have hv := Lib.hid (show valOf intR 0 st = 0 by
      cases st with
      | none => rfl
      | some l => cases hl : intR l with
        | none => simp [valOf, hl]
        | some p => simp [nextOf, hl] at hs)
    have hs' := Lib.hid hs
    clear hs
    go_wp2_with fail
    go_ret
    exact ⟨by rw [hv.out]; rfl, hR.out, hM.out⟩
  | some l' =>
    rw [hs] at c1
    have hs' := Lib.hid hs
    clear hs
    go_wp2_with fail
    go_ret
    exact ⟨rfl, hR.out, hM.out⟩
end Go.Proofs.Ytimhghmnnibajaa
