/-
  The walks of augurlaw2's helps: lightS, light, put, l2.
-/
import Derived.Test.YtimhghmnnibajaaPart
import Derived.Test.YtimhghmnnibajaaCodeY
namespace Go.Proofs.Ytimhghmnnibajaa
open Go.RowKit Go.ChangeShapes Go.WideShapes Go.Deep

/-- A light summary, a light part. -/
def Sm.light (s : Sm) : Prop := s.al.length ≤ 10 ∧ s.md.length ≤ 10 ∧ ∀ m ∈ s.md, m.name.size ≤ 50
def Pt.light (p : Pt) : Prop := p.t.size ≤ 100 ∧ p.s.light
set_option maxRecDepth 100000 in
set_option maxHeartbeats 2000000 in
theorem lightS_any (w0 : World) (s : Sm) (A1 A2 : Option Addr) (n1 c1 n2 c2 : Nat) (h1 : s.al.length = n1) (h2 : s.md.length = n2) (hm1 : n1 ≤ maxLen) (hm2 : n2 ≤ maxLen) (hr2 : Row w0 w0.heap.size A2 (s.md.flatMap Nm.cells)) (hs : ∀ m ∈ s.md, m.name.size ≤ maxLen) :
    Calls Try.prog 62 #[.agg #[.slice A1 n1 c1, .bool s.ends, .bool s.ret.s, .int .i64 s.ret.lo, .int .i64 s.ret.hi, .slice A2 n2 c2]] w0 fun e w' => ((e = .returned (.bool true) ∧ s.light) ∨ e = .returned (.bool false)) ∧ Below w0.heap.size w0 w' := by
  unfold maxLen at hm1 hm2 hs
  have hbx := Holds.new w0 61 #[.slice A1 n1 c1, .bool s.ends, .bool s.ret.s, .int .i64 s.ret.lo, .int .i64 s.ret.hi, .slice A2 n2 c2]
  have hb0 := Lib.hid (below_new w0 (.cells #[.slice A1 n1 c1, .bool s.ends, .bool s.ret.s, .int .i64 s.ret.lo, .int .i64 s.ret.hi, .slice A2 n2 c2] 61))
  have hr := Lib.hid (hr2.below hb0.out)
  have hs := Lib.hid hs
  rename_i hs'
  have hh1 := Lib.hid h1
  have hh2 := Lib.hid h2
  have c0 := (hbx.fact 0 rfl).2
  have c5 := (hbx.fact 5 rfl).2
  clear hbx hr2 hs' h1 h2
  go_enter Try.func62, Try.ntmps62
  by_cases q1 : 10 < n1
  · go_wp2_with fail
    go_ret
    exact ⟨.inr rfl, hb0.out⟩
  by_cases q2 : 10 < n2
  · go_wp2_with fail
    go_ret
    exact ⟨.inr rfl, hb0.out⟩
  go_wp2_with fail
  generalize w0.alloc (.cells #[.slice A1 n1 c1, .bool s.ends, .bool s.ret.s, .int .i64 s.ret.lo, .int .i64 s.ret.hi, .slice A2 n2 c2] 61) = wb at hb0 hr c0 c5 ⊢
  have c5 := Lib.hid c5
  rename_i c5'
  clear c5' c0
  go_loopw [3] (fun i wr => ∃ k : Nat, k ≤ n2 ∧ i = .int .i64 k ∧ Hid (wr = wb) ∧ ∀ m ∈ s.md.take k, m.name.size ≤ 50) (fun i _ => n2 - (intOf i).toNat)
  case atStart => exact ⟨0, by omega, rfl, Lib.hid rfl, by simp⟩
  obtain ⟨k, hk, rfl, hwr, hl⟩ := hrel
  obtain rfl := hwr.out
  have c5 := c5.out
  have hl := Lib.hid hl
  by_cases hlt : k < n2
  · have hlt2 : k < s.md.length := by rw [hh2.out]; exact hlt
    obtain ⟨b, off, rfl, hbl, hne, hcell⟩ := Row.elem (C := 4) hr.out (fun _ _ => rfl) (by omega) (k := k) hlt2
    have q0 : wr.cell? ⟨b, off + k * 4, none⟩ = some (.string s.md[k].name) := hcell 0 _ rfl
    have hts := Lib.hid (List.take_succ_eq_append_getElem hlt2)
    have hsz := hs.out _ (List.getElem_mem hlt2)
    clear hcell hne
    generalize s.md[k] = a at *
    by_cases q : 50 < a.name.size
    · go_wp2_with fail
      go_ret
      exact ⟨.inr rfl, hb0.out⟩
    · go_wp2_with fail
      go_roundw
      case rel =>
        refine ⟨k + 1, by omega, by go_num, Lib.hid trivial, fun m hm => ?_⟩
        rw [hts.out] at hm
        rcases List.mem_append.1 hm with h | h
        · exact hl.out m h
        · simp at h
          subst h
          omega
      case measure => simp [intOf]; omega
  · obtain rfl : k = n2 := by omega
    go_wp2_with fail
    go_ret
    refine ⟨.inl ⟨rfl, by rw [hh1.out]; omega, by rw [hh2.out]; omega, fun m hm => ?_⟩, hb0.out⟩
    have hl := hl.out
    rw [← hh2.out, List.take_length] at hl
    exact hl m hm

set_option maxRecDepth 100000 in
set_option maxHeartbeats 2000000 in
theorem light_any (w0 : World) (A : Option Addr) (c : Nat) (ps : List Pt) (hA : Parts w0 w0.heap.size A ps) (hm : ps.length ≤ maxLen) (hs : ∀ p ∈ ps, p.ok maxLen) (hsl : ∀ p ∈ ps, p.s.al.length ≤ maxLen ∧ p.s.md.length ≤ maxLen) :
    Calls Try.prog 29 #[.slice A ps.length c] w0 fun e w' => ((e = .returned (.bool true) ∧ ps.length ≤ 12 ∧ ∀ p ∈ ps, p.light) ∨ e = .returned (.bool false)) ∧ Below w0.heap.size w0 w' := by
  have hm : ps.length ≤ 9223372036854775807 := by unfold maxLen at hm; omega
  have hA := Lib.hid hA
  rename_i hA'
  have hs := Lib.hid hs
  rename_i hs'
  have hsl := Lib.hid hsl
  rename_i hsl'
  clear hA' hs' hsl'
  go_enter Try.func29, Try.ntmps29
  by_cases q1 : 12 < ps.length
  · go_wp2_with fail
    go_ret
    exact ⟨.inr rfl, Below.refl _ _⟩
  go_wp2_with fail
  go_loopw [3] (fun i wr => ∃ k : Nat, k ≤ ps.length ∧ i = .int .i64 k ∧ Below w0.heap.size w0 wr ∧ ∀ p ∈ ps.take k, p.light) (fun i _ => ps.length - (intOf i).toNat)
  case atStart => exact ⟨0, by omega, rfl, Below.refl _ _, by simp⟩
  obtain ⟨k, hk, rfl, hb, hl⟩ := hrel
  have hl := Lib.hid hl
  rename_i hl'
  have hb := Lib.hid hb
  rename_i hb'
  clear hl' hb'
  by_cases hlt : k < ps.length
  · obtain ⟨b, off, A1, c1, A2, c2, rfl, hp⟩ := (hA.out.below hb.out).at_ hlt
    have hpok := hs.out _ (List.getElem_mem hlt)
    have hpsl := hsl.out _ (List.getElem_mem hlt)
    have hts := Lib.hid (List.take_succ_eq_append_getElem hlt)
    generalize ps[k] = p at *
    have q0 := hp.t
    have hsz : p.t.size ≤ 9223372036854775807 := by have := hpok.2.2.1; unfold maxLen at this; omega
    by_cases q : 100 < p.t.size
    · clear hp hpok hpsl
      go_wp2_with fail
      go_ret
      exact ⟨.inr rfl, hb.out⟩
    · have g0 := hp.s0
      have g1 := hp.s1
      have g2 := hp.s2
      have g3 := hp.s3
      have g4 := hp.s4
      have g5 := hp.s5
      have hr2 := Lib.hid (hp.r2.more (B' := wr.heap.size) hb.out.size)
      have hpok := Lib.hid hpok
      rename_i hpok'
      have hpsl := Lib.hid hpsl
      rename_i hpsl'
      clear hp hpok' hpsl'
      go_wp2_with fail
      refine (lightS_any wr p.s A1 A2 p.s.al.length c1 p.s.md.length c2 rfl rfl hpsl.out.1 hpsl.out.2 hr2.out (fun m hm => (hpok.out.2.2.2.2.2 m hm).1)).mono ?_
      rintro e w1 ⟨he, hb1⟩
      have hb1 := Lib.hid (hb.out.trans (hb1.mono hb.out.size))
      rename_i hb1'
      clear hb1'
      rcases he with ⟨rfl, hls⟩ | rfl
      · have hls := Lib.hid hls
        rename_i hls'
        clear hls'
        go_wp2_with fail
        go_roundw
        case rel =>
          refine ⟨k + 1, by omega, by go_num, hb1.out, fun m hm => ?_⟩
          rw [hts.out] at hm
          rcases List.mem_append.1 hm with h | h
          · exact hl.out m h
          · simp at h
            subst h
            exact ⟨by omega, hls.out⟩
        case measure => simp [intOf]; omega
      · go_wp2_with fail
        go_ret
        exact ⟨.inr rfl, hb1.out⟩
  · obtain rfl : k = ps.length := by omega
    go_wp2_with fail
    go_ret
    have hl := hl.out
    rw [List.take_length] at hl
    exact ⟨.inl ⟨rfl, by omega, hl⟩, hb.out⟩
end Go.Proofs.Ytimhghmnnibajaa
