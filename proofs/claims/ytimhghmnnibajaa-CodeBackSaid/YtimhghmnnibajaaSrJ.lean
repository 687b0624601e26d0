/-
  The walk of CodeBack.
-/
import Derived.Test.YtimhghmnnibajaaSrI
namespace Go.Proofs.Ytimhghmnnibajaa
open Go.RowKit Go.ChangeShapes Go.WideShapes Go.Deep

theorem SmV.rows {n0 : Nat} {w : World} {s : Sm} {v : Value} (h : SmV n0 w s v) : ∃ A1 c1 A2 c2, v = .agg #[.slice A1 s.al.length c1, .bool s.ends, .bool s.ret.s, .int .i64 s.ret.lo, .int .i64 s.ret.hi, .slice A2 s.md.length c2] ∧ Row w w.heap.size A1 (s.al.flatMap Al.cells) ∧ Row w w.heap.size A2 (s.md.flatMap Nm.cells) ∧ s.al.length ≤ maxLen ∧ s.md.length ≤ maxLen := by
  obtain ⟨v1, v2, rfl, o1, o2⟩ := h
  have b1 : s.al.length ≤ maxLen := by
    rcases o1.2 with ⟨_, h⟩ | ⟨_, _, _, _, _, _, h1, h2, _⟩
    · rw [h]; exact Nat.zero_le _
    · exact Nat.le_trans h1 h2
  have b2 : s.md.length ≤ maxLen := by
    rcases o2.2 with ⟨_, h⟩ | ⟨_, _, _, _, _, _, h1, h2, _⟩
    · rw [h]; exact Nat.zero_le _
    · exact Nat.le_trans h1 h2
  obtain ⟨A1, c1, rfl, r1, _⟩ := own_rowN o1
  obtain ⟨A2, c2, rfl, r2, _⟩ := own_rowN o2
  exact ⟨A1, c1, A2, c2, rfl, r1, r2, b1, b2⟩
/-- What 'plain' answers. -/
def PlV (N : Nat) (A1 : Option Addr) (c1 : Nat) (s : Sm) (w : World) (v : Value) : Prop :=
  ∃ v2, v = .agg #[.slice A1 s.al.length c1, .bool s.ends, .bool (Iv.norm ⟨s.ret.s, s.ret.lo, s.ret.hi⟩).s, .int .i64 (Iv.norm ⟨s.ret.s, s.ret.lo, s.ret.hi⟩).lo, .int .i64 (Iv.norm ⟨s.ret.s, s.ret.lo, s.ret.hi⟩).hi, v2] ∧ w.ownsRow N 118 4 v2 s.md.length ((s.md.map Nm.norm).flatMap Nm.cells)
theorem PlV.keep {N : Nat} {A1 : Option Addr} {c1 : Nat} {s : Sm} {w w' : World} {v : Value} {M : List (Option Nat)} (h : PlV N A1 c1 s w v) (hM : Writes M w w') (hk : ∀ j, some j ∈ M → j < N) : PlV N A1 c1 s w' v := by
  obtain ⟨v2, rfl, ho⟩ := h
  exact ⟨v2, rfl, own_above ho hM hk⟩
/-- A part's bytes are read back. -/
theorem rest_b {ps : List Pt} {k : Nat} (h : k < ps.length) : (ps.drop k).flatMap putE = putE ps[k] ++ (ps.drop (k + 1)).flatMap putE := by
  rw [List.drop_eq_getElem_cons h]
  rfl
theorem val_of {α : Type} {r : List UInt8 → Option (α × List UInt8)} {zero a : α} {l l' : List UInt8} (h : r l = some (a, l')) : valOf r zero (some l) = a ∧ nextOf r (some l) = some l' := by simp [valOf, nextOf, h]

set_option maxRecDepth 100000 in
set_option maxHeartbeats 16000000 in
theorem back_B (W : World) (B0 : Nat) (hB0 : Hid (B0 ≤ W.heap.size)) (A : Option Addr) (c : Nat) (ps : List Pt) (hP0 : Hid (Parts W W.heap.size A ps)) (hm : ps.length ≤ maxLen) (hs : Hid (∀ p ∈ ps, p.ok maxLen)) (hsl : Hid (∀ p ∈ ps, p.s.al.length ≤ maxLen ∧ p.s.md.length ≤ maxLen)) :
    Calls Try.prog 8 #[.slice A ps.length c] W fun e w' => e = .returned (.bool true) ∧ Below B0 W w' := by
  go_enter Try.func8, Try.ntmps8
  go_wp2_with fail
  refine (known_any _).mono ?_
  rintro e w1 ⟨rfl, h1⟩
  have hP1 := Lib.hid (hP0.out.up h1)
  have hB1 := Lib.hid (Nat.le_trans hB0.out h1.size)
  have hk1 := Lib.hid (h1.mono hB0.out)
  clear h1 hP0
  go_wp2_with fail
  refine (light_any w1 A c ps hP1.out hm hs.out hsl.out).mono ?_
  rintro e w2 ⟨he, h2⟩
  have hP2 := Lib.hid (hP1.out.up h2)
  have hB2 := Lib.hid (Nat.le_trans hB1.out h2.size)
  have hk2 := Lib.hid (hk1.out.trans (h2.mono hB1.out))
  clear h2 hP1 hB1 hk1
  rcases he with ⟨rfl, hlen, hl⟩ | rfl
  case inr =>
    go_wp2_with fail
    go_ret
    exact ⟨rfl, hk2.out⟩
  have hl' := Lib.hid hl
  have hok : Hid (∀ p ∈ ps, p.ok 1000) := Lib.hid fun p hp => Pt.ok_of_light (hs.out p hp) (hl p hp)
  clear hl hm hs hsl
  go_wp2_with fail
  go_loopw [3, 4] (fun bv i wr => ∃ k : Nat, k ≤ ps.length ∧ i = .int .i64 k ∧ wr.ownsRow w2.heap.size 5 1 bv ((ps.take k).flatMap putE).length (((ps.take k).flatMap putE).map byteV) ∧ Below w2.heap.size w2 wr ∧ ∀ p ∈ ps.take k, ∀ a ∈ p.s.al, i32ok a.pos ∧ i32ok a.kind) (fun _ i _ => ps.length - (intOf i).toNat)
  case atStart => exact ⟨0, by omega, rfl, World.ownsRow_nil _ _ _ _, Below.refl _ _, by simp⟩
  obtain ⟨k, hk, rfl, ho0, hk0, hsm0⟩ := hrel
  have hcl : ((ps.take k).flatMap putE).length ≤ 20000000 := by
    have := flat_len' putE 1200000 ps (fun p hp => putE_len (hok.out p hp) (hl'.out p hp)) k
    omega
  by_cases hlt : k < ps.length
  case pos =>
    have hpo := hok.out _ (List.getElem_mem hlt)
    have hpl := hl'.out _ (List.getElem_mem hlt)
    obtain ⟨b, off, A1, c1, A2, c2, rfl, hpt0⟩ := (hP2.out.below hk0).at_ hlt
    have hft := Lib.hid (flat_take putE ps k hlt)
    have htk := Lib.hid (List.take_succ_eq_append_getElem hlt)
    have hal := Lib.hid hpl.2.1
    have hmd := Lib.hid hpl.2.2.1
    have hpt := Lib.hid hpt0
    have hpo' := Lib.hid hpo
    have ho := Lib.hid ho0
    have hkr := Lib.hid hk0
    have hsm := Lib.hid hsm0
    have hcl' := Lib.hid hcl
    clear hpo hpl hpt0 ho0 hk0 hsm0 hcl
    generalize ps[k] = p at *
    generalize (ps.take k).flatMap putE = cur at *
    obtain ⟨wo, hwo⟩ : ∃ w, w = wr := ⟨_, rfl⟩
    rw [← hwo] at hpt ho hkr
    have hbw : Hid (Below wo.heap.size wo wr) := Lib.hid (by rw [hwo]; exact Below.refl _ _)
    clear hwo
    go_wp2_with fail
    go_loopw [5] (fun i wr => ∃ j : Nat, j ≤ p.s.al.length ∧ i = .int .i64 j ∧ Below wo.heap.size wo wr ∧ ∀ a ∈ p.s.al.take j, i32ok a.pos ∧ i32ok a.kind) (fun i _ => p.s.al.length - (intOf i).toNat)
    case atStart => exact ⟨0, by omega, rfl, hbw.out, by simp⟩
    clear hbw
    obtain ⟨j, hj, rfl, hb0, hsj0⟩ := hrel
    have hptx := hpt.out.below (hb0.mono hkr.out.size)
    have q3 := hptx.s0
    have hb := Lib.hid hb0
    have hsj := Lib.hid hsj0
    clear hsj0
    have hal10 : p.s.al.length ≤ 10 := hal.out
    by_cases hjl : j < p.s.al.length
    case pos =>
      obtain ⟨g1, o1, e1, hg1, hne1, z⟩ := Row.elem (C := 2) (hpt.out.r1.below (hb0.mono hkr.out.size)) (fun _ _ => rfl) (by omega) (k := j) hjl
      subst e1
      have a0 := z 0 _ rfl
      have a1 := z 1 _ rfl
      simp only [Nat.add_zero] at a0
      have htj := Lib.hid (List.take_succ_eq_append_getElem hjl)
      clear z hne1 hptx
      generalize p.s.al[j] = a at a0 a1 htj
      have hbn := Lib.hid (hb0.trans ((below_new wr (.cells #[.int .i64 a.pos, .int .i64 a.kind] 75)).mono hb0.size))
      have hbW := Lib.hid (hk2.out.trans ((hkr.out.trans (hbn.out.mono hkr.out.size)).mono hB2.out))
      clear hb0
      rcases (show (a.pos < -2147483648 ∧ 0 < 1 ∧ 0 < 1 ∧ 0 < 1) ∨ (-2147483648 ≤ a.pos ∧ 2147483647 < a.pos ∧ 0 < 1 ∧ 0 < 1) ∨ (-2147483648 ≤ a.pos ∧ a.pos ≤ 2147483647 ∧ a.kind < -2147483648 ∧ 0 < 1) ∨ (-2147483648 ≤ a.pos ∧ a.pos ≤ 2147483647 ∧ -2147483648 ≤ a.kind ∧ 2147483647 < a.kind) ∨ (-2147483648 ≤ a.pos ∧ a.pos ≤ 2147483647 ∧ -2147483648 ≤ a.kind ∧ a.kind ≤ 2147483647) by omega) with hc | hc | hc | hc | hc
      all_goals obtain ⟨m1, m2, m3, m4⟩ := hc
      rotate_right
      · have hsn : Hid (i32ok a.pos ∧ i32ok a.kind) := Lib.hid ⟨⟨m1, m2⟩, ⟨m3, m4⟩⟩
        go_wp2_with fail
        go_roundw
        case rel =>
          refine ⟨j + 1, by omega, by go_num, hbn.out, ?_⟩
          rw [htj.out]
          intro x hx
          rcases List.mem_append.1 hx with h | h
          · exact hsj.out x h
          · simp at h
            subst h
            exact hsn.out
        case measure => simp [intOf]; omega
      all_goals
        go_wp2_with fail
        go_ret
        exact ⟨rfl, hbW.out⟩
    obtain rfl : j = p.s.al.length := by omega
    rw [List.take_length] at hsj
    have hon := Lib.hid (own_below ho.out hb0)
    have hkn := Lib.hid (hkr.out.trans (hb0.mono hkr.out.size))
    have q0 := hptx.what
    have q1 := hptx.n
    have q2 := hptx.t
    have q4 := hptx.s1
    have q5 := hptx.s2
    have q6 := hptx.s3
    have q7 := hptx.s4
    have q8 := hptx.s5
    have hptn := Lib.hid hptx
    clear hptx hb0 ho hkr hb
    go_wp2_with fail
    clear q0 q1 q2 q3 q4 q5 q6 q7 q8
    refine (put_any wr w2.heap.size u3 cur u3.ownBlock p A1 A2 p.s.al.length c1 p.s.md.length c2 (Sr.own hon.out) hkn.out.size hpo'.out rfl rfl (Nat.le_trans hal.out (by omega)) (Nat.le_trans hmd.out (by omega)) (hptn.out.r1.more hkn.out.size) (fun hne => hptn.out.r1.off_own hon.out hne) (hptn.out.r2.more hkn.out.size) (fun hne => hptn.out.r2.off_own hon.out hne) (by have := hcl'.out; omega)).mono ?_
    intro e wq hr
    have hbq := hr.below (Sr.own hon.out) hkn.out.size
    obtain ⟨v', rfl, ho', _, _⟩ := hr
    have hfin : Hid (wq.ownsRow w2.heap.size 5 1 v' ((ps.take (k + 1)).flatMap putE).length (((ps.take (k + 1)).flatMap putE).map byteV) ∧ Below w2.heap.size w2 wq ∧ ∀ p ∈ ps.take (k + 1), ∀ a ∈ p.s.al, i32ok a.pos ∧ i32ok a.kind) := Lib.hid ⟨by rw [hft.out]; exact ho', hkn.out.trans hbq, by
      rw [htk.out]
      intro x hx
      rcases List.mem_append.1 hx with h | h
      · exact hsm.out x h
      · simp at h
        subst h
        exact hsj.out⟩
    clear ho' hbq hon hkn hptn
    go_wp2_with fail
    go_roundw
    case rel => exact ⟨k + 1, by omega, by go_num, hfin.out.1, hfin.out.2.1, hfin.out.2.2⟩
    case measure => simp [intOf]; omega
  obtain rfl : k = ps.length := by omega
  rw [List.take_length] at ho0 hsm0 hcl
  obtain ⟨Ab, cb, rfl, hby, hbc⟩ := own_row ho0
  have hsm := Lib.hid hsm0
  have hP3 := Lib.hid (hP2.out.up hk0)
  have hB3 := Lib.hid (Nat.le_trans hB2.out hk0.size)
  have hk3 := Lib.hid (hk2.out.trans (hk0.mono hB2.out))
  have hby' := Lib.hid (show Bytes wr wr.heap.size Ab (ps.flatMap putE) from hby)
  clear ho0 hsm0 hk0 hby hbc hP2 hB2 hk2 hk hlt
  generalize hE : ps.flatMap putE = E at hcl hby' ⊢
  have hE := Lib.hid hE
  rename_i u1
  clear u1
  go_wp2_with fail
  refine (newReader_len wr Ab E.length cb E hby'.out rfl (by omega)).mono ?_
  rintro e w4 ⟨gr, rfl, hgr, hRd0, h4⟩
  have hR4 := Lib.hid hRd0
  have hk4 := Lib.hid h4
  have hord := Lib.hid hgr
  clear hRd0 h4 hgr hby' hcl
  obtain ⟨w3, hw3⟩ : ∃ w, w = wr := ⟨_, rfl⟩
  rw [← hw3] at hk4 hord hP3 hB3 hk3
  clear hw3
  go_wp2_with fail
  go_loopw [8] (fun i wr => ∃ k : Nat, k ≤ ps.length ∧ i = .int .i64 k ∧ Rdr wr gr (some ((ps.drop k).flatMap putE)) ∧ Below w3.heap.size w3 wr) (fun i _ => ps.length - (intOf i).toNat)
  case atStart => exact ⟨0, by omega, rfl, by rw [List.drop_zero, hE.out]; exact hR4.out, hk4.out⟩
  clear hR4 hk4
  obtain ⟨k, hk, rfl, hRd0, hkr0⟩ := hrel
  by_cases hlt : k < ps.length
  case pos =>
    obtain ⟨b, off, A1, c1, A2, c2, rfl, hpt0⟩ := (hP3.out.below hkr0).at_ hlt
    have hpo := hok.out _ (List.getElem_mem hlt)
    have hpl := hl'.out _ (List.getElem_mem hlt)
    have hps := hsm.out _ (List.getElem_mem hlt)
    rw [rest_b hlt] at hRd0
    generalize hnx : (ps.drop (k + 1)).flatMap putE = tl at hRd0
    have hnx := Lib.hid hnx
    have hRd := Lib.hid hRd0
    have hkr := Lib.hid hkr0
    have hgl := Lib.hid hRd0.lt
    have hbl := Lib.hid (Nat.lt_of_lt_of_le hpt0.lt hkr0.size)
    have hgw := Lib.hid hord.out
    generalize ps[k] = p at *
    have hpt := Lib.hid (show PtAt wr w3.heap.size b off k p A1 c1 A2 c2 from hpt0)
    have hpo' := Lib.hid hpo
    have hps' := Lib.hid hps
    have hbg : b ≠ gr := by have := hpt0.lt; have := hord.out; omega
    have hwhat := hpo.1
    have hn64 := hpo.2.1
    have q0 := hpt0.what
    have fn : Hid (Fact3 wr (some gr) ⟨b, off + k * 9 + 1, none⟩ (.int .u64 (p.n : Nat))) := Lib.hid ⟨hbl.out, by simpa using fun e => hbg e.symm, hpt0.n⟩
    have ft : Hid (Fact3 wr (some gr) ⟨b, off + k * 9 + 2, none⟩ (.string p.t)) := Lib.hid ⟨hbl.out, by simpa using fun e => hbg e.symm, hpt0.t⟩
    clear hpo hps hpt0 hRd0 hkr0
    rcases (show p.what % 5 = 0 ∨ p.what % 5 = 1 ∨ p.what % 5 = 2 ∨ p.what % 5 = 3 ∨ p.what % 5 = 4 by omega) with q | q | q | q | q
    case inl =>
      have hrem : Int.tmod (p.what : Int) 5 = 0 := by rw [IntWalk.rem_in _ _ (by omega)]; omega
      have hE0 : putE p = numE p.n := by simp [putE, q]
      obtain ⟨hv0, hn0⟩ := val_of (zero := 0) (numR_back p.n tl hn64)
      rw [← hE0] at hv0 hn0
      have hval := Lib.hid hv0
      have hnxt := Lib.hid hn0
      clear hE0 hv0 hn0 q
      generalize putE p = e0 at hRd hval hnxt
      go_wp2_with fail
      clear q0 hrem
      -- THE REGION THAT DRAWS ITS ORDER, BY ONE LEXICAL WALK OVER GENERIC VALUES (written by relgen.py)
      refine wp_region_tab ((fun _ v => v = .pointer (some ⟨gr, 0, none⟩)) ::
        (fun _ v => v = .int .u64 (p.n : Nat)) ::
        (fun _ v => v = .slice (some ⟨b, off, none⟩) ps.length c) ::
        (fun _ v => v = .int .i64 k) ::
        (fun _ v => v = .pointer (some ⟨b, off + k * 9, none⟩)) ::
        (fun _ v => v = .pointer (some ⟨b, off + k * 9 + 1, none⟩)) ::
        (fun _ v => v = .int .u64 (p.n : Nat)) ::
        (fun _ v => v = .bool true) ::
        (fun _ v => v = .bool true) :: [])
        (⟨[(7, none)], 0, []⟩ :: ⟨[(90, some 0)], 0, []⟩ :: ⟨[(0, none)], 0, []⟩ :: ⟨[(8, none)], 0, []⟩ :: ⟨[(92, some 2), (93, some 3)], 0, []⟩ :: ⟨[(94, some 4)], 0, []⟩ :: ⟨[(95, some 5)], 0, []⟩ :: ⟨[(91, some 1), (96, some 6)], 0, []⟩ :: ⟨[(97, some 7)], 0, []⟩ :: [])
        (none :: none :: none :: none :: none :: none :: none :: none :: none :: some 8 :: none :: none :: none :: none :: none :: none :: none :: none :: none :: none :: none :: none :: none :: none :: none :: none :: none :: none :: none :: none :: none :: none :: none :: none :: none :: none :: none :: none :: none :: none :: none :: none :: none :: none :: none :: none :: none :: none :: none :: none :: none :: none :: none :: none :: none :: none :: none :: none :: none :: none :: none :: none :: none :: none :: none :: none :: none :: none :: none :: none :: none :: none :: none :: none :: none :: none :: none :: none :: none :: none :: none :: none :: none :: none :: none :: none :: none :: none :: none :: none :: some 0 :: some 1 :: some 2 :: some 3 :: some 4 :: some 5 :: some 6 :: some 7 :: [])
        (fun L w' => Writes [some gr] wr w' ∧ Rdr w' gr (if L 1 then some tl else some (e0 ++ tl))) (fun _ w w' => Writes [some gr] w w') ?mixK24b24 ?okK24b24 ?tabK24b24 ?frK24b24 ?inK24b24 ?keptK24b24 ?startK24b24 ?eachK24b24 ?finK24b24
      case mixK24b24 => kernel_rfl
      case okK24b24 => kernel_rfl
      case tabK24b24 => kernel_rfl
      case frK24b24 => kernel_rfl
      case inK24b24 => rfl
      case keptK24b24 => exact ⟨fun _ _ _ _ _ _ _ h => h, fun _ _ _ _ _ _ _ h => h, fun _ _ _ _ _ _ _ h => h, fun _ _ _ _ _ _ _ h => h, fun _ _ _ _ _ _ _ h => h, fun _ _ _ _ _ _ _ h => h, fun _ _ _ _ _ _ _ h => h, fun _ _ _ _ _ _ _ h => h, fun _ _ _ _ _ _ _ h => h, trivial⟩
      case startK24b24 => exact ⟨Writes.of_below (Below.refl _ _).drew _, by have := hRd.out.below (w' := wr.drew) (Below.refl _ _).drew; simpa using this⟩
      case eachK24b24 =>
        refine ⟨?_, ?_, ?_, ?_, ?_, ?_, ?_, ?_, ?_, trivial⟩
        -- 0: slot 90 := move t7
        · intro w L f hC hLi hLd hLn hF
          obtain ⟨d7, _⟩ := hF
          have d7 : f 7 = .pointer (some ⟨gr, 0, none⟩) := d7
          refine Step2.live rfl ?_
          exact relUpon_value (v := f 7) rfl (hC) (Writes.refl _ _) d7
        -- 1: slot 91 := call { value (Operand.func 25), args := #[t90], argTypes := #[31] }
        · intro w L f hC hLi hLd hLn hF
          obtain ⟨d90, _⟩ := hF
          have d90 : f 90 = .pointer (some ⟨gr, 0, none⟩) := d90
          refine Step2.live rfl ?_
          have ev : ∀ t, evalOf f (.tmp t) = f t := fun _ => rfl
          have ec : ∀ c, evalOf f (.const c) = c := fun _ => rfl
          have ef : ∀ g, evalOf f (.func g) = .func (.func g) #[] #[] := fun _ => rfl
          refine relUpon_call (f := 25) (args := #[.pointer (some ⟨gr, 0, none⟩)]) (w := w) (by go_simp) (rNum_any w gr (some (e0 ++ tl)) (by have := hC.2; rw [hLi] at this; exact this)) ?_
          rintro e w1 ⟨he, hR, hM⟩
          rw [hval.out] at he
          rw [hnxt.out] at hR
          exact ⟨_, he, ⟨hC.1.trans hM, by simpa using hR⟩, hM, rfl⟩
        -- 2: slot 92 := move t0
        · intro w L f hC hLi hLd hLn hF
          obtain ⟨d0, _⟩ := hF
          have d0 : f 0 = .slice (some ⟨b, off, none⟩) ps.length c := d0
          refine Step2.live rfl ?_
          exact relUpon_value (v := f 0) rfl (hC) (Writes.refl _ _) d0
        -- 3: slot 93 := move t8
        · intro w L f hC hLi hLd hLn hF
          obtain ⟨d8, _⟩ := hF
          have d8 : f 8 = .int .i64 k := d8
          refine Step2.live rfl ?_
          exact relUpon_value (v := f 8) rfl (hC) (Writes.refl _ _) d8
        -- 4: slot 94 := indexAddr 53 t92 t93
        · intro w L f hC hLi hLd hLn hF
          obtain ⟨d92, d93, _⟩ := hF
          have d92 : f 92 = .slice (some ⟨b, off, none⟩) ps.length c := d92
          have d93 : f 93 = .int .i64 k := d93
          refine Step2.live rfl ?_
          have ev : ∀ t, evalOf f (.tmp t) = f t := fun _ => rfl
          have ec : ∀ c, evalOf f (.const c) = c := fun _ => rfl
          refine relUpon_value ?_ (hC) (Writes.refl _ _) rfl
          go_simp
        -- 5: slot 95 := fieldAddr 63 t94 1
        · intro w L f hC hLi hLd hLn hF
          obtain ⟨d94, _⟩ := hF
          have d94 : f 94 = .pointer (some ⟨b, off + k * 9, none⟩) := d94
          refine Step2.live rfl ?_
          have ev : ∀ t, evalOf f (.tmp t) = f t := fun _ => rfl
          have ec : ∀ c, evalOf f (.const c) = c := fun _ => rfl
          refine relUpon_value ?_ (hC) (Writes.refl _ _) rfl
          go_simp
        -- 6: slot 96 := load 37 t95
        · intro w L f hC hLi hLd hLn hF
          obtain ⟨d95, _⟩ := hF
          have d95 : f 95 = .pointer (some ⟨b, off + k * 9 + 1, none⟩) := d95
          refine Step2.live rfl ?_
          have hcell := hC.1.fact3 fn.out
          have ev : ∀ t, evalOf f (.tmp t) = f t := fun _ => rfl
          have ec : ∀ c, evalOf f (.const c) = c := fun _ => rfl
          have ef : ∀ g, evalOf f (.func g) = .func (.func g) #[] #[] := fun _ => rfl
          refine relUpon_value ?_ hC (Writes.refl _ _) rfl
          go_simp
        -- 7: slot 97 := binOp BinOp.eql 37 t91 t96 37
        · intro w L f hC hLi hLd hLn hF
          obtain ⟨d91, d96, _⟩ := hF
          have d91 : f 91 = .int .u64 (p.n : Nat) := d91
          have d96 : f 96 = .int .u64 (p.n : Nat) := d96
          refine Step2.live rfl ?_
          have ev : ∀ t, evalOf f (.tmp t) = f t := fun _ => rfl
          have ec : ∀ c, evalOf f (.const c) = c := fun _ => rfl
          refine relUpon_value ?_ (hC) (Writes.refl _ _) rfl
          go_simp
        -- 8: slot 9 := assign t97
        · intro w L f hC hLi hLd hLn hF
          obtain ⟨d97, _⟩ := hF
          have d97 : f 97 = .bool true := d97
          refine Step2.live rfl ?_
          exact relUpon_value (v := f 97) rfl (hC) (Writes.refl _ _) d97
      intro x w' hC hV

      have e9 : x 8 = .bool true := hV 8 _ rfl rfl
      clear hV
      simp only [framed]
      rw [e9]
      have hRx : Hid (Rdr w' gr (some tl)) := Lib.hid (by simpa using hC.2)
      have hkx := Lib.hid (hkr.out.trans (hC.1.below hkr.out.size (fun j hj => by have := hgw.out; simp at hj; omega)))
      clear hC
      go_wp2_with fail
      go_roundw
      case rel => exact ⟨k + 1, by omega, by go_num, by rw [hnx.out]; exact hRx.out, hkx.out⟩
      case measure => simp [intOf]; omega
    case inr.inl =>
      have hrem : Int.tmod (p.what : Int) 5 = 1 := by rw [IntWalk.rem_in _ _ (by omega)]; omega
      have hE0 : putE p = intE (wrap64 p.n) := by simp [putE, q]
      obtain ⟨hv0, hn0⟩ := val_of (zero := 0) (intR_back (wrap64 p.n) tl (wrap_ok _).1 (wrap_ok _).2)
      rw [← hE0] at hv0 hn0
      have hval := Lib.hid hv0
      have hnxt := Lib.hid hn0
      clear hE0 hv0 hn0 q
      generalize putE p = e0 at hRd hval hnxt
      go_wp2_with fail
      clear q0 hrem
      -- THE REGION THAT DRAWS ITS ORDER, BY ONE LEXICAL WALK OVER GENERIC VALUES (written by relgen.py)
      refine wp_region_tab ((fun _ v => v = .pointer (some ⟨gr, 0, none⟩)) ::
        (fun _ v => v = .int .i64 (wrap64 p.n)) ::
        (fun _ v => v = .slice (some ⟨b, off, none⟩) ps.length c) ::
        (fun _ v => v = .int .i64 k) ::
        (fun _ v => v = .pointer (some ⟨b, off + k * 9, none⟩)) ::
        (fun _ v => v = .pointer (some ⟨b, off + k * 9 + 1, none⟩)) ::
        (fun _ v => v = .int .u64 (p.n : Nat)) ::
        (fun _ v => v = .int .i64 (wrap64 p.n)) ::
        (fun _ v => v = .bool true) ::
        (fun _ v => v = .bool true) :: [])
        (⟨[(7, none)], 0, []⟩ :: ⟨[(100, some 0)], 0, []⟩ :: ⟨[(0, none)], 0, []⟩ :: ⟨[(8, none)], 0, []⟩ :: ⟨[(102, some 2), (103, some 3)], 0, []⟩ :: ⟨[(104, some 4)], 0, []⟩ :: ⟨[(105, some 5)], 0, []⟩ :: ⟨[(106, some 6)], 0, []⟩ :: ⟨[(101, some 1), (107, some 7)], 0, []⟩ :: ⟨[(108, some 8)], 0, []⟩ :: [])
        (none :: none :: none :: none :: none :: none :: none :: none :: none :: some 9 :: none :: none :: none :: none :: none :: none :: none :: none :: none :: none :: none :: none :: none :: none :: none :: none :: none :: none :: none :: none :: none :: none :: none :: none :: none :: none :: none :: none :: none :: none :: none :: none :: none :: none :: none :: none :: none :: none :: none :: none :: none :: none :: none :: none :: none :: none :: none :: none :: none :: none :: none :: none :: none :: none :: none :: none :: none :: none :: none :: none :: none :: none :: none :: none :: none :: none :: none :: none :: none :: none :: none :: none :: none :: none :: none :: none :: none :: none :: none :: none :: none :: none :: none :: none :: none :: none :: none :: none :: none :: none :: some 0 :: some 1 :: some 2 :: some 3 :: some 4 :: some 5 :: some 6 :: some 7 :: some 8 :: [])
        (fun L w' => Writes [some gr] wr w' ∧ Rdr w' gr (if L 1 then some tl else some (e0 ++ tl))) (fun _ w w' => Writes [some gr] w w') ?mixK26b26 ?okK26b26 ?tabK26b26 ?frK26b26 ?inK26b26 ?keptK26b26 ?startK26b26 ?eachK26b26 ?finK26b26
      case mixK26b26 => kernel_rfl
      case okK26b26 => kernel_rfl
      case tabK26b26 => kernel_rfl
      case frK26b26 => kernel_rfl
      case inK26b26 => rfl
      case keptK26b26 => exact ⟨fun _ _ _ _ _ _ _ h => h, fun _ _ _ _ _ _ _ h => h, fun _ _ _ _ _ _ _ h => h, fun _ _ _ _ _ _ _ h => h, fun _ _ _ _ _ _ _ h => h, fun _ _ _ _ _ _ _ h => h, fun _ _ _ _ _ _ _ h => h, fun _ _ _ _ _ _ _ h => h, fun _ _ _ _ _ _ _ h => h, fun _ _ _ _ _ _ _ h => h, trivial⟩
      case startK26b26 => exact ⟨Writes.of_below (Below.refl _ _).drew _, by have := hRd.out.below (w' := wr.drew) (Below.refl _ _).drew; simpa using this⟩
      case eachK26b26 =>
        refine ⟨?_, ?_, ?_, ?_, ?_, ?_, ?_, ?_, ?_, ?_, trivial⟩
        -- 0: slot 100 := move t7
        · intro w L f hC hLi hLd hLn hF
          obtain ⟨d7, _⟩ := hF
          have d7 : f 7 = .pointer (some ⟨gr, 0, none⟩) := d7
          refine Step2.live rfl ?_
          exact relUpon_value (v := f 7) rfl (hC) (Writes.refl _ _) d7
        -- 1: slot 101 := call { value (Operand.func 19), args := #[t100], argTypes := #[31] }
        · intro w L f hC hLi hLd hLn hF
          obtain ⟨d100, _⟩ := hF
          have d100 : f 100 = .pointer (some ⟨gr, 0, none⟩) := d100
          refine Step2.live rfl ?_
          have ev : ∀ t, evalOf f (.tmp t) = f t := fun _ => rfl
          have ec : ∀ c, evalOf f (.const c) = c := fun _ => rfl
          have ef : ∀ g, evalOf f (.func g) = .func (.func g) #[] #[] := fun _ => rfl
          refine relUpon_call (f := 19) (args := #[.pointer (some ⟨gr, 0, none⟩)]) (w := w) (by go_simp) (rInt_any w gr (some (e0 ++ tl)) (by have := hC.2; rw [hLi] at this; exact this)) ?_
          rintro e w1 ⟨he, hR, hM⟩
          rw [hval.out] at he
          rw [hnxt.out] at hR
          exact ⟨_, he, ⟨hC.1.trans hM, by simpa using hR⟩, hM, rfl⟩
        -- 2: slot 102 := move t0
        · intro w L f hC hLi hLd hLn hF
          obtain ⟨d0, _⟩ := hF
          have d0 : f 0 = .slice (some ⟨b, off, none⟩) ps.length c := d0
          refine Step2.live rfl ?_
          exact relUpon_value (v := f 0) rfl (hC) (Writes.refl _ _) d0
        -- 3: slot 103 := move t8
        · intro w L f hC hLi hLd hLn hF
          obtain ⟨d8, _⟩ := hF
          have d8 : f 8 = .int .i64 k := d8
          refine Step2.live rfl ?_
          exact relUpon_value (v := f 8) rfl (hC) (Writes.refl _ _) d8
        -- 4: slot 104 := indexAddr 53 t102 t103
        · intro w L f hC hLi hLd hLn hF
          obtain ⟨d102, d103, _⟩ := hF
          have d102 : f 102 = .slice (some ⟨b, off, none⟩) ps.length c := d102
          have d103 : f 103 = .int .i64 k := d103
          refine Step2.live rfl ?_
          have ev : ∀ t, evalOf f (.tmp t) = f t := fun _ => rfl
          have ec : ∀ c, evalOf f (.const c) = c := fun _ => rfl
          refine relUpon_value ?_ (hC) (Writes.refl _ _) rfl
          go_simp
        -- 5: slot 105 := fieldAddr 63 t104 1
        · intro w L f hC hLi hLd hLn hF
          obtain ⟨d104, _⟩ := hF
          have d104 : f 104 = .pointer (some ⟨b, off + k * 9, none⟩) := d104
          refine Step2.live rfl ?_
          have ev : ∀ t, evalOf f (.tmp t) = f t := fun _ => rfl
          have ec : ∀ c, evalOf f (.const c) = c := fun _ => rfl
          refine relUpon_value ?_ (hC) (Writes.refl _ _) rfl
          go_simp
        -- 6: slot 106 := load 37 t105
        · intro w L f hC hLi hLd hLn hF
          obtain ⟨d105, _⟩ := hF
          have d105 : f 105 = .pointer (some ⟨b, off + k * 9 + 1, none⟩) := d105
          refine Step2.live rfl ?_
          have hcell := hC.1.fact3 fn.out
          have ev : ∀ t, evalOf f (.tmp t) = f t := fun _ => rfl
          have ec : ∀ c, evalOf f (.const c) = c := fun _ => rfl
          have ef : ∀ g, evalOf f (.func g) = .func (.func g) #[] #[] := fun _ => rfl
          refine relUpon_value ?_ hC (Writes.refl _ _) rfl
          go_simp
        -- 7: slot 107 := convert 37 2 t106
        · intro w L f hC hLi hLd hLn hF
          obtain ⟨d106, _⟩ := hF
          have d106 : f 106 = .int .u64 (p.n : Nat) := d106
          refine Step2.live rfl ?_
          have ev : ∀ t, evalOf f (.tmp t) = f t := fun _ => rfl
          have ec : ∀ c, evalOf f (.const c) = c := fun _ => rfl
          have ef : ∀ g, evalOf f (.func g) = .func (.func g) #[] #[] := fun _ => rfl
          refine relUpon_value ?_ hC (Writes.refl _ _) rfl
          go_simp
          exact wrap_64 _
        -- 8: slot 108 := binOp BinOp.eql 2 t101 t107 2
        · intro w L f hC hLi hLd hLn hF
          obtain ⟨d101, d107, _⟩ := hF
          have d101 : f 101 = .int .i64 (wrap64 p.n) := d101
          have d107 : f 107 = .int .i64 (wrap64 p.n) := d107
          refine Step2.live rfl ?_
          have ev : ∀ t, evalOf f (.tmp t) = f t := fun _ => rfl
          have ec : ∀ c, evalOf f (.const c) = c := fun _ => rfl
          refine relUpon_value ?_ (hC) (Writes.refl _ _) rfl
          go_simp
        -- 9: slot 9 := assign t108
        · intro w L f hC hLi hLd hLn hF
          obtain ⟨d108, _⟩ := hF
          have d108 : f 108 = .bool true := d108
          refine Step2.live rfl ?_
          exact relUpon_value (v := f 108) rfl (hC) (Writes.refl _ _) d108
      intro x w' hC hV

      have e9 : x 9 = .bool true := hV 9 _ rfl rfl
      clear hV
      simp only [framed]
      rw [e9]
      have hRx : Hid (Rdr w' gr (some tl)) := Lib.hid (by simpa using hC.2)
      have hkx := Lib.hid (hkr.out.trans (hC.1.below hkr.out.size (fun j hj => by have := hgw.out; simp at hj; omega)))
      clear hC
      go_wp2_with fail
      go_roundw
      case rel => exact ⟨k + 1, by omega, by go_num, by rw [hnx.out]; exact hRx.out, hkx.out⟩
      case measure => simp [intOf]; omega
    case inr.inr.inl =>
      have hrem : Int.tmod (p.what : Int) 5 = 2 := by rw [IntWalk.rem_in _ _ (by omega)]; omega
      have hE0 : putE p = txtE p.t := by simp [putE, q]
      obtain ⟨hv0, hn0⟩ := val_of (zero := []) (txt_b p.t tl (by have := hpo'.out.2.2.1; omega))
      rw [← hE0] at hv0 hn0
      have hval := Lib.hid hv0
      have hnxt := Lib.hid hn0
      clear hE0 hv0 hn0 q
      generalize putE p = e0 at hRd hval hnxt
      go_wp2_with fail
      clear q0 hrem
      -- THE REGION THAT DRAWS ITS ORDER, BY ONE LEXICAL WALK OVER GENERIC VALUES (written by relgen.py)
      refine wp_region_tab ((fun _ v => v = .pointer (some ⟨gr, 0, none⟩)) ::
        (fun _ v => v = .string p.t) ::
        (fun _ v => v = .slice (some ⟨b, off, none⟩) ps.length c) ::
        (fun _ v => v = .int .i64 k) ::
        (fun _ v => v = .pointer (some ⟨b, off + k * 9, none⟩)) ::
        (fun _ v => v = .pointer (some ⟨b, off + k * 9 + 2, none⟩)) ::
        (fun _ v => v = .string p.t) ::
        (fun _ v => v = .bool true) ::
        (fun _ v => v = .bool true) :: [])
        (⟨[(7, none)], 0, []⟩ :: ⟨[(111, some 0)], 0, []⟩ :: ⟨[(0, none)], 0, []⟩ :: ⟨[(8, none)], 0, []⟩ :: ⟨[(113, some 2), (114, some 3)], 0, []⟩ :: ⟨[(115, some 4)], 0, []⟩ :: ⟨[(116, some 5)], 0, []⟩ :: ⟨[(112, some 1), (117, some 6)], 0, []⟩ :: ⟨[(118, some 7)], 0, []⟩ :: [])
        (none :: none :: none :: none :: none :: none :: none :: none :: none :: some 8 :: none :: none :: none :: none :: none :: none :: none :: none :: none :: none :: none :: none :: none :: none :: none :: none :: none :: none :: none :: none :: none :: none :: none :: none :: none :: none :: none :: none :: none :: none :: none :: none :: none :: none :: none :: none :: none :: none :: none :: none :: none :: none :: none :: none :: none :: none :: none :: none :: none :: none :: none :: none :: none :: none :: none :: none :: none :: none :: none :: none :: none :: none :: none :: none :: none :: none :: none :: none :: none :: none :: none :: none :: none :: none :: none :: none :: none :: none :: none :: none :: none :: none :: none :: none :: none :: none :: none :: none :: none :: none :: none :: none :: none :: none :: none :: none :: none :: none :: none :: none :: none :: some 0 :: some 1 :: some 2 :: some 3 :: some 4 :: some 5 :: some 6 :: some 7 :: [])
        (fun L w' => Writes [some gr] wr w' ∧ Rdr w' gr (if L 1 then some tl else some (e0 ++ tl))) (fun _ w w' => Writes [some gr] w w') ?mixK28b28 ?okK28b28 ?tabK28b28 ?frK28b28 ?inK28b28 ?keptK28b28 ?startK28b28 ?eachK28b28 ?finK28b28
      case mixK28b28 => kernel_rfl
      case okK28b28 => kernel_rfl
      case tabK28b28 => kernel_rfl
      case frK28b28 => kernel_rfl
      case inK28b28 => rfl
      case keptK28b28 => exact ⟨fun _ _ _ _ _ _ _ h => h, fun _ _ _ _ _ _ _ h => h, fun _ _ _ _ _ _ _ h => h, fun _ _ _ _ _ _ _ h => h, fun _ _ _ _ _ _ _ h => h, fun _ _ _ _ _ _ _ h => h, fun _ _ _ _ _ _ _ h => h, fun _ _ _ _ _ _ _ h => h, fun _ _ _ _ _ _ _ h => h, trivial⟩
      case startK28b28 => exact ⟨Writes.of_below (Below.refl _ _).drew _, by have := hRd.out.below (w' := wr.drew) (Below.refl _ _).drew; simpa using this⟩
      case eachK28b28 =>
        refine ⟨?_, ?_, ?_, ?_, ?_, ?_, ?_, ?_, ?_, trivial⟩
        -- 0: slot 111 := move t7
        · intro w L f hC hLi hLd hLn hF
          obtain ⟨d7, _⟩ := hF
          have d7 : f 7 = .pointer (some ⟨gr, 0, none⟩) := d7
          refine Step2.live rfl ?_
          exact relUpon_value (v := f 7) rfl (hC) (Writes.refl _ _) d7
        -- 1: slot 112 := call { value (Operand.func 24), args := #[t111], argTypes := #[31] }
        · intro w L f hC hLi hLd hLn hF
          obtain ⟨d111, _⟩ := hF
          have d111 : f 111 = .pointer (some ⟨gr, 0, none⟩) := d111
          refine Step2.live rfl ?_
          have ev : ∀ t, evalOf f (.tmp t) = f t := fun _ => rfl
          have ec : ∀ c, evalOf f (.const c) = c := fun _ => rfl
          have ef : ∀ g, evalOf f (.func g) = .func (.func g) #[] #[] := fun _ => rfl
          refine relUpon_call (f := 24) (args := #[.pointer (some ⟨gr, 0, none⟩)]) (w := w) (by go_simp) (rText_any w gr (some (e0 ++ tl)) (by have := hC.2; rw [hLi] at this; exact this)) ?_
          rintro e w1 ⟨he, hR, hM⟩
          rw [hval.out] at he
          rw [hnxt.out] at hR
          exact ⟨_, he, ⟨hC.1.trans hM, by simpa using hR⟩, hM, (show Value.string (strV p.t.data.toList) = .string p.t by rw [strV_b])⟩
        -- 2: slot 113 := move t0
        · intro w L f hC hLi hLd hLn hF
          obtain ⟨d0, _⟩ := hF
          have d0 : f 0 = .slice (some ⟨b, off, none⟩) ps.length c := d0
          refine Step2.live rfl ?_
          exact relUpon_value (v := f 0) rfl (hC) (Writes.refl _ _) d0
        -- 3: slot 114 := move t8
        · intro w L f hC hLi hLd hLn hF
          obtain ⟨d8, _⟩ := hF
          have d8 : f 8 = .int .i64 k := d8
          refine Step2.live rfl ?_
          exact relUpon_value (v := f 8) rfl (hC) (Writes.refl _ _) d8
        -- 4: slot 115 := indexAddr 53 t113 t114
        · intro w L f hC hLi hLd hLn hF
          obtain ⟨d113, d114, _⟩ := hF
          have d113 : f 113 = .slice (some ⟨b, off, none⟩) ps.length c := d113
          have d114 : f 114 = .int .i64 k := d114
          refine Step2.live rfl ?_
          have ev : ∀ t, evalOf f (.tmp t) = f t := fun _ => rfl
          have ec : ∀ c, evalOf f (.const c) = c := fun _ => rfl
          refine relUpon_value ?_ (hC) (Writes.refl _ _) rfl
          go_simp
        -- 5: slot 116 := fieldAddr 63 t115 2
        · intro w L f hC hLi hLd hLn hF
          obtain ⟨d115, _⟩ := hF
          have d115 : f 115 = .pointer (some ⟨b, off + k * 9, none⟩) := d115
          refine Step2.live rfl ?_
          have ev : ∀ t, evalOf f (.tmp t) = f t := fun _ => rfl
          have ec : ∀ c, evalOf f (.const c) = c := fun _ => rfl
          refine relUpon_value ?_ (hC) (Writes.refl _ _) rfl
          go_simp
        -- 6: slot 117 := load 9 t116
        · intro w L f hC hLi hLd hLn hF
          obtain ⟨d116, _⟩ := hF
          have d116 : f 116 = .pointer (some ⟨b, off + k * 9 + 2, none⟩) := d116
          refine Step2.live rfl ?_
          have hcell := hC.1.fact3 ft.out
          have ev : ∀ t, evalOf f (.tmp t) = f t := fun _ => rfl
          have ec : ∀ c, evalOf f (.const c) = c := fun _ => rfl
          have ef : ∀ g, evalOf f (.func g) = .func (.func g) #[] #[] := fun _ => rfl
          refine relUpon_value ?_ hC (Writes.refl _ _) rfl
          go_simp
        -- 7: slot 118 := binOp BinOp.eql 9 t112 t117 9
        · intro w L f hC hLi hLd hLn hF
          obtain ⟨d112, d117, _⟩ := hF
          have d112 : f 112 = .string p.t := d112
          have d117 : f 117 = .string p.t := d117
          refine Step2.live rfl ?_
          have ev : ∀ t, evalOf f (.tmp t) = f t := fun _ => rfl
          have ec : ∀ c, evalOf f (.const c) = c := fun _ => rfl
          refine relUpon_value ?_ (hC) (Writes.refl _ _) rfl
          go_simp
        -- 8: slot 9 := assign t118
        · intro w L f hC hLi hLd hLn hF
          obtain ⟨d118, _⟩ := hF
          have d118 : f 118 = .bool true := d118
          refine Step2.live rfl ?_
          exact relUpon_value (v := f 118) rfl (hC) (Writes.refl _ _) d118
      intro x w' hC hV

      have e9 : x 8 = .bool true := hV 8 _ rfl rfl
      clear hV
      simp only [framed]
      rw [e9]
      have hRx : Hid (Rdr w' gr (some tl)) := Lib.hid (by simpa using hC.2)
      have hkx := Lib.hid (hkr.out.trans (hC.1.below hkr.out.size (fun j hj => by have := hgw.out; simp at hj; omega)))
      clear hC
      go_wp2_with fail
      go_roundw
      case rel => exact ⟨k + 1, by omega, by go_num, by rw [hnx.out]; exact hRx.out, hkx.out⟩
      case measure => simp [intOf]; omega
    case inr.inr.inr.inl =>
      have hrem : Int.tmod (p.what : Int) 5 = 3 := by rw [IntWalk.rem_in _ _ (by omega)]; omega
      have hE0 : putE p = boolE ((p.n : Int) % 2 == 1) := by simp [putE, q]
      obtain ⟨hv0, hn0⟩ := val_of (zero := false) (boolR_back ((p.n : Int) % 2 == 1) tl)
      rw [← hE0] at hv0 hn0
      have hval := Lib.hid hv0
      have hnxt := Lib.hid hn0
      clear hE0 hv0 hn0 q
      generalize putE p = e0 at hRd hval hnxt
      go_wp2_with fail
      clear q0 hrem
      -- THE REGION THAT DRAWS ITS ORDER, BY ONE LEXICAL WALK OVER GENERIC VALUES (written by relgen.py)
      refine wp_region_tab ((fun _ v => v = .pointer (some ⟨gr, 0, none⟩)) ::
        (fun _ v => v = .bool ((p.n : Int) % 2 == 1)) ::
        (fun _ v => v = .slice (some ⟨b, off, none⟩) ps.length c) ::
        (fun _ v => v = .int .i64 k) ::
        (fun _ v => v = .pointer (some ⟨b, off + k * 9, none⟩)) ::
        (fun _ v => v = .pointer (some ⟨b, off + k * 9 + 1, none⟩)) ::
        (fun _ v => v = .int .u64 (p.n : Nat)) ::
        (fun _ v => v = .int .u64 ((p.n : Int) % 2)) ::
        (fun _ v => v = .bool ((p.n : Int) % 2 == 1)) ::
        (fun _ v => v = .bool true) ::
        (fun _ v => v = .bool true) :: [])
        (⟨[(7, none)], 0, []⟩ :: ⟨[(121, some 0)], 0, []⟩ :: ⟨[(0, none)], 0, []⟩ :: ⟨[(8, none)], 0, []⟩ :: ⟨[(123, some 2), (124, some 3)], 0, []⟩ :: ⟨[(125, some 4)], 0, []⟩ :: ⟨[(126, some 5)], 0, []⟩ :: ⟨[(127, some 6)], 0, []⟩ :: ⟨[(128, some 7)], 0, []⟩ :: ⟨[(122, some 1), (129, some 8)], 0, []⟩ :: ⟨[(130, some 9)], 0, []⟩ :: [])
        (none :: none :: none :: none :: none :: none :: none :: none :: none :: some 10 :: none :: none :: none :: none :: none :: none :: none :: none :: none :: none :: none :: none :: none :: none :: none :: none :: none :: none :: none :: none :: none :: none :: none :: none :: none :: none :: none :: none :: none :: none :: none :: none :: none :: none :: none :: none :: none :: none :: none :: none :: none :: none :: none :: none :: none :: none :: none :: none :: none :: none :: none :: none :: none :: none :: none :: none :: none :: none :: none :: none :: none :: none :: none :: none :: none :: none :: none :: none :: none :: none :: none :: none :: none :: none :: none :: none :: none :: none :: none :: none :: none :: none :: none :: none :: none :: none :: none :: none :: none :: none :: none :: none :: none :: none :: none :: none :: none :: none :: none :: none :: none :: none :: none :: none :: none :: none :: none :: none :: none :: none :: none :: some 0 :: some 1 :: some 2 :: some 3 :: some 4 :: some 5 :: some 6 :: some 7 :: some 8 :: some 9 :: [])
        (fun L w' => Writes [some gr] wr w' ∧ Rdr w' gr (if L 1 then some tl else some (e0 ++ tl))) (fun _ w w' => Writes [some gr] w w') ?mixK30b30 ?okK30b30 ?tabK30b30 ?frK30b30 ?inK30b30 ?keptK30b30 ?startK30b30 ?eachK30b30 ?finK30b30
      case mixK30b30 => kernel_rfl
      case okK30b30 => kernel_rfl
      case tabK30b30 => kernel_rfl
      case frK30b30 => kernel_rfl
      case inK30b30 => rfl
      case keptK30b30 => exact ⟨fun _ _ _ _ _ _ _ h => h, fun _ _ _ _ _ _ _ h => h, fun _ _ _ _ _ _ _ h => h, fun _ _ _ _ _ _ _ h => h, fun _ _ _ _ _ _ _ h => h, fun _ _ _ _ _ _ _ h => h, fun _ _ _ _ _ _ _ h => h, fun _ _ _ _ _ _ _ h => h, fun _ _ _ _ _ _ _ h => h, fun _ _ _ _ _ _ _ h => h, fun _ _ _ _ _ _ _ h => h, trivial⟩
      case startK30b30 => exact ⟨Writes.of_below (Below.refl _ _).drew _, by have := hRd.out.below (w' := wr.drew) (Below.refl _ _).drew; simpa using this⟩
      case eachK30b30 =>
        refine ⟨?_, ?_, ?_, ?_, ?_, ?_, ?_, ?_, ?_, ?_, ?_, trivial⟩
        -- 0: slot 121 := move t7
        · intro w L f hC hLi hLd hLn hF
          obtain ⟨d7, _⟩ := hF
          have d7 : f 7 = .pointer (some ⟨gr, 0, none⟩) := d7
          refine Step2.live rfl ?_
          exact relUpon_value (v := f 7) rfl (hC) (Writes.refl _ _) d7
        -- 1: slot 122 := call { value (Operand.func 26), args := #[t121], argTypes := #[31] }
        · intro w L f hC hLi hLd hLn hF
          obtain ⟨d121, _⟩ := hF
          have d121 : f 121 = .pointer (some ⟨gr, 0, none⟩) := d121
          refine Step2.live rfl ?_
          have ev : ∀ t, evalOf f (.tmp t) = f t := fun _ => rfl
          have ec : ∀ c, evalOf f (.const c) = c := fun _ => rfl
          have ef : ∀ g, evalOf f (.func g) = .func (.func g) #[] #[] := fun _ => rfl
          refine relUpon_call (f := 26) (args := #[.pointer (some ⟨gr, 0, none⟩)]) (w := w) (by go_simp) (rBool_any w gr (some (e0 ++ tl)) (by have := hC.2; rw [hLi] at this; exact this)) ?_
          rintro e w1 ⟨he, hR, hM⟩
          rw [hval.out] at he
          rw [hnxt.out] at hR
          exact ⟨_, he, ⟨hC.1.trans hM, by simpa using hR⟩, hM, rfl⟩
        -- 2: slot 123 := move t0
        · intro w L f hC hLi hLd hLn hF
          obtain ⟨d0, _⟩ := hF
          have d0 : f 0 = .slice (some ⟨b, off, none⟩) ps.length c := d0
          refine Step2.live rfl ?_
          exact relUpon_value (v := f 0) rfl (hC) (Writes.refl _ _) d0
        -- 3: slot 124 := move t8
        · intro w L f hC hLi hLd hLn hF
          obtain ⟨d8, _⟩ := hF
          have d8 : f 8 = .int .i64 k := d8
          refine Step2.live rfl ?_
          exact relUpon_value (v := f 8) rfl (hC) (Writes.refl _ _) d8
        -- 4: slot 125 := indexAddr 53 t123 t124
        · intro w L f hC hLi hLd hLn hF
          obtain ⟨d123, d124, _⟩ := hF
          have d123 : f 123 = .slice (some ⟨b, off, none⟩) ps.length c := d123
          have d124 : f 124 = .int .i64 k := d124
          refine Step2.live rfl ?_
          have ev : ∀ t, evalOf f (.tmp t) = f t := fun _ => rfl
          have ec : ∀ c, evalOf f (.const c) = c := fun _ => rfl
          refine relUpon_value ?_ (hC) (Writes.refl _ _) rfl
          go_simp
        -- 5: slot 126 := fieldAddr 63 t125 1
        · intro w L f hC hLi hLd hLn hF
          obtain ⟨d125, _⟩ := hF
          have d125 : f 125 = .pointer (some ⟨b, off + k * 9, none⟩) := d125
          refine Step2.live rfl ?_
          have ev : ∀ t, evalOf f (.tmp t) = f t := fun _ => rfl
          have ec : ∀ c, evalOf f (.const c) = c := fun _ => rfl
          refine relUpon_value ?_ (hC) (Writes.refl _ _) rfl
          go_simp
        -- 6: slot 127 := load 37 t126
        · intro w L f hC hLi hLd hLn hF
          obtain ⟨d126, _⟩ := hF
          have d126 : f 126 = .pointer (some ⟨b, off + k * 9 + 1, none⟩) := d126
          refine Step2.live rfl ?_
          have hcell := hC.1.fact3 fn.out
          have ev : ∀ t, evalOf f (.tmp t) = f t := fun _ => rfl
          have ec : ∀ c, evalOf f (.const c) = c := fun _ => rfl
          have ef : ∀ g, evalOf f (.func g) = .func (.func g) #[] #[] := fun _ => rfl
          refine relUpon_value ?_ hC (Writes.refl _ _) rfl
          go_simp
        -- 7: slot 128 := binOp BinOp.rem 37 t127 (const (2:u64)) 37
        · intro w L f hC hLi hLd hLn hF
          obtain ⟨d127, _⟩ := hF
          have d127 : f 127 = .int .u64 (p.n : Nat) := d127
          refine Step2.live rfl ?_
          have ev : ∀ t, evalOf f (.tmp t) = f t := fun _ => rfl
          have ec : ∀ c, evalOf f (.const c) = c := fun _ => rfl
          have ef : ∀ g, evalOf f (.func g) = .func (.func g) #[] #[] := fun _ => rfl
          refine relUpon_value ?_ hC (Writes.refl _ _) rfl
          go_simp
          exact Int.tmod_eq_emod_of_nonneg (by omega)
        -- 8: slot 129 := binOp BinOp.eql 37 t128 (const (1:u64)) 37
        · intro w L f hC hLi hLd hLn hF
          obtain ⟨d128, _⟩ := hF
          have d128 : f 128 = .int .u64 ((p.n : Int) % 2) := d128
          refine Step2.live rfl ?_
          have ev : ∀ t, evalOf f (.tmp t) = f t := fun _ => rfl
          have ec : ∀ c, evalOf f (.const c) = c := fun _ => rfl
          refine relUpon_value ?_ (hC) (Writes.refl _ _) rfl
          go_simp
        -- 9: slot 130 := binOp BinOp.eql 4 t122 t129 4
        · intro w L f hC hLi hLd hLn hF
          obtain ⟨d122, d129, _⟩ := hF
          have d122 : f 122 = .bool ((p.n : Int) % 2 == 1) := d122
          have d129 : f 129 = .bool ((p.n : Int) % 2 == 1) := d129
          refine Step2.live rfl ?_
          have ev : ∀ t, evalOf f (.tmp t) = f t := fun _ => rfl
          have ec : ∀ c, evalOf f (.const c) = c := fun _ => rfl
          refine relUpon_value ?_ (hC) (Writes.refl _ _) rfl
          go_simp
        -- 10: slot 9 := assign t130
        · intro w L f hC hLi hLd hLn hF
          obtain ⟨d130, _⟩ := hF
          have d130 : f 130 = .bool true := d130
          refine Step2.live rfl ?_
          exact relUpon_value (v := f 130) rfl (hC) (Writes.refl _ _) d130
      intro x w' hC hV

      have e9 : x 10 = .bool true := hV 10 _ rfl rfl
      clear hV
      simp only [framed]
      rw [e9]
      have hRx : Hid (Rdr w' gr (some tl)) := Lib.hid (by simpa using hC.2)
      have hkx := Lib.hid (hkr.out.trans (hC.1.below hkr.out.size (fun j hj => by have := hgw.out; simp at hj; omega)))
      clear hC
      go_wp2_with fail
      go_roundw
      case rel => exact ⟨k + 1, by omega, by go_num, by rw [hnx.out]; exact hRx.out, hkx.out⟩
      case measure => simp [intOf]; omega
    case inr.inr.inr.inr =>
      have hrem : Int.tmod (p.what : Int) 5 = 4 := by rw [IntWalk.rem_in _ _ (by omega)]; omega
      have hE0 : putE p = smE p.s := by simp [putE, q]
      obtain ⟨hv0, hn0⟩ := val_of (zero := zeroSm) (sm_b p.s tl hpo'.out.2.2.2 (Nat.le_trans hpl.2.1 (by omega)) (Nat.le_trans hpl.2.2.1 (by omega)) hps'.out)
      rw [← hE0] at hv0 hn0
      have hval := Lib.hid hv0
      have hnxt := Lib.hid hn0
      clear hE0 hv0 hn0 q
      generalize putE p = e0 at hRd hval hnxt
      have f0 : Hid (Fact3 wr (some gr) ⟨b, off + k * 9 + 3, none⟩ (.slice A1 p.s.al.length c1)) := Lib.hid ⟨hbl.out, by simpa using fun e => hbg e.symm, hpt.out.s0⟩
      have f1 : Hid (Fact3 wr (some gr) ⟨b, off + k * 9 + 4, none⟩ (.bool p.s.ends)) := Lib.hid ⟨hbl.out, by simpa using fun e => hbg e.symm, hpt.out.s1⟩
      have f2 : Hid (Fact3 wr (some gr) ⟨b, off + k * 9 + 5, none⟩ (.bool p.s.ret.s)) := Lib.hid ⟨hbl.out, by simpa using fun e => hbg e.symm, hpt.out.s2⟩
      have f3 : Hid (Fact3 wr (some gr) ⟨b, off + k * 9 + 6, none⟩ (.int .i64 p.s.ret.lo)) := Lib.hid ⟨hbl.out, by simpa using fun e => hbg e.symm, hpt.out.s3⟩
      have f4 : Hid (Fact3 wr (some gr) ⟨b, off + k * 9 + 7, none⟩ (.int .i64 p.s.ret.hi)) := Lib.hid ⟨hbl.out, by simpa using fun e => hbg e.symm, hpt.out.s4⟩
      have f5 : Hid (Fact3 wr (some gr) ⟨b, off + k * 9 + 8, none⟩ (.slice A2 p.s.md.length c2)) := Lib.hid ⟨hbl.out, by simpa using fun e => hbg e.symm, hpt.out.s5⟩
      have hmd : Hid (p.s.md.length ≤ 1000) := Lib.hid (Nat.le_trans hpl.2.2.1 (by omega))
      have hA1 : Hid (p.s.al.flatMap Al.cells ≠ [] → blk A1 ≠ some gr) := Lib.hid fun hne e => by
        obtain ⟨b1, o1, e1, hb1, _⟩ := hpt.out.r1 hne
        rw [e1] at e
        simp [blk] at e
        have := hgw.out
        omega
      have hA2 : Hid (p.s.md.flatMap Nm.cells ≠ [] → blk A2 ≠ some gr) := Lib.hid fun hne e => by
        obtain ⟨b1, o1, e1, hb1, _⟩ := hpt.out.r2 hne
        rw [e1] at e
        simp [blk] at e
        have := hgw.out
        omega
      clear hpl
      go_wp2_with fail
      clear q0 hrem
      -- THE REGION THAT DRAWS ITS ORDER, BY ONE LEXICAL WALK OVER GENERIC VALUES (written by relgen.py)
      refine wp_region_tab ((fun _ v => v = .pointer (some ⟨gr, 0, none⟩)) ::
        (fun w v => SmV wr.heap.size w p.s.norm v) ::
        (fun _ v => v = .slice (some ⟨b, off, none⟩) ps.length c) ::
        (fun _ v => v = .int .i64 k) ::
        (fun _ v => v = .pointer (some ⟨b, off + k * 9, none⟩)) ::
        (fun _ v => v = .pointer (some ⟨b, off + k * 9 + 3, none⟩)) ::
        (fun _ v => v = .agg #[.slice A1 p.s.al.length c1, .bool p.s.ends, .bool p.s.ret.s, .int .i64 p.s.ret.lo, .int .i64 p.s.ret.hi, .slice A2 p.s.md.length c2]) ::
        (fun w v => PlV wr.heap.size A1 c1 p.s w v) ::
        (fun _ v => v = .bool true) ::
        (fun _ v => v = .bool true) :: [])
        (⟨[(7, none)], 0, []⟩ :: ⟨[(79, some 0)], 0, []⟩ :: ⟨[(0, none)], 0, []⟩ :: ⟨[(8, none)], 0, []⟩ :: ⟨[(81, some 2), (82, some 3)], 0, []⟩ :: ⟨[(83, some 4)], 0, []⟩ :: ⟨[(84, some 5)], 0, []⟩ :: ⟨[(85, some 6)], 0, []⟩ :: ⟨[(80, some 1), (86, some 7)], 0, []⟩ :: ⟨[(87, some 8)], 0, []⟩ :: [])
        (none :: none :: none :: none :: none :: none :: none :: none :: none :: some 9 :: none :: none :: none :: none :: none :: none :: none :: none :: none :: none :: none :: none :: none :: none :: none :: none :: none :: none :: none :: none :: none :: none :: none :: none :: none :: none :: none :: none :: none :: none :: none :: none :: none :: none :: none :: none :: none :: none :: none :: none :: none :: none :: none :: none :: none :: none :: none :: none :: none :: none :: none :: none :: none :: none :: none :: none :: none :: none :: none :: none :: none :: none :: none :: none :: none :: none :: none :: none :: none :: some 0 :: some 1 :: some 2 :: some 3 :: some 4 :: some 5 :: some 6 :: some 7 :: some 8 :: [])
        (fun L w' => Writes [some gr] wr w' ∧ Rdr w' gr (if L 1 then some tl else some (e0 ++ tl))) (fun _ w w' => Writes [some gr] w w') ?mixK22b22 ?okK22b22 ?tabK22b22 ?frK22b22 ?inK22b22 ?keptK22b22 ?startK22b22 ?eachK22b22 ?finK22b22
      case mixK22b22 => kernel_rfl
      case okK22b22 => kernel_rfl
      case tabK22b22 => kernel_rfl
      case frK22b22 => kernel_rfl
      case inK22b22 => rfl
      case keptK22b22 => exact ⟨fun _ _ _ _ _ _ _ h => h, fun _ _ _ => fun w w' v hG h => h.keep hG (fun j hj => by simp at hj; have := hgl.out; omega), fun _ _ _ _ _ _ _ h => h, fun _ _ _ _ _ _ _ h => h, fun _ _ _ _ _ _ _ h => h, fun _ _ _ _ _ _ _ h => h, fun _ _ _ _ _ _ _ h => h, fun _ _ _ => fun w w' v hG h => h.keep hG (by have := hgl.out; simp; omega), fun _ _ _ _ _ _ _ h => h, fun _ _ _ _ _ _ _ h => h, trivial⟩
      case startK22b22 => exact ⟨Writes.of_below (Below.refl _ _).drew _, by have := hRd.out.below (w' := wr.drew) (Below.refl _ _).drew; simpa using this⟩
      case eachK22b22 =>
        refine ⟨?_, ?_, ?_, ?_, ?_, ?_, ?_, ?_, ?_, ?_, trivial⟩
        -- 0: slot 79 := move t7
        · intro w L f hC hLi hLd hLn hF
          obtain ⟨d7, _⟩ := hF
          have d7 : f 7 = .pointer (some ⟨gr, 0, none⟩) := d7
          refine Step2.live rfl ?_
          exact relUpon_value (v := f 7) rfl (hC) (Writes.refl _ _) d7
        -- 1: slot 80 := call { value (Operand.func 39), args := #[t79], argTypes := #[31] }
        · intro w L f hC hLi hLd hLn hF
          obtain ⟨d79, _⟩ := hF
          have d79 : f 79 = .pointer (some ⟨gr, 0, none⟩) := d79
          refine Step2.live rfl ?_
          have ev : ∀ t, evalOf f (.tmp t) = f t := fun _ => rfl
          have ec : ∀ c, evalOf f (.const c) = c := fun _ => rfl
          have ef : ∀ g, evalOf f (.func g) = .func (.func g) #[] #[] := fun _ => rfl
          refine relUpon_call (f := 39) (args := #[.pointer (some ⟨gr, 0, none⟩)]) (w := w) (by go_simp) (rSm_any w gr (some (e0 ++ tl)) (by have := hC.2; rw [hLi] at this; exact this)) ?_
          rintro e w1 ⟨⟨v, he, hv⟩, hR, hM⟩
          rw [hval.out] at hv
          rw [hnxt.out] at hR
          exact ⟨_, he, ⟨hC.1.trans hM, by simpa using hR⟩, hM, hv.base hC.1.size⟩
        -- 2: slot 81 := move t0
        · intro w L f hC hLi hLd hLn hF
          obtain ⟨d0, _⟩ := hF
          have d0 : f 0 = .slice (some ⟨b, off, none⟩) ps.length c := d0
          refine Step2.live rfl ?_
          exact relUpon_value (v := f 0) rfl (hC) (Writes.refl _ _) d0
        -- 3: slot 82 := move t8
        · intro w L f hC hLi hLd hLn hF
          obtain ⟨d8, _⟩ := hF
          have d8 : f 8 = .int .i64 k := d8
          refine Step2.live rfl ?_
          exact relUpon_value (v := f 8) rfl (hC) (Writes.refl _ _) d8
        -- 4: slot 83 := indexAddr 53 t81 t82
        · intro w L f hC hLi hLd hLn hF
          obtain ⟨d81, d82, _⟩ := hF
          have d81 : f 81 = .slice (some ⟨b, off, none⟩) ps.length c := d81
          have d82 : f 82 = .int .i64 k := d82
          refine Step2.live rfl ?_
          have ev : ∀ t, evalOf f (.tmp t) = f t := fun _ => rfl
          have ec : ∀ c, evalOf f (.const c) = c := fun _ => rfl
          refine relUpon_value ?_ (hC) (Writes.refl _ _) rfl
          go_simp
        -- 5: slot 84 := fieldAddr 63 t83 3
        · intro w L f hC hLi hLd hLn hF
          obtain ⟨d83, _⟩ := hF
          have d83 : f 83 = .pointer (some ⟨b, off + k * 9, none⟩) := d83
          refine Step2.live rfl ?_
          have ev : ∀ t, evalOf f (.tmp t) = f t := fun _ => rfl
          have ec : ∀ c, evalOf f (.const c) = c := fun _ => rfl
          refine relUpon_value ?_ (hC) (Writes.refl _ _) rfl
          go_simp
        -- 6: slot 85 := load 61 t84
        · intro w L f hC hLi hLd hLn hF
          obtain ⟨d84, _⟩ := hF
          have d84 : f 84 = .pointer (some ⟨b, off + k * 9 + 3, none⟩) := d84
          refine Step2.live rfl ?_
          have hcell0 := hC.1.fact3 f0.out
          have hcell1 := hC.1.fact3 f1.out
          have hcell2 := hC.1.fact3 f2.out
          have hcell3 := hC.1.fact3 f3.out
          have hcell4 := hC.1.fact3 f4.out
          have hcell5 := hC.1.fact3 f5.out
          have ev : ∀ t, evalOf f (.tmp t) = f t := fun _ => rfl
          have ec : ∀ c, evalOf f (.const c) = c := fun _ => rfl
          have ef : ∀ g, evalOf f (.func g) = .func (.func g) #[] #[] := fun _ => rfl
          refine relUpon_value ?_ hC (Writes.refl _ _) rfl
          go_simp
        -- 7: slot 86 := call { value (Operand.func 41), args := #[t85], argTypes := #[61] }
        · intro w L f hC hLi hLd hLn hF
          obtain ⟨d85, _⟩ := hF
          have d85 : f 85 = .agg #[.slice A1 p.s.al.length c1, .bool p.s.ends, .bool p.s.ret.s, .int .i64 p.s.ret.lo, .int .i64 p.s.ret.hi, .slice A2 p.s.md.length c2] := d85
          refine Step2.live rfl ?_
          have ev : ∀ t, evalOf f (.tmp t) = f t := fun _ => rfl
          have ec : ∀ c, evalOf f (.const c) = c := fun _ => rfl
          have ef : ∀ g, evalOf f (.func g) = .func (.func g) #[] #[] := fun _ => rfl
          have hr2 : Row w w.heap.size A2 (p.s.md.flatMap Nm.cells) := (hC.1.row hpt.out.r2 hkr.out.size (fun hne hm => hA2.out hne (by simpa [blk] using hm))).more (Nat.le_trans hkr.out.size hC.1.size)
          refine relUpon_call (f := 41) (args := #[.agg #[.slice A1 p.s.al.length c1, .bool p.s.ends, .bool p.s.ret.s, .int .i64 p.s.ret.lo, .int .i64 p.s.ret.hi, .slice A2 p.s.md.length c2]]) (w := w) (by go_simp) (plain_B w w.heap.size (Lib.hid (Nat.le_refl _)) A1 p.s.al.length c1 p.s.md.length c2 A2 p.s.ends p.s.ret.s p.s.ret.lo p.s.ret.hi p.s.md (Lib.hid rfl) hmd.out (Lib.hid hr2)) ?_
          rintro e w1 ⟨⟨v2, he, ho⟩, hB⟩
          exact ⟨_, he, ⟨hC.1.trans (Writes.of_below hB _), hC.2.below hB⟩, Writes.of_below hB _, ⟨v2, rfl, own_base ho hC.1.size⟩⟩
        -- 8: slot 87 := call { value (Operand.func 38), args := #[t80, t86], argTypes := #[61, 61] }
        · intro w L f hC hLi hLd hLn hF
          obtain ⟨d80, d86, _⟩ := hF
          refine Step2.live rfl ?_
          obtain ⟨v2, e2, ho⟩ := d86
          obtain ⟨P1, p1, P2, p2, ea, ra1, ra2, ba1, ba2⟩ := SmV.rows d80
          obtain ⟨Q2, q2, e3, rb2, _⟩ := own_rowN ho
          rw [e3] at e2
          have h1 : p.s.norm.md.length = p.s.md.length := List.length_map ..
          have e2' : f 86 = .agg #[.slice A1 p.s.norm.al.length c1, .bool p.s.norm.ends, .bool p.s.norm.ret.s, .int .i64 p.s.norm.ret.lo, .int .i64 p.s.norm.ret.hi, .slice Q2 p.s.norm.md.length q2] := (by rw [e2, h1]; rfl)
          clear e2 h1
          have rb1 : Row w w.heap.size A1 (p.s.al.flatMap Al.cells) := (hC.1.row hpt.out.r1 hkr.out.size (fun hne hm => hA1.out hne (by simpa [blk] using hm))).more (Nat.le_trans hkr.out.size hC.1.size)
          have ev : ∀ t, evalOf f (.tmp t) = f t := fun _ => rfl
          have ec : ∀ c, evalOf f (.const c) = c := fun _ => rfl
          have ef : ∀ g, evalOf f (.func g) = .func (.func g) #[] #[] := fun _ => rfl
          refine relUpon_call (f := 38) (args := #[.agg #[.slice P1 p.s.norm.al.length p1, .bool p.s.norm.ends, .bool p.s.norm.ret.s, .int .i64 p.s.norm.ret.lo, .int .i64 p.s.norm.ret.hi, .slice P2 p.s.norm.md.length p2], .agg #[.slice A1 p.s.norm.al.length c1, .bool p.s.norm.ends, .bool p.s.norm.ret.s, .int .i64 p.s.norm.ret.lo, .int .i64 p.s.norm.ret.hi, .slice Q2 p.s.norm.md.length q2]]) (w := w) (by go_simp) (smEq_any w w.heap.size (Lib.hid (Nat.le_refl _)) P1 P2 A1 Q2 _ _ p1 p2 c1 q2 p.s.norm rfl rfl ba1 ba2 ra1 ra2 rb1 (by simpa [Sm.norm] using rb2)) ?_
          rintro e w1 ⟨he, hB⟩
          exact ⟨_, he, ⟨hC.1.trans (Writes.of_below hB _), hC.2.below hB⟩, Writes.of_below hB _, rfl⟩
        -- 9: slot 9 := assign t87
        · intro w L f hC hLi hLd hLn hF
          obtain ⟨d87, _⟩ := hF
          have d87 : f 87 = .bool true := d87
          refine Step2.live rfl ?_
          exact relUpon_value (v := f 87) rfl (hC) (Writes.refl _ _) d87
      intro x w' hC hV

      have e9 : x 9 = .bool true := hV 9 _ rfl rfl
      clear hV
      simp only [framed]
      rw [e9]
      have hRx : Hid (Rdr w' gr (some tl)) := Lib.hid (by simpa using hC.2)
      have hkx := Lib.hid (hkr.out.trans (hC.1.below hkr.out.size (fun j hj => by have := hgw.out; simp at hj; omega)))
      clear hC
      go_wp2_with fail
      go_roundw
      case rel => exact ⟨k + 1, by omega, by go_num, by rw [hnx.out]; exact hRx.out, hkx.out⟩
      case measure => simp [intOf]; omega
  obtain rfl : k = ps.length := by omega
  rw [List.drop_length] at hRd0
  have hRd := Lib.hid hRd0
  have hkE := Lib.hid (hk3.out.trans (hkr0.mono hB3.out))
  clear hRd0 hkr0
  go_wp2_with fail
  refine (done_any wr gr _ hRd.out).mono ?_
  rintro e w5 ⟨rfl, rfl⟩
  go_wp2_with fail
  go_ret
  exact ⟨rfl, hkE.out⟩
theorem Parts.lens {w : World} {B : Nat} {A : Option Addr} {ps : List Pt} (hA : Parts w B A ps) : ∀ p ∈ ps, p.s.al.length ≤ maxLen ∧ p.s.md.length ≤ maxLen := fun p hp => by
  obtain ⟨k, hk⟩ := List.getElem?_of_mem hp
  obtain ⟨css, _, _, _, h4⟩ := hA
  obtain ⟨cs, _, ss, _, A1, c1, A2, c2, _, _, _, h8, h9⟩ := h4 k p hk
  exact ⟨h8, h9⟩
theorem back_walk (W : World) (v0 : Value) (o0 : ArgOk 53 W v0) :
    Calls Try.prog 8 #[v0] W fun e w' => e = .returned (.bool true) ∧ Below W.heap.size W w' := by
  obtain ⟨A, n, c, ps, rfl, g1, g2, g3, g4, g5⟩ := o0.parts
  subst g1
  exact back_B W W.heap.size (Lib.hid (Nat.le_refl _)) A c ps (Lib.hid g5) (Nat.le_trans g2 g3) (Lib.hid g4) (Lib.hid (Parts.lens g5))
end Go.Proofs.Ytimhghmnnibajaa
