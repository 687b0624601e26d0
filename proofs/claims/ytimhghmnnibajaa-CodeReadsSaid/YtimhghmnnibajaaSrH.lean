/-
  The walk of CodeReads.
-/
import Derived.Test.YtimhghmnnibajaaSrG
import Derived.Test.YtimhghmnnibajaaCodeWc
namespace Go.Proofs.Ytimhghmnnibajaa
open Go.RowKit Go.ChangeShapes Go.WideShapes Go.Deep

/-- The bytes of the reference's reader lie in no block of package code's. -/
theorem Rrd.keepR {w w' : World} {gr gm : Nat} {st st2 : Option (List UInt8)} (h : Rrd w gm st) (hr : Rdr w gr st2) (hM : Writes [some gr] w w') (hne : gr ≠ gm) : Rrd w' gm st := by
  obtain ⟨A, n, c, h1, h2, h3⟩ := h
  refine ⟨A, n, c, hM.holds h1 (by simpa using hne.symm), h2, fun l e => ?_⟩
  obtain ⟨e1, e2, e3, e4⟩ := h3 l e
  refine ⟨e1, e2, (hM.row e3 (Nat.le_refl _) fun hl hm => ?_).more hM.size, e4⟩
  obtain ⟨b, off, rfl, hb, hc⟩ := e3 hl
  simp only [blk, Option.map_some, List.mem_cons, Option.some.injEq, List.mem_nil_iff, or_false] at hm
  subst hm
  obtain ⟨A', n', c', q1, _⟩ := hr
  cases l with
  | nil => exact hl rfl
  | cons x l =>
    have h4 := hc 0 _ (by simp; rfl)
    rw [q1.cell] at h4
    rcases off with _ | _ | off <;> simp [byteV] at h4
theorem Refd.rowc {w w' : World} {l : List UInt8} {e : Ending} (h : Refd w w.heap.size none l e w') : ∃ A c, e = .returned (.slice A l.length c) ∧ Bytes w' w'.heap.size A l ∧ l.length ≤ c ∧ Below w.heap.size w w' := by
  obtain ⟨v, rfl, ho, hM, _⟩ := h
  obtain ⟨A, c, rfl, hr, _, hc⟩ := own_row ho
  exact ⟨A, c, rfl, hr, hc, hM.below (Nat.le_refl _) (fun j hj => by simp at hj)⟩
theorem SmV.rows {n0 : Nat} {w : World} {s : Sm} {v : Value} (h : SmV n0 w s v) : ∃ A1 c1 A2 c2, v = .agg #[.slice A1 s.al.length c1, .bool s.ends, .bool s.ret.s, .int .i64 s.ret.lo, .int .i64 s.ret.hi, .slice A2 s.md.length c2] ∧ Row w w.heap.size A1 (s.al.flatMap Al.cells) ∧ Row w w.heap.size A2 (s.md.flatMap Nm.cells) ∧ s.al.length ≤ maxLen ∧ s.md.length ≤ maxLen := by
  obtain ⟨v1, v2, rfl, o1, o2⟩ := h
  have b1 : s.al.length ≤ maxLen := by
    rcases o1.2 with ⟨_, h⟩ | ⟨_, _, _, _, _, _, h1, h2, _⟩
    · rw [h]; exact Nat.zero_le _
    · exact Nat.le_trans h1 h2
  have b2 : s.md.length ≤ maxLen := by
    rcases o2.2 with ⟨_, h⟩ | ⟨_, _, _, _, _, _, h1, h2, _⟩
    · rw [h]; exact Nat.zero_le _
    · exact Nat.le_trans h1 h2
  obtain ⟨A1, c1, rfl, r1, _⟩ := own_rowN o1
  obtain ⟨A2, c2, rfl, r2, _⟩ := own_rowN o2
  exact ⟨A1, c1, A2, c2, rfl, r1, r2, b1, b2⟩

set_option maxRecDepth 100000 in
set_option maxHeartbeats 16000000 in
theorem reads_B (W : World) (B0 : Nat) (hB0 : Hid (B0 ≤ W.heap.size)) (A0 : Option Addr) (n0 c0 : Nat) (l0 : List UInt8) (hl0 : Hid (l0.length = n0)) (hc0 : Hid (n0 ≤ c0)) (hb0 : Hid (Bytes W W.heap.size A0 l0)) (A : Option Addr) (c : Nat) (ps : List Pt) (hP0 : Hid (Parts W W.heap.size A ps)) (hm : ps.length ≤ maxLen) (hs : Hid (∀ p ∈ ps, p.ok maxLen)) (hsl : Hid (∀ p ∈ ps, p.s.al.length ≤ maxLen ∧ p.s.md.length ≤ maxLen))
    (Ah : Option Addr) (nh ch : Nat) (lh : List UInt8) (hlh : Hid (lh.length = nh)) (hbh : Hid (Bytes W W.heap.size Ah lh)) :
    Calls Try.prog 7 #[.slice A0 n0 c0, .slice A ps.length c, .slice Ah nh ch] W fun e w' => e = .returned (.bool true) ∧ Below B0 W w' := by
  go_enter Try.func7, Try.ntmps7
  go_wp2_with fail
  refine (known_any _).mono ?_
  rintro e w1 ⟨rfl, h1⟩
  have hb1 := Lib.hid (hb0.out.up h1)
  have hh1 := Lib.hid (hbh.out.up h1)
  have hB1 := Lib.hid (Nat.le_trans hB0.out h1.size)
  have hk1 := Lib.hid (h1.mono hB0.out)
  have hP1 := Lib.hid (hP0.out.up h1)
  clear h1 hb0 hP0 hbh
  rcases (show (500 < n0 ∧ 0 < 1) ∨ (n0 ≤ 500 ∧ 30 < nh) ∨ (n0 ≤ 500 ∧ nh ≤ 30) by omega) with hc | hc | hc
  all_goals obtain ⟨m1, m2⟩ := hc
  rotate_right
  all_goals go_wp2_with fail
  rotate_left
  all_goals try (go_ret; exact ⟨rfl, hk1.out⟩)
  refine (light_any w1 A c ps hP1.out hm hs.out hsl.out).mono ?_
  rintro e w2 ⟨he, h2⟩
  have hb2 := Lib.hid (hb1.out.up h2)
  have hP2 := Lib.hid (hP1.out.up h2)
  have hh2 := Lib.hid (hh1.out.up h2)
  have hB2 := Lib.hid (Nat.le_trans hB1.out h2.size)
  have hk2 := Lib.hid (hk1.out.trans (h2.mono hB1.out))
  clear h2 hb1 hP1 hh1 hB1 hk1
  rcases he with ⟨rfl, hlen, hl⟩ | rfl
  case inr =>
    go_wp2_with fail
    go_ret
    exact ⟨rfl, hk2.out⟩
  have hl' := Lib.hid hl
  have hok : Hid (∀ p ∈ ps, p.ok 1000) := Lib.hid fun p hp => Pt.ok_of_light (hs.out p hp) (hl p hp)
  clear hl hm hs hsl
  go_wp2_with fail
  go_loopw [0, 7] (fun bv i wr => ∃ (k : Nat) (Ab : Option Addr) (nb cb : Nat), k ≤ ps.length ∧ i = .int .i64 k ∧ bv = .slice Ab nb cb ∧ nb ≤ cb ∧ (l0 ++ (ps.take k).flatMap putE).length = nb ∧ Bytes wr wr.heap.size Ab (l0 ++ (ps.take k).flatMap putE) ∧ Below w2.heap.size w2 wr) (fun _ i _ => ps.length - (intOf i).toNat)
  case atStart => exact ⟨0, _, _, _, by omega, rfl, rfl, hc0.out, by simpa using hl0.out, by simpa using hb2.out, Below.refl _ _⟩
  clear hb2
  obtain ⟨k, Ab, nb, cb, hk, rfl, rfl, hnc, hnb, hcur, hkr⟩ := hrel
  have hcl : (l0 ++ (ps.take k).flatMap putE).length ≤ 30000000 := by
    have := flat_len' putE 1200000 ps (fun p hp => putE_len (hok.out p hp) (hl'.out p hp)) k
    have h0 := hl0.out
    simp only [List.length_append]
    omega
  by_cases hlt : k < ps.length
  case pos =>
    have hpo := hok.out _ (List.getElem_mem hlt)
    have hpl := hl'.out _ (List.getElem_mem hlt)
    obtain ⟨b, off, A1, c1, A2, c2, rfl, hpt0⟩ := (hP2.out.below hkr).at_ hlt
    have hft := Lib.hid (flat_take putE ps k hlt)
    have hpt := Lib.hid (show PtAt wr wr.heap.size b off k ps[k] A1 c1 A2 c2 from ⟨Nat.lt_of_lt_of_le hpt0.lt hkr.size, hpt0.what, hpt0.n, hpt0.t, hpt0.s0, hpt0.s1, hpt0.s2, hpt0.s3, hpt0.s4, hpt0.s5, hpt0.r1.more hkr.size, hpt0.r2.more hkr.size⟩)
    generalize ps[k] = p at *
    have hal : Hid (p.s.al.length ≤ 1000) := Lib.hid (Nat.le_trans hpl.2.1 (by omega))
    have hmd : Hid (p.s.md.length ≤ 1000) := Lib.hid (Nat.le_trans hpl.2.2.1 (by omega))
    have hpo' := Lib.hid hpo
    have hnb' := Lib.hid hnb
    have hcur' := Lib.hid hcur
    have hcl' := Lib.hid hcl
    have hkr' := Lib.hid hkr
    have hnc' := Lib.hid hnc
    clear hpo hpl hpt0 hnb hcur hcl hkr hnc
    have hpo := hpo'
    have hnb := hnb'
    have hcl := hcl'
    clear hpo' hnb' hcl'
    have hcurE : Hid (l0 ++ (ps.take (k + 1)).flatMap putE = l0 ++ (ps.take k).flatMap putE ++ putE p) := Lib.hid (by rw [hft.out, List.append_assoc])
    generalize l0 ++ (ps.take k).flatMap putE = cur at *
    have hcur := hcur'
    clear hcur' hft
    have hnbb : nb ≤ 30000000 := by have := hnb.out; have := hcl.out; omega
    have hncc : nb ≤ cb := hnc'.out
    go_wp2_with fail
    -- THE REGION THAT DRAWS ITS ORDER, BY ONE LEXICAL WALK OVER GENERIC VALUES (written by relgen.py)
    refine wp_region_tab ((fun _ v => v = .slice Ab nb cb) ::
      (fun _ v => v = .slice Ab nb cb) ::
      (fun _ v => v = .int .i64 nb) ::
      (fun _ v => v = .slice Ab nb cb) ::
      (fun _ v => v = .int .i64 nb) ::
      (fun _ v => v = .slice Ab nb nb) ::
      (fun _ v => v = .slice (some ⟨b, off, none⟩) ps.length c) ::
      (fun _ v => v = .int .i64 k) ::
      (fun _ v => v = .pointer (some ⟨b, off + k * 9, none⟩)) ::
      (fun _ v => v = .agg #[.int .u8 p.what, .int .u64 p.n, .string p.t, .slice A1 p.s.al.length c1, .bool p.s.ends, .bool p.s.ret.s, .int .i64 p.s.ret.lo, .int .i64 p.s.ret.hi, .slice A2 p.s.md.length c2]) ::
      (fun w v => ∃ A' c', v = .slice A' (cur ++ putE p).length c' ∧ Bytes w w.heap.size A' (cur ++ putE p) ∧ (cur ++ putE p).length ≤ c') ::
      (fun w v => ∃ A' c', v = .slice A' (cur ++ putE p).length c' ∧ Bytes w w.heap.size A' (cur ++ putE p) ∧ (cur ++ putE p).length ≤ c') :: [])
      (⟨[(0, none)], 0, []⟩ :: ⟨[(0, none)], 0, []⟩ :: ⟨[(34, some 1)], 0, []⟩ :: ⟨[(0, none)], 0, []⟩ :: ⟨[(36, some 3)], 0, []⟩ :: ⟨[(33, some 0), (35, some 2), (37, some 4)], 0, []⟩ :: ⟨[(1, none)], 0, []⟩ :: ⟨[(7, none)], 0, []⟩ :: ⟨[(39, some 6), (40, some 7)], 0, []⟩ :: ⟨[(41, some 8)], 0, []⟩ :: ⟨[(38, some 5), (42, some 9)], 0, []⟩ :: ⟨[(43, some 10)], 0, []⟩ :: [])
      (some 11 :: none :: none :: none :: none :: none :: none :: none :: none :: none :: none :: none :: none :: none :: none :: none :: none :: none :: none :: none :: none :: none :: none :: none :: none :: none :: none :: none :: none :: none :: none :: none :: none :: some 0 :: some 1 :: some 2 :: some 3 :: some 4 :: some 5 :: some 6 :: some 7 :: some 8 :: some 9 :: some 10 :: [])
      (fun _ w' => Below wr.heap.size wr w') (fun _ w w' => Below w.heap.size w w') ?mixK8 ?okK8 ?tabK8 ?frK8 ?inK8 ?keptK8 ?startK8 ?eachK8 ?finK8
    case mixK8 => kernel_rfl
    case okK8 => kernel_rfl
    case tabK8 => kernel_rfl
    case frK8 => kernel_rfl
    case inK8 => rfl
    case keptK8 => exact ⟨fun _ _ _ _ _ _ _ h => h, fun _ _ _ _ _ _ _ h => h, fun _ _ _ _ _ _ _ h => h, fun _ _ _ _ _ _ _ h => h, fun _ _ _ _ _ _ _ h => h, fun _ _ _ _ _ _ _ h => h, fun _ _ _ _ _ _ _ h => h, fun _ _ _ _ _ _ _ h => h, fun _ _ _ _ _ _ _ h => h, fun _ _ _ _ _ _ _ h => h, fun _ _ _ => fun w w' v hG ⟨A', c', e, h, hl⟩ => ⟨A', c', e, h.up hG, hl⟩, fun _ _ _ => fun w w' v hG ⟨A', c', e, h, hl⟩ => ⟨A', c', e, h.up hG, hl⟩, trivial⟩
    case startK8 => exact (Below.refl _ _).drew
    case eachK8 =>
      refine ⟨?_, ?_, ?_, ?_, ?_, ?_, ?_, ?_, ?_, ?_, ?_, ?_, trivial⟩
      -- 0: slot 33 := move t0
      · intro w L f hC hLi hLd hLn hF
        obtain ⟨d0, _⟩ := hF
        have d0 : f 0 = .slice Ab nb cb := d0
        refine Step2.live rfl ?_
        exact relUpon_value (v := f 0) rfl (hC) (Below.refl _ _) d0
      -- 1: slot 34 := move t0
      · intro w L f hC hLi hLd hLn hF
        obtain ⟨d0, _⟩ := hF
        have d0 : f 0 = .slice Ab nb cb := d0
        refine Step2.live rfl ?_
        exact relUpon_value (v := f 0) rfl (hC) (Below.refl _ _) d0
      -- 2: slot 35 := call { builtin len, args := #[t34], argTypes := #[26] }
      · intro w L f hC hLi hLd hLn hF
        obtain ⟨d34, _⟩ := hF
        have d34 : f 34 = .slice Ab nb cb := d34
        refine Step2.live rfl ?_
        have ev : ∀ t, evalOf f (.tmp t) = f t := fun _ => rfl
        have ec : ∀ c, evalOf f (.const c) = c := fun _ => rfl
        refine relUpon_value ?_ (hC) (Below.refl _ _) rfl
        go_simp
      -- 3: slot 36 := move t0
      · intro w L f hC hLi hLd hLn hF
        obtain ⟨d0, _⟩ := hF
        have d0 : f 0 = .slice Ab nb cb := d0
        refine Step2.live rfl ?_
        exact relUpon_value (v := f 0) rfl (hC) (Below.refl _ _) d0
      -- 4: slot 37 := call { builtin len, args := #[t36], argTypes := #[26] }
      · intro w L f hC hLi hLd hLn hF
        obtain ⟨d36, _⟩ := hF
        have d36 : f 36 = .slice Ab nb cb := d36
        refine Step2.live rfl ?_
        have ev : ∀ t, evalOf f (.tmp t) = f t := fun _ => rfl
        have ec : ∀ c, evalOf f (.const c) = c := fun _ => rfl
        refine relUpon_value ?_ (hC) (Below.refl _ _) rfl
        go_simp
      -- 5: slot 38 := slice 26 t33 none (some t35) (some t37)
      · intro w L f hC hLi hLd hLn hF
        obtain ⟨d33, d35, d37, _⟩ := hF
        have d33 : f 33 = .slice Ab nb cb := d33
        have d35 : f 35 = .int .i64 nb := d35
        have d37 : f 37 = .int .i64 nb := d37
        refine Step2.live rfl ?_
        have ev : ∀ t, evalOf f (.tmp t) = f t := fun _ => rfl
        have ec : ∀ c, evalOf f (.const c) = c := fun _ => rfl
        refine relUpon_value ?_ (hC) (Below.refl _ _) rfl
        go_simp
      -- 6: slot 39 := move t1
      · intro w L f hC hLi hLd hLn hF
        obtain ⟨d1, _⟩ := hF
        have d1 : f 1 = .slice (some ⟨b, off, none⟩) ps.length c := d1
        refine Step2.live rfl ?_
        exact relUpon_value (v := f 1) rfl (hC) (Below.refl _ _) d1
      -- 7: slot 40 := move t7
      · intro w L f hC hLi hLd hLn hF
        obtain ⟨d7, _⟩ := hF
        have d7 : f 7 = .int .i64 k := d7
        refine Step2.live rfl ?_
        exact relUpon_value (v := f 7) rfl (hC) (Below.refl _ _) d7
      -- 8: slot 41 := indexAddr 53 t39 t40
      · intro w L f hC hLi hLd hLn hF
        obtain ⟨d39, d40, _⟩ := hF
        have d39 : f 39 = .slice (some ⟨b, off, none⟩) ps.length c := d39
        have d40 : f 40 = .int .i64 k := d40
        refine Step2.live rfl ?_
        have ev : ∀ t, evalOf f (.tmp t) = f t := fun _ => rfl
        have ec : ∀ c, evalOf f (.const c) = c := fun _ => rfl
        refine relUpon_value ?_ (hC) (Below.refl _ _) rfl
        go_simp
      -- 9: slot 42 := load 63 t41
      · intro w L f hC hLi hLd hLn hF
        obtain ⟨d41, _⟩ := hF
        have d41 : f 41 = .pointer (some ⟨b, off + k * 9, none⟩) := d41
        refine Step2.live rfl ?_
        have q0 := (hpt.out.below hC).what
        have q1 := (hpt.out.below hC).n
        have q2 := (hpt.out.below hC).t
        have q3 := (hpt.out.below hC).s0
        have q4 := (hpt.out.below hC).s1
        have q5 := (hpt.out.below hC).s2
        have q6 := (hpt.out.below hC).s3
        have q7 := (hpt.out.below hC).s4
        have q8 := (hpt.out.below hC).s5
        have ev : ∀ t, evalOf f (.tmp t) = f t := fun _ => rfl
        have ec : ∀ c, evalOf f (.const c) = c := fun _ => rfl
        have ef : ∀ g, evalOf f (.func g) = .func (.func g) #[] #[] := fun _ => rfl
        refine relUpon_value ?_ hC (Below.refl _ _) rfl
        go_simp
      -- 10: slot 43 := call { value (Operand.func 30), args := #[t38, t42], argTypes := #[26, 63] }
      · intro w L f hC hLi hLd hLn hF
        obtain ⟨d38, d42, _⟩ := hF
        have d38 : f 38 = .slice Ab nb nb := d38
        have d42 : f 42 = .agg #[.int .u8 p.what, .int .u64 p.n, .string p.t, .slice A1 p.s.al.length c1, .bool p.s.ends, .bool p.s.ret.s, .int .i64 p.s.ret.lo, .int .i64 p.s.ret.hi, .slice A2 p.s.md.length c2] := d42
        refine Step2.live rfl ?_
        have ev : ∀ t, evalOf f (.tmp t) = f t := fun _ => rfl
        have ec : ∀ c, evalOf f (.const c) = c := fun _ => rfl
        have ef : ∀ g, evalOf f (.func g) = .func (.func g) #[] #[] := fun _ => rfl
        refine relUpon_call (f := 30) (args := #[.slice Ab nb nb, .agg #[.int .u8 p.what, .int .u64 p.n, .string p.t, .slice A1 p.s.al.length c1, .bool p.s.ends, .bool p.s.ret.s, .int .i64 p.s.ret.lo, .int .i64 p.s.ret.hi, .slice A2 p.s.md.length c2]]) (w := w) (by go_simp) (put_any w w.heap.size (.slice Ab nb nb) cur none p A1 A2 p.s.al.length c1 p.s.md.length c2 (.inr ⟨rfl, Ab, by rw [hnb.out], (hcur.out.up hC)⟩) (Nat.le_refl _) hpo.out rfl rfl hal.out hmd.out (((hpt.out.below hC).r1).more hC.size) (fun _ => .inl rfl) (((hpt.out.below hC).r2).more hC.size) (fun _ => .inl rfl) (by have := hcl.out; have := hnb.out; omega)) ?_
        rintro e w1 h
        obtain ⟨A', c', he, hb, hl, hB⟩ := h.rowc
        exact ⟨_, he, hC.trans (hB.mono hC.size), hB, ⟨A', c', rfl, hb, hl⟩⟩
      -- 11: slot 0 := assign t43
      · intro w L f hC hLi hLd hLn hF
        obtain ⟨d43, _⟩ := hF
        refine Step2.live rfl ?_
        exact relUpon_value (v := f 43) rfl (hC) (Below.refl _ _) d43
    intro x w' hC hV

    obtain ⟨A', c', e0, hb', hc'⟩ := hV 11 _ rfl rfl
    clear hV
    simp only [framed]
    rw [e0]
    have hbx := Lib.hid hb'
    have hcx := Lib.hid hc'
    have hkx := Lib.hid (hkr'.out.trans (hC.mono hkr'.out.size))
    clear hb' hc' hC hkr' hpt
    go_wp2_with fail
    go_roundw
    case rel =>
      refine ⟨k + 1, A', _, c', by omega, by go_num, rfl, hcx.out, ?_, ?_, hkx.out⟩
      · rw [hcurE.out]
      · rw [hcurE.out]; exact hbx.out
    case measure => simp [intOf]; omega
  obtain rfl : k = ps.length := by omega
  rw [List.take_length] at hnb hcur hcl
  have hh3 := Lib.hid (hh2.out.up hkr)
  have hB3 := Lib.hid (Nat.le_trans hB2.out hkr.size)
  have hk3 := Lib.hid (hk2.out.trans (hkr.mono hB2.out))
  have hcur' := Lib.hid hcur
  have hnb' := Lib.hid hnb
  have hnc' := Lib.hid hnc
  have hnbb : nb ≤ 30000000 := by omega
  clear hkr hcur hnb hnc hcl hl' hok hlen hk hlt hh2 hB2 hk2 hP2
  generalize l0 ++ ps.flatMap putE = lb at hcur' hnb'
  go_wp2_with fail
  refine (newReader_len wr Ab nb cb lb hcur'.out hnb'.out (by omega)).mono ?_
  rintro e w4 ⟨gr, rfl, hgr, hRd0, h4⟩
  have hbn := below_new w4 (.cells #[.slice Ab nb cb, .bool false] 69)
  have hR5 := Lib.hid (hRd0.below hbn)
  have hM5 : Hid (Rrd (w4.alloc (.cells #[.slice Ab nb cb, .bool false] 69)) w4.heap.size (some lb)) := Lib.hid (by
    have hby := hcur'.out.up h4
    refine ⟨Ab, nb, cb, Holds.new _ _ _, by omega, fun l' e => ?_⟩
    cases e
    refine ⟨hnb'.out, hnc'.out, hby.up hbn, fun hne a ha => ?_⟩
    obtain ⟨b, off, e2, hb, _⟩ := hby (by simpa using hne)
    rw [e2] at ha
    cases ha
    exact hb)
  have hord := Lib.hid (show wr.heap.size ≤ gr ∧ gr < w4.heap.size from ⟨hgr, hRd0.lt⟩)
  have hk5 := Lib.hid (h4.trans (hbn.mono h4.size))
  clear hRd0 h4 hbn hgr hcur' hnb' hnc'
  go_wp2_with fail
  generalize w4.alloc (.cells #[.slice Ab nb cb, .bool false] 69) = w5 at hR5 hM5 hk5 ⊢
  generalize w4.heap.size = gm at hM5 hord ⊢
  obtain ⟨w3, hw3⟩ : ∃ w, w = wr := ⟨_, rfl⟩
  rw [← hw3] at hk5 hord hh3 hB3 hk3
  clear hw3
  go_loopw [10] (fun i wr => ∃ (k : Nat) (st : Option (List UInt8)), k ≤ nh ∧ i = .int .i64 k ∧ Rdr wr gr st ∧ Rrd wr gm st ∧ Below w3.heap.size w3 wr) (fun i _ => nh - (intOf i).toNat)
  case atStart => exact ⟨0, some lb, by omega, rfl, hR5.out, hM5.out, hk5.out⟩
  clear hR5 hM5 hk5
  obtain ⟨k, st, hk, rfl, hRd0, hRm0, hkr0⟩ := hrel
  have hRd := Lib.hid hRd0
  have hRm := Lib.hid hRm0
  have hkr := Lib.hid hkr0
  clear hRd0 hRm0 hkr0
  by_cases hlt : k < nh
  case pos =>
    obtain ⟨bh, oh, rfl, _, hcell⟩ := (hh3.out.up hkr.out).at_ (k := k) (by rw [hlh.out]; exact hlt)
    generalize (lh[k]'(by rw [hlh.out]; exact hlt)) = y at hcell
    rcases (show y.toNat % 5 = 0 ∨ y.toNat % 5 = 1 ∨ y.toNat % 5 = 2 ∨ y.toNat % 5 = 3 ∨ y.toNat % 5 = 4 by omega) with q | q | q | q | q
    case inl =>
      have hrem : Int.tmod (y.toNat : Int) 5 = 0 := by rw [IntWalk.rem_in _ _ (by have := y.toNat_lt; omega)]; omega
      clear q
      go_wp2_with fail
      refine (rNum_any _ gr st hRd.out).mono ?_
      rintro e x1 ⟨he, hRa, hMa⟩
      have he2 : e = .returned (.int .u64 ((valOf numR 0 st : Nat) : Int)) := he
      clear he
      subst he2
      have hRm2 := Lib.hid (hRm.out.keepR hRd.out hMa (by have := hord.out; omega))
      have hRa' := Lib.hid hRa
      have hMa' := Lib.hid hMa
      clear hRa hMa hRm hRd
      go_wp2_with fail
      refine (rrNum_any _ gm st hRm2.out).mono ?_
      rintro e x2 ⟨he, hRb, hMb⟩
      have he2 : e = .returned (.int .u64 ((valOf numR 0 st : Nat) : Int)) := he
      clear he
      subst he2
      have hRa2 := Lib.hid (hRa'.out.keep hMb (fun j hj => by simp at hj; have := hord.out; omega))
      have hbx := Lib.hid ((hkr.out.trans (hMa'.out.below hkr.out.size (fun j hj => by simp at hj; have := hord.out; omega))).trans (hMb.below (Nat.le_trans hkr.out.size hMa'.out.size) (fun j hj => by simp at hj; have := hord.out; omega)))
      have hRb' := Lib.hid hRb
      clear hRb hMb hRm2 hRa' hMa' hkr
      generalize valOf numR 0 st = v at *
      go_wp2_with fail
      go_roundw
      case rel => exact ⟨k + 1, _, by omega, by go_num, hRa2.out, hRb'.out, hbx.out⟩
      case measure => simp [intOf]; omega
    case inr.inl =>
      have hrem : Int.tmod (y.toNat : Int) 5 = 1 := by rw [IntWalk.rem_in _ _ (by have := y.toNat_lt; omega)]; omega
      clear q
      go_wp2_with fail
      refine (rInt_any _ gr st hRd.out).mono ?_
      rintro e x1 ⟨he, hRa, hMa⟩
      have he2 : e = .returned (.int .i64 (valOf intR 0 st)) := he
      clear he
      subst he2
      have hRm2 := Lib.hid (hRm.out.keepR hRd.out hMa (by have := hord.out; omega))
      have hRa' := Lib.hid hRa
      have hMa' := Lib.hid hMa
      clear hRa hMa hRm hRd
      go_wp2_with fail
      refine (whole_any2 _ gm st hRm2.out).mono ?_
      rintro e x2 ⟨he, hRb, hMb⟩
      have he2 : e = .returned (.int .i64 (valOf intR 0 st)) := he
      clear he
      subst he2
      have hRa2 := Lib.hid (hRa'.out.keep hMb (fun j hj => by simp at hj; have := hord.out; omega))
      have hbx := Lib.hid ((hkr.out.trans (hMa'.out.below hkr.out.size (fun j hj => by simp at hj; have := hord.out; omega))).trans (hMb.below (Nat.le_trans hkr.out.size hMa'.out.size) (fun j hj => by simp at hj; have := hord.out; omega)))
      have hRb' := Lib.hid hRb
      clear hRb hMb hRm2 hRa' hMa' hkr
      generalize valOf intR 0 st = v at *
      go_wp2_with fail
      go_roundw
      case rel => exact ⟨k + 1, _, by omega, by go_num, hRa2.out, hRb'.out, hbx.out⟩
      case measure => simp [intOf]; omega
    case inr.inr.inl =>
      have hrem : Int.tmod (y.toNat : Int) 5 = 2 := by rw [IntWalk.rem_in _ _ (by have := y.toNat_lt; omega)]; omega
      clear q
      go_wp2_with fail
      refine (rText_any _ gr st hRd.out).mono ?_
      rintro e x1 ⟨he, hRa, hMa⟩
      have he2 : e = .returned (.string (strV (valOf textR [] st))) := he
      clear he
      subst he2
      have hRm2 := Lib.hid (hRm.out.keepR hRd.out hMa (by have := hord.out; omega))
      have hRa' := Lib.hid hRa
      have hMa' := Lib.hid hMa
      clear hRa hMa hRm hRd
      go_wp2_with fail
      refine (rrText_any _ gm st hRm2.out).mono ?_
      rintro e x2 ⟨he, hRb, hMb⟩
      have he2 : e = .returned (.string (strV (valOf textR [] st))) := he
      clear he
      subst he2
      have hRa2 := Lib.hid (hRa'.out.keep hMb (fun j hj => by simp at hj; have := hord.out; omega))
      have hbx := Lib.hid ((hkr.out.trans (hMa'.out.below hkr.out.size (fun j hj => by simp at hj; have := hord.out; omega))).trans (hMb.below (Nat.le_trans hkr.out.size hMa'.out.size) (fun j hj => by simp at hj; have := hord.out; omega)))
      have hRb' := Lib.hid hRb
      clear hRb hMb hRm2 hRa' hMa' hkr
      generalize valOf textR [] st = v at *
      go_wp2_with fail
      go_roundw
      case rel => exact ⟨k + 1, _, by omega, by go_num, hRa2.out, hRb'.out, hbx.out⟩
      case measure => simp [intOf]; omega
    case inr.inr.inr.inl =>
      have hrem : Int.tmod (y.toNat : Int) 5 = 3 := by rw [IntWalk.rem_in _ _ (by have := y.toNat_lt; omega)]; omega
      clear q
      go_wp2_with fail
      refine (rBool_any _ gr st hRd.out).mono ?_
      rintro e x1 ⟨he, hRa, hMa⟩
      have he2 : e = .returned (.bool (valOf boolR false st)) := he
      clear he
      subst he2
      have hRm2 := Lib.hid (hRm.out.keepR hRd.out hMa (by have := hord.out; omega))
      have hRa' := Lib.hid hRa
      have hMa' := Lib.hid hMa
      clear hRa hMa hRm hRd
      go_wp2_with fail
      refine (rrBool_any _ gm st hRm2.out).mono ?_
      rintro e x2 ⟨he, hRb, hMb⟩
      have he2 : e = .returned (.bool (valOf boolR false st)) := he
      clear he
      subst he2
      have hRa2 := Lib.hid (hRa'.out.keep hMb (fun j hj => by simp at hj; have := hord.out; omega))
      have hbx := Lib.hid ((hkr.out.trans (hMa'.out.below hkr.out.size (fun j hj => by simp at hj; have := hord.out; omega))).trans (hMb.below (Nat.le_trans hkr.out.size hMa'.out.size) (fun j hj => by simp at hj; have := hord.out; omega)))
      have hRb' := Lib.hid hRb
      clear hRb hMb hRm2 hRa' hMa' hkr
      generalize valOf boolR false st = v at *
      go_wp2_with fail
      go_roundw
      case rel => exact ⟨k + 1, _, by omega, by go_num, hRa2.out, hRb'.out, hbx.out⟩
      case measure => simp [intOf]; omega
    case inr.inr.inr.inr =>
      have hrem : Int.tmod (y.toNat : Int) 5 = 4 := by rw [IntWalk.rem_in _ _ (by have := y.toNat_lt; omega)]; omega
      clear q
      go_wp2_with fail
      refine (rSm_any _ gr st hRd.out).mono ?_
      rintro e x1 ⟨⟨va, rfl, hva⟩, hRa, hMa⟩
      have hRm2 := Lib.hid (hRm.out.keepR hRd.out hMa (by have := hord.out; omega))
      have hRa' := Lib.hid hRa
      have hMa' := Lib.hid hMa
      have hva' := Lib.hid hva
      have hgml := Lib.hid hRm.out.lt
      clear hRa hMa hRm hRd hva
      go_wp2_with fail
      refine (rrSm_any _ gm st hRm2.out).mono ?_
      rintro e x2 ⟨⟨vb, rfl, hvb⟩, hRb, hMb⟩
      have hRa2 := Lib.hid (hRa'.out.keep hMb (fun j hj => by simp at hj; have := hord.out; omega))
      have hbx := Lib.hid ((hkr.out.trans (hMa'.out.below hkr.out.size (fun j hj => by simp at hj; have := hord.out; omega))).trans (hMb.below (Nat.le_trans hkr.out.size hMa'.out.size) (fun j hj => by simp at hj; have := hord.out; omega)))
      obtain ⟨P1, p1, P2, p2, ea, ra1, ra2, ba1, ba2⟩ := (hva'.out.keep hMb (fun j hj => by simp at hj; have := hgml.out; omega)).rows
      obtain ⟨Q1, q1, Q2, q2, eb, rb1, rb2, _, _⟩ := hvb.rows
      have hRb' := Lib.hid hRb
      clear hRb hMb hRm2 hRa' hMa' hkr hva' hvb
      have ra1 := Lib.hid ra1
      have ra2 := Lib.hid ra2
      have rb1 := Lib.hid rb1
      have rb2 := Lib.hid rb2
      have ba1 := Lib.hid ba1
      have ba2 := Lib.hid ba2
      have ea := Lib.hid ea
      have eb := Lib.hid eb
      rename_i u1 u2 u3 u4 u5 u6 u7 u8
      clear u1 u2 u3 u4 u5 u6 u7 u8
      go_wp2_with fail
      try rw [ea.out]
      try rw [eb.out]
      refine (smEq_any x2 x2.heap.size (Lib.hid (Nat.le_refl _)) P1 P2 Q1 Q2 _ _ p1 p2 q1 q2 (valOf smR zeroSm st) rfl rfl ba1.out ba2.out ra1.out ra2.out rb1.out rb2.out).mono ?_
      rintro e x3 ⟨rfl, h3⟩
      have hRa3 := Lib.hid (hRa2.out.below h3)
      have hRb3 := Lib.hid (hRb'.out.below h3)
      have hbx3 := Lib.hid (hbx.out.trans (h3.mono hbx.out.size))
      clear h3
      go_wp2_with fail
      go_roundw
      case rel => exact ⟨k + 1, _, by omega, by go_num, hRa3.out, hRb3.out, hbx3.out⟩
      case measure => simp [intOf]; omega
  obtain rfl : k = nh := by omega
  have hkE := Lib.hid (hk3.out.trans (hkr.out.mono hB3.out))
  obtain ⟨Am, nm, cm, hmh, hmn, hml⟩ := hRm.out
  clear hh3 hB3 hk3 hkr hRm
  cases st with
  | none =>
    have hm := Lib.hid hmh
    clear hmh hml
    go_wp2_with fail
    -- THE REGION THAT DRAWS ITS ORDER, BY ONE LEXICAL WALK OVER GENERIC VALUES (written by relgen.py)
    refine wp_region_tab ((fun _ v => v = .pointer (some ⟨gr, 0, none⟩)) ::
      (fun _ v => v = .int .i64 20) ::
      (fun _ v => v = .bool false) ::
      (fun _ v => v = .pointer (some ⟨gm, 0, none⟩)) ::
      (fun _ v => v = .pointer (some ⟨gm, 0, none⟩)) ::
      (fun _ v => v = .pointer (some ⟨gm, 1, none⟩)) ::
      (fun _ v => v = .bool true) ::
      (fun _ v => v = .bool false) ::
      (fun _ v => v = .bool false) ::
      (fun _ _ => True) ::
      (fun _ _ => True /- slot 105 ?? nilCheck t104 -/) ::
      (fun _ _ => True /- slot 106 ?? fieldAddr 69 t105 0 -/) ::
      (fun _ _ => True /- slot 107 ?? load 26 t106 -/) ::
      (fun _ _ => True /- slot 108 ?? call { builtin len, args := #[t107], argTypes := #[26] } -/) ::
      (fun _ _ => True /- slot 109 ?? binOp BinOp.eql 3 t108 (const (0:i64)) 3 -/) ::
      (fun _ v => v = .bool false) ::
      (fun _ v => v = .bool true) ::
      (fun _ v => v = .bool true) :: [])
      (⟨[(8, none)], 0, []⟩ :: ⟨[(95, some 0)], 0, []⟩ :: ⟨[(96, some 1)], 0, []⟩ :: ⟨[(9, none)], 0, []⟩ :: ⟨[(98, some 3)], 0, []⟩ :: ⟨[(99, some 4)], 0, []⟩ :: ⟨[(100, some 5)], 0, []⟩ :: ⟨[(101, some 6)], 0, []⟩ :: ⟨[(102, some 7)], 0, []⟩ :: ⟨[(9, none), (103, some 8)], 103, []⟩ :: ⟨[(104, some 9), (103, some 8)], 103, []⟩ :: ⟨[(105, some 10), (103, some 8)], 103, []⟩ :: ⟨[(106, some 11), (103, some 8)], 103, []⟩ :: ⟨[(107, some 12), (103, some 8)], 103, []⟩ :: ⟨[(108, some 13), (103, some 8)], 103, []⟩ :: ⟨[(103, some 8), (109, some 14)], 0, []⟩ :: ⟨[(97, some 2), (110, some 15)], 0, []⟩ :: ⟨[(111, some 16)], 0, []⟩ :: [])
      (none :: none :: none :: none :: none :: none :: some 17 :: none :: none :: none :: none :: none :: none :: none :: none :: none :: none :: none :: none :: none :: none :: none :: none :: none :: none :: none :: none :: none :: none :: none :: none :: none :: none :: none :: none :: none :: none :: none :: none :: none :: none :: none :: none :: none :: none :: none :: none :: none :: none :: none :: none :: none :: none :: none :: none :: none :: none :: none :: none :: none :: none :: none :: none :: none :: none :: none :: none :: none :: none :: none :: none :: none :: none :: none :: none :: none :: none :: none :: none :: none :: none :: none :: none :: none :: none :: none :: none :: none :: none :: none :: none :: none :: none :: none :: none :: some 0 :: some 1 :: some 2 :: some 3 :: some 4 :: some 5 :: some 6 :: some 7 :: some 8 :: some 9 :: some 10 :: some 11 :: some 12 :: some 13 :: some 14 :: some 15 :: some 16 :: [])
      (fun _ w' => Below wr.heap.size wr w') (fun _ w w' => Below w.heap.size w w') ?mixK26none ?okK26none ?tabK26none ?frK26none ?inK26none ?keptK26none ?startK26none ?eachK26none ?finK26none
    case mixK26none => kernel_rfl
    case okK26none => kernel_rfl
    case tabK26none => kernel_rfl
    case frK26none => kernel_rfl
    case inK26none => rfl
    case keptK26none => exact ⟨fun _ _ _ _ _ _ _ h => h, fun _ _ _ _ _ _ _ h => h, fun _ _ _ _ _ _ _ h => h, fun _ _ _ _ _ _ _ h => h, fun _ _ _ _ _ _ _ h => h, fun _ _ _ _ _ _ _ h => h, fun _ _ _ _ _ _ _ h => h, fun _ _ _ _ _ _ _ h => h, fun _ _ _ _ _ _ _ h => h, fun _ _ _ => fun _ _ _ _ h => h, fun _ _ _ _ _ _ _ h => h, fun _ _ _ _ _ _ _ h => h, fun _ _ _ _ _ _ _ h => h, fun _ _ _ _ _ _ _ h => h, fun _ _ _ _ _ _ _ h => h, fun _ _ _ _ _ _ _ h => h, fun _ _ _ _ _ _ _ h => h, fun _ _ _ _ _ _ _ h => h, trivial⟩
    case startK26none => exact (Below.refl _ _).drew
    case eachK26none =>
      refine ⟨?_, ?_, ?_, ?_, ?_, ?_, ?_, ?_, ?_, ?_, ?_, ?_, ?_, ?_, ?_, ?_, ?_, ?_, trivial⟩
      -- 0: slot 95 := move t8
      · intro w L f hC hLi hLd hLn hF
        obtain ⟨d8, _⟩ := hF
        have d8 : f 8 = .pointer (some ⟨gr, 0, none⟩) := d8
        refine Step2.live rfl ?_
        exact relUpon_value (v := f 8) rfl (hC) (Below.refl _ _) d8
      -- 1: slot 96 := call { value (Operand.func 20), args := #[t95], argTypes := #[31] }
      · intro w L f hC hLi hLd hLn hF
        obtain ⟨d95, _⟩ := hF
        have d95 : f 95 = .pointer (some ⟨gr, 0, none⟩) := d95
        refine Step2.live rfl ?_
        have ev : ∀ t, evalOf f (.tmp t) = f t := fun _ => rfl
        have ec : ∀ c, evalOf f (.const c) = c := fun _ => rfl
        have ef : ∀ g, evalOf f (.func g) = .func (.func g) #[] #[] := fun _ => rfl
        refine relUpon_call (f := 20) (args := #[.pointer (some ⟨gr, 0, none⟩)]) (w := w) (by go_simp) (done_any w gr _ (hRd.out.below hC)) ?_
        rintro e w1 ⟨he, rfl⟩
        exact ⟨_, he, hC, Below.refl _ _, rfl⟩
      -- 2: slot 97 := binOp BinOp.eql 3 t96 (const (0:i64)) 3
      · intro w L f hC hLi hLd hLn hF
        obtain ⟨d96, _⟩ := hF
        have d96 : f 96 = .int .i64 20 := d96
        refine Step2.live rfl ?_
        have ev : ∀ t, evalOf f (.tmp t) = f t := fun _ => rfl
        have ec : ∀ c, evalOf f (.const c) = c := fun _ => rfl
        refine relUpon_value ?_ (hC) (Below.refl _ _) rfl
        go_simp
      -- 3: slot 98 := move t9
      · intro w L f hC hLi hLd hLn hF
        obtain ⟨d9, _⟩ := hF
        have d9 : f 9 = .pointer (some ⟨gm, 0, none⟩) := d9
        refine Step2.live rfl ?_
        exact relUpon_value (v := f 9) rfl (hC) (Below.refl _ _) d9
      -- 4: slot 99 := nilCheck t98
      · intro w L f hC hLi hLd hLn hF
        obtain ⟨d98, _⟩ := hF
        have d98 : f 98 = .pointer (some ⟨gm, 0, none⟩) := d98
        refine Step2.live rfl ?_
        have ev : ∀ t, evalOf f (.tmp t) = f t := fun _ => rfl
        have ec : ∀ c, evalOf f (.const c) = c := fun _ => rfl
        refine relUpon_value ?_ (hC) (Below.refl _ _) rfl
        go_simp
      -- 5: slot 100 := fieldAddr 69 t99 1
      · intro w L f hC hLi hLd hLn hF
        obtain ⟨d99, _⟩ := hF
        have d99 : f 99 = .pointer (some ⟨gm, 0, none⟩) := d99
        refine Step2.live rfl ?_
        have ev : ∀ t, evalOf f (.tmp t) = f t := fun _ => rfl
        have ec : ∀ c, evalOf f (.const c) = c := fun _ => rfl
        refine relUpon_value ?_ (hC) (Below.refl _ _) rfl
        go_simp
      -- 6: slot 101 := load 4 t100
      · intro w L f hC hLi hLd hLn hF
        obtain ⟨d100, _⟩ := hF
        have d100 : f 100 = .pointer (some ⟨gm, 1, none⟩) := d100
        refine Step2.live rfl ?_
        have hh := hm.out.below hC hm.out.lt
        have hcell := (hh.fact 1 rfl).2
        have ev : ∀ t, evalOf f (.tmp t) = f t := fun _ => rfl
        have ec : ∀ c, evalOf f (.const c) = c := fun _ => rfl
        have ef : ∀ g, evalOf f (.func g) = .func (.func g) #[] #[] := fun _ => rfl
        refine relUpon_value ?_ hC (Below.refl _ _) rfl
        go_simp
      -- 7: slot 102 := unOp UnOp.not 4 t101
      · intro w L f hC hLi hLd hLn hF
        obtain ⟨d101, _⟩ := hF
        have d101 : f 101 = .bool true := d101
        refine Step2.live rfl ?_
        have ev : ∀ t, evalOf f (.tmp t) = f t := fun _ => rfl
        have ec : ∀ c, evalOf f (.const c) = c := fun _ => rfl
        refine relUpon_value ?_ (hC) (Below.refl _ _) rfl
        go_simp
      -- 8: slot 103 := move t102
      · intro w L f hC hLi hLd hLn hF
        obtain ⟨d102, _⟩ := hF
        have d102 : f 102 = .bool false := d102
        refine Step2.live rfl ?_
        exact relUpon_value (v := f 102) rfl (hC) (Below.refl _ _) d102
      -- 9: slot 104 := move t9
      · intro w L f hC hLi hLd hLn hF
        obtain ⟨d9, d103, _⟩ := hF
        have d9 : f 9 = .pointer (some ⟨gm, 0, none⟩) := d9
        have d103 : f 103 = .bool false := d103
        refine Step2.dead (show wantedBy _ (f 103) = false by rw [d103]; rfl) (hC) ?_
        trivial
      -- 10: slot 105 := nilCheck t104
      · intro w L f hC hLi hLd hLn hF
        obtain ⟨d104, d103, _⟩ := hF
        have d103 : f 103 = .bool false := d103
        refine Step2.dead (show wantedBy _ (f 103) = false by rw [d103]; rfl) (hC) ?_
        trivial
      -- 11: slot 106 := fieldAddr 69 t105 0
      · intro w L f hC hLi hLd hLn hF
        obtain ⟨d105, d103, _⟩ := hF
        have d103 : f 103 = .bool false := d103
        refine Step2.dead (show wantedBy _ (f 103) = false by rw [d103]; rfl) (hC) ?_
        trivial
      -- 12: slot 107 := load 26 t106
      · intro w L f hC hLi hLd hLn hF
        obtain ⟨d106, d103, _⟩ := hF
        have d103 : f 103 = .bool false := d103
        refine Step2.dead (show wantedBy _ (f 103) = false by rw [d103]; rfl) (hC) ?_
        trivial
      -- 13: slot 108 := call { builtin len, args := #[t107], argTypes := #[26] }
      · intro w L f hC hLi hLd hLn hF
        obtain ⟨d107, d103, _⟩ := hF
        have d103 : f 103 = .bool false := d103
        refine Step2.dead (show wantedBy _ (f 103) = false by rw [d103]; rfl) (hC) ?_
        trivial
      -- 14: slot 109 := binOp BinOp.eql 3 t108 (const (0:i64)) 3
      · intro w L f hC hLi hLd hLn hF
        obtain ⟨d108, d103, _⟩ := hF
        have d103 : f 103 = .bool false := d103
        refine Step2.dead (show wantedBy _ (f 103) = false by rw [d103]; rfl) (hC) ?_
        trivial
      -- 15: slot 110 := pick t103 t109 (const (Value.bool false))
      · intro w L f hC hLi hLd hLn hF
        obtain ⟨d103, d109, _⟩ := hF
        have d103 : f 103 = .bool false := d103
        refine Step2.live rfl ?_
        have ev : ∀ t, evalOf f (.tmp t) = f t := fun _ => rfl
        have ec : ∀ c, evalOf f (.const c) = c := fun _ => rfl
        refine relUpon_value ?_ (hC) (Below.refl _ _) rfl
        go_simp
      -- 16: slot 111 := binOp BinOp.eql 4 t97 t110 4
      · intro w L f hC hLi hLd hLn hF
        obtain ⟨d97, d110, _⟩ := hF
        have d97 : f 97 = .bool false := d97
        have d110 : f 110 = .bool false := d110
        refine Step2.live rfl ?_
        have ev : ∀ t, evalOf f (.tmp t) = f t := fun _ => rfl
        have ec : ∀ c, evalOf f (.const c) = c := fun _ => rfl
        refine relUpon_value ?_ (hC) (Below.refl _ _) rfl
        go_simp
      -- 17: slot 6 := assign t111
      · intro w L f hC hLi hLd hLn hF
        obtain ⟨d111, _⟩ := hF
        have d111 : f 111 = .bool true := d111
        refine Step2.live rfl ?_
        exact relUpon_value (v := f 111) rfl (hC) (Below.refl _ _) d111
    intro x w' hC hV

    have e6 : x 17 = .bool true := hV 17 _ rfl rfl
    clear hV
    simp only [framed]
    rw [e6]
    have hkF := Lib.hid (hkE.out.trans (hC.mono (by have := hkE.out.size; have := hB0.out; omega)))
    clear hC
    go_wp2_with fail
    go_ret
    exact ⟨rfl, hkF.out⟩
  | some l' =>
    obtain ⟨hln, _, _, _⟩ := hml l' rfl
    have hm := Lib.hid hmh
    cases l' with
    | nil =>
      have hnm := Lib.hid (show nm = 0 from hln.symm)
      clear hmh hml hln
      go_wp2_with fail
      -- THE REGION THAT DRAWS ITS ORDER, BY ONE LEXICAL WALK OVER GENERIC VALUES (written by relgen.py)
      refine wp_region_tab ((fun _ v => v = .pointer (some ⟨gr, 0, none⟩)) ::
        (fun _ v => v = .int .i64 0) ::
        (fun _ v => v = .bool true) ::
        (fun _ v => v = .pointer (some ⟨gm, 0, none⟩)) ::
        (fun _ v => v = .pointer (some ⟨gm, 0, none⟩)) ::
        (fun _ v => v = .pointer (some ⟨gm, 1, none⟩)) ::
        (fun _ v => v = .bool false) ::
        (fun _ v => v = .bool true) ::
        (fun _ v => v = .bool true) ::
        (fun _ v => v = .pointer (some ⟨gm, 0, none⟩)) ::
        (fun _ v => v = .pointer (some ⟨gm, 0, none⟩)) ::
        (fun _ v => v = .pointer (some ⟨gm, 0, none⟩)) ::
        (fun _ v => v = .slice Am nm cm) ::
        (fun _ v => v = .int .i64 nm) ::
        (fun _ v => v = .bool true) ::
        (fun _ v => v = .bool true) ::
        (fun _ v => v = .bool true) ::
        (fun _ v => v = .bool true) :: [])
        (⟨[(8, none)], 0, []⟩ :: ⟨[(95, some 0)], 0, []⟩ :: ⟨[(96, some 1)], 0, []⟩ :: ⟨[(9, none)], 0, []⟩ :: ⟨[(98, some 3)], 0, []⟩ :: ⟨[(99, some 4)], 0, []⟩ :: ⟨[(100, some 5)], 0, []⟩ :: ⟨[(101, some 6)], 0, []⟩ :: ⟨[(102, some 7)], 0, []⟩ :: ⟨[(9, none), (103, some 8)], 103, []⟩ :: ⟨[(104, some 9), (103, some 8)], 103, []⟩ :: ⟨[(105, some 10), (103, some 8)], 103, []⟩ :: ⟨[(106, some 11), (103, some 8)], 103, []⟩ :: ⟨[(107, some 12), (103, some 8)], 103, []⟩ :: ⟨[(108, some 13), (103, some 8)], 103, []⟩ :: ⟨[(103, some 8), (109, some 14)], 0, []⟩ :: ⟨[(97, some 2), (110, some 15)], 0, []⟩ :: ⟨[(111, some 16)], 0, []⟩ :: [])
        (none :: none :: none :: none :: none :: none :: some 17 :: none :: none :: none :: none :: none :: none :: none :: none :: none :: none :: none :: none :: none :: none :: none :: none :: none :: none :: none :: none :: none :: none :: none :: none :: none :: none :: none :: none :: none :: none :: none :: none :: none :: none :: none :: none :: none :: none :: none :: none :: none :: none :: none :: none :: none :: none :: none :: none :: none :: none :: none :: none :: none :: none :: none :: none :: none :: none :: none :: none :: none :: none :: none :: none :: none :: none :: none :: none :: none :: none :: none :: none :: none :: none :: none :: none :: none :: none :: none :: none :: none :: none :: none :: none :: none :: none :: none :: none :: some 0 :: some 1 :: some 2 :: some 3 :: some 4 :: some 5 :: some 6 :: some 7 :: some 8 :: some 9 :: some 10 :: some 11 :: some 12 :: some 13 :: some 14 :: some 15 :: some 16 :: [])
        (fun _ w' => Below wr.heap.size wr w') (fun _ w w' => Below w.heap.size w w') ?mixK26nil ?okK26nil ?tabK26nil ?frK26nil ?inK26nil ?keptK26nil ?startK26nil ?eachK26nil ?finK26nil
      case mixK26nil => kernel_rfl
      case okK26nil => kernel_rfl
      case tabK26nil => kernel_rfl
      case frK26nil => kernel_rfl
      case inK26nil => rfl
      case keptK26nil => exact ⟨fun _ _ _ _ _ _ _ h => h, fun _ _ _ _ _ _ _ h => h, fun _ _ _ _ _ _ _ h => h, fun _ _ _ _ _ _ _ h => h, fun _ _ _ _ _ _ _ h => h, fun _ _ _ _ _ _ _ h => h, fun _ _ _ _ _ _ _ h => h, fun _ _ _ _ _ _ _ h => h, fun _ _ _ _ _ _ _ h => h, fun _ _ _ _ _ _ _ h => h, fun _ _ _ _ _ _ _ h => h, fun _ _ _ _ _ _ _ h => h, fun _ _ _ _ _ _ _ h => h, fun _ _ _ _ _ _ _ h => h, fun _ _ _ _ _ _ _ h => h, fun _ _ _ _ _ _ _ h => h, fun _ _ _ _ _ _ _ h => h, fun _ _ _ _ _ _ _ h => h, trivial⟩
      case startK26nil => exact (Below.refl _ _).drew
      case eachK26nil =>
        refine ⟨?_, ?_, ?_, ?_, ?_, ?_, ?_, ?_, ?_, ?_, ?_, ?_, ?_, ?_, ?_, ?_, ?_, ?_, trivial⟩
        -- 0: slot 95 := move t8
        · intro w L f hC hLi hLd hLn hF
          obtain ⟨d8, _⟩ := hF
          have d8 : f 8 = .pointer (some ⟨gr, 0, none⟩) := d8
          refine Step2.live rfl ?_
          exact relUpon_value (v := f 8) rfl (hC) (Below.refl _ _) d8
        -- 1: slot 96 := call { value (Operand.func 20), args := #[t95], argTypes := #[31] }
        · intro w L f hC hLi hLd hLn hF
          obtain ⟨d95, _⟩ := hF
          have d95 : f 95 = .pointer (some ⟨gr, 0, none⟩) := d95
          refine Step2.live rfl ?_
          have ev : ∀ t, evalOf f (.tmp t) = f t := fun _ => rfl
          have ec : ∀ c, evalOf f (.const c) = c := fun _ => rfl
          have ef : ∀ g, evalOf f (.func g) = .func (.func g) #[] #[] := fun _ => rfl
          refine relUpon_call (f := 20) (args := #[.pointer (some ⟨gr, 0, none⟩)]) (w := w) (by go_simp) (done_any w gr _ (hRd.out.below hC)) ?_
          rintro e w1 ⟨he, rfl⟩
          exact ⟨_, he, hC, Below.refl _ _, rfl⟩
        -- 2: slot 97 := binOp BinOp.eql 3 t96 (const (0:i64)) 3
        · intro w L f hC hLi hLd hLn hF
          obtain ⟨d96, _⟩ := hF
          have d96 : f 96 = .int .i64 0 := d96
          refine Step2.live rfl ?_
          have ev : ∀ t, evalOf f (.tmp t) = f t := fun _ => rfl
          have ec : ∀ c, evalOf f (.const c) = c := fun _ => rfl
          refine relUpon_value ?_ (hC) (Below.refl _ _) rfl
          go_simp
        -- 3: slot 98 := move t9
        · intro w L f hC hLi hLd hLn hF
          obtain ⟨d9, _⟩ := hF
          have d9 : f 9 = .pointer (some ⟨gm, 0, none⟩) := d9
          refine Step2.live rfl ?_
          exact relUpon_value (v := f 9) rfl (hC) (Below.refl _ _) d9
        -- 4: slot 99 := nilCheck t98
        · intro w L f hC hLi hLd hLn hF
          obtain ⟨d98, _⟩ := hF
          have d98 : f 98 = .pointer (some ⟨gm, 0, none⟩) := d98
          refine Step2.live rfl ?_
          have ev : ∀ t, evalOf f (.tmp t) = f t := fun _ => rfl
          have ec : ∀ c, evalOf f (.const c) = c := fun _ => rfl
          refine relUpon_value ?_ (hC) (Below.refl _ _) rfl
          go_simp
        -- 5: slot 100 := fieldAddr 69 t99 1
        · intro w L f hC hLi hLd hLn hF
          obtain ⟨d99, _⟩ := hF
          have d99 : f 99 = .pointer (some ⟨gm, 0, none⟩) := d99
          refine Step2.live rfl ?_
          have ev : ∀ t, evalOf f (.tmp t) = f t := fun _ => rfl
          have ec : ∀ c, evalOf f (.const c) = c := fun _ => rfl
          refine relUpon_value ?_ (hC) (Below.refl _ _) rfl
          go_simp
        -- 6: slot 101 := load 4 t100
        · intro w L f hC hLi hLd hLn hF
          obtain ⟨d100, _⟩ := hF
          have d100 : f 100 = .pointer (some ⟨gm, 1, none⟩) := d100
          refine Step2.live rfl ?_
          have hh := hm.out.below hC hm.out.lt
          have hcell := (hh.fact 1 rfl).2
          have ev : ∀ t, evalOf f (.tmp t) = f t := fun _ => rfl
          have ec : ∀ c, evalOf f (.const c) = c := fun _ => rfl
          have ef : ∀ g, evalOf f (.func g) = .func (.func g) #[] #[] := fun _ => rfl
          refine relUpon_value ?_ hC (Below.refl _ _) rfl
          go_simp
        -- 7: slot 102 := unOp UnOp.not 4 t101
        · intro w L f hC hLi hLd hLn hF
          obtain ⟨d101, _⟩ := hF
          have d101 : f 101 = .bool false := d101
          refine Step2.live rfl ?_
          have ev : ∀ t, evalOf f (.tmp t) = f t := fun _ => rfl
          have ec : ∀ c, evalOf f (.const c) = c := fun _ => rfl
          refine relUpon_value ?_ (hC) (Below.refl _ _) rfl
          go_simp
        -- 8: slot 103 := move t102
        · intro w L f hC hLi hLd hLn hF
          obtain ⟨d102, _⟩ := hF
          have d102 : f 102 = .bool true := d102
          refine Step2.live rfl ?_
          exact relUpon_value (v := f 102) rfl (hC) (Below.refl _ _) d102
        -- 9: slot 104 := move t9
        · intro w L f hC hLi hLd hLn hF
          obtain ⟨d9, d103, _⟩ := hF
          have d9 : f 9 = .pointer (some ⟨gm, 0, none⟩) := d9
          have d103 : f 103 = .bool true := d103
          refine Step2.live (show wantedBy _ (f 103) = true by rw [d103]; rfl) ?_
          exact relUpon_value (v := f 9) rfl (hC) (Below.refl _ _) d9
        -- 10: slot 105 := nilCheck t104
        · intro w L f hC hLi hLd hLn hF
          obtain ⟨d104, d103, _⟩ := hF
          have d104 : f 104 = .pointer (some ⟨gm, 0, none⟩) := d104
          have d103 : f 103 = .bool true := d103
          refine Step2.live (show wantedBy _ (f 103) = true by rw [d103]; rfl) ?_
          have ev : ∀ t, evalOf f (.tmp t) = f t := fun _ => rfl
          have ec : ∀ c, evalOf f (.const c) = c := fun _ => rfl
          refine relUpon_value ?_ (hC) (Below.refl _ _) rfl
          go_simp
        -- 11: slot 106 := fieldAddr 69 t105 0
        · intro w L f hC hLi hLd hLn hF
          obtain ⟨d105, d103, _⟩ := hF
          have d105 : f 105 = .pointer (some ⟨gm, 0, none⟩) := d105
          have d103 : f 103 = .bool true := d103
          refine Step2.live (show wantedBy _ (f 103) = true by rw [d103]; rfl) ?_
          have ev : ∀ t, evalOf f (.tmp t) = f t := fun _ => rfl
          have ec : ∀ c, evalOf f (.const c) = c := fun _ => rfl
          refine relUpon_value ?_ (hC) (Below.refl _ _) rfl
          go_simp
        -- 12: slot 107 := load 26 t106
        · intro w L f hC hLi hLd hLn hF
          obtain ⟨d106, d103, _⟩ := hF
          have d106 : f 106 = .pointer (some ⟨gm, 0, none⟩) := d106
          have d103 : f 103 = .bool true := d103
          refine Step2.live (show wantedBy _ (f 103) = true by rw [d103]; rfl) ?_
          have hh := hm.out.below hC hm.out.lt
          have hcell := (hh.fact 0 rfl).2
          have ev : ∀ t, evalOf f (.tmp t) = f t := fun _ => rfl
          have ec : ∀ c, evalOf f (.const c) = c := fun _ => rfl
          have ef : ∀ g, evalOf f (.func g) = .func (.func g) #[] #[] := fun _ => rfl
          refine relUpon_value ?_ hC (Below.refl _ _) rfl
          go_simp
        -- 13: slot 108 := call { builtin len, args := #[t107], argTypes := #[26] }
        · intro w L f hC hLi hLd hLn hF
          obtain ⟨d107, d103, _⟩ := hF
          have d107 : f 107 = .slice Am nm cm := d107
          have d103 : f 103 = .bool true := d103
          refine Step2.live (show wantedBy _ (f 103) = true by rw [d103]; rfl) ?_
          have ev : ∀ t, evalOf f (.tmp t) = f t := fun _ => rfl
          have ec : ∀ c, evalOf f (.const c) = c := fun _ => rfl
          refine relUpon_value ?_ (hC) (Below.refl _ _) rfl
          go_simp
        -- 14: slot 109 := binOp BinOp.eql 3 t108 (const (0:i64)) 3
        · intro w L f hC hLi hLd hLn hF
          obtain ⟨d108, d103, _⟩ := hF
          have d108 : f 108 = .int .i64 nm := d108
          have d103 : f 103 = .bool true := d103
          refine Step2.live (show wantedBy _ (f 103) = true by rw [d103]; rfl) ?_
          have hz := hnm.out
          have ev : ∀ t, evalOf f (.tmp t) = f t := fun _ => rfl
          have ec : ∀ c, evalOf f (.const c) = c := fun _ => rfl
          have ef : ∀ g, evalOf f (.func g) = .func (.func g) #[] #[] := fun _ => rfl
          refine relUpon_value ?_ hC (Below.refl _ _) rfl
          go_simp
          try omega
        -- 15: slot 110 := pick t103 t109 (const (Value.bool false))
        · intro w L f hC hLi hLd hLn hF
          obtain ⟨d103, d109, _⟩ := hF
          have d103 : f 103 = .bool true := d103
          have d109 : f 109 = .bool true := d109
          refine Step2.live rfl ?_
          have ev : ∀ t, evalOf f (.tmp t) = f t := fun _ => rfl
          have ec : ∀ c, evalOf f (.const c) = c := fun _ => rfl
          refine relUpon_value ?_ (hC) (Below.refl _ _) rfl
          go_simp
        -- 16: slot 111 := binOp BinOp.eql 4 t97 t110 4
        · intro w L f hC hLi hLd hLn hF
          obtain ⟨d97, d110, _⟩ := hF
          have d97 : f 97 = .bool true := d97
          have d110 : f 110 = .bool true := d110
          refine Step2.live rfl ?_
          have ev : ∀ t, evalOf f (.tmp t) = f t := fun _ => rfl
          have ec : ∀ c, evalOf f (.const c) = c := fun _ => rfl
          refine relUpon_value ?_ (hC) (Below.refl _ _) rfl
          go_simp
        -- 17: slot 6 := assign t111
        · intro w L f hC hLi hLd hLn hF
          obtain ⟨d111, _⟩ := hF
          have d111 : f 111 = .bool true := d111
          refine Step2.live rfl ?_
          exact relUpon_value (v := f 111) rfl (hC) (Below.refl _ _) d111
      intro x w' hC hV

      have e6 : x 17 = .bool true := hV 17 _ rfl rfl
      clear hV
      simp only [framed]
      rw [e6]
      have hkF := Lib.hid (hkE.out.trans (hC.mono (by have := hkE.out.size; have := hB0.out; omega)))
      clear hC
      go_wp2_with fail
      go_ret
      exact ⟨rfl, hkF.out⟩
    | cons x0 l' =>
      have hnm := Lib.hid (show nm ≠ 0 by rw [← hln]; simp)
      clear hmh hml hln
      go_wp2_with fail
      -- THE REGION THAT DRAWS ITS ORDER, BY ONE LEXICAL WALK OVER GENERIC VALUES (written by relgen.py)
      refine wp_region_tab ((fun _ v => v = .pointer (some ⟨gr, 0, none⟩)) ::
        (fun _ v => v = .int .i64 20) ::
        (fun _ v => v = .bool false) ::
        (fun _ v => v = .pointer (some ⟨gm, 0, none⟩)) ::
        (fun _ v => v = .pointer (some ⟨gm, 0, none⟩)) ::
        (fun _ v => v = .pointer (some ⟨gm, 1, none⟩)) ::
        (fun _ v => v = .bool false) ::
        (fun _ v => v = .bool true) ::
        (fun _ v => v = .bool true) ::
        (fun _ v => v = .pointer (some ⟨gm, 0, none⟩)) ::
        (fun _ v => v = .pointer (some ⟨gm, 0, none⟩)) ::
        (fun _ v => v = .pointer (some ⟨gm, 0, none⟩)) ::
        (fun _ v => v = .slice Am nm cm) ::
        (fun _ v => v = .int .i64 nm) ::
        (fun _ v => v = .bool false) ::
        (fun _ v => v = .bool false) ::
        (fun _ v => v = .bool true) ::
        (fun _ v => v = .bool true) :: [])
        (⟨[(8, none)], 0, []⟩ :: ⟨[(95, some 0)], 0, []⟩ :: ⟨[(96, some 1)], 0, []⟩ :: ⟨[(9, none)], 0, []⟩ :: ⟨[(98, some 3)], 0, []⟩ :: ⟨[(99, some 4)], 0, []⟩ :: ⟨[(100, some 5)], 0, []⟩ :: ⟨[(101, some 6)], 0, []⟩ :: ⟨[(102, some 7)], 0, []⟩ :: ⟨[(9, none), (103, some 8)], 103, []⟩ :: ⟨[(104, some 9), (103, some 8)], 103, []⟩ :: ⟨[(105, some 10), (103, some 8)], 103, []⟩ :: ⟨[(106, some 11), (103, some 8)], 103, []⟩ :: ⟨[(107, some 12), (103, some 8)], 103, []⟩ :: ⟨[(108, some 13), (103, some 8)], 103, []⟩ :: ⟨[(103, some 8), (109, some 14)], 0, []⟩ :: ⟨[(97, some 2), (110, some 15)], 0, []⟩ :: ⟨[(111, some 16)], 0, []⟩ :: [])
        (none :: none :: none :: none :: none :: none :: some 17 :: none :: none :: none :: none :: none :: none :: none :: none :: none :: none :: none :: none :: none :: none :: none :: none :: none :: none :: none :: none :: none :: none :: none :: none :: none :: none :: none :: none :: none :: none :: none :: none :: none :: none :: none :: none :: none :: none :: none :: none :: none :: none :: none :: none :: none :: none :: none :: none :: none :: none :: none :: none :: none :: none :: none :: none :: none :: none :: none :: none :: none :: none :: none :: none :: none :: none :: none :: none :: none :: none :: none :: none :: none :: none :: none :: none :: none :: none :: none :: none :: none :: none :: none :: none :: none :: none :: none :: none :: some 0 :: some 1 :: some 2 :: some 3 :: some 4 :: some 5 :: some 6 :: some 7 :: some 8 :: some 9 :: some 10 :: some 11 :: some 12 :: some 13 :: some 14 :: some 15 :: some 16 :: [])
        (fun _ w' => Below wr.heap.size wr w') (fun _ w w' => Below w.heap.size w w') ?mixK26more ?okK26more ?tabK26more ?frK26more ?inK26more ?keptK26more ?startK26more ?eachK26more ?finK26more
      case mixK26more => kernel_rfl
      case okK26more => kernel_rfl
      case tabK26more => kernel_rfl
      case frK26more => kernel_rfl
      case inK26more => rfl
      case keptK26more => exact ⟨fun _ _ _ _ _ _ _ h => h, fun _ _ _ _ _ _ _ h => h, fun _ _ _ _ _ _ _ h => h, fun _ _ _ _ _ _ _ h => h, fun _ _ _ _ _ _ _ h => h, fun _ _ _ _ _ _ _ h => h, fun _ _ _ _ _ _ _ h => h, fun _ _ _ _ _ _ _ h => h, fun _ _ _ _ _ _ _ h => h, fun _ _ _ _ _ _ _ h => h, fun _ _ _ _ _ _ _ h => h, fun _ _ _ _ _ _ _ h => h, fun _ _ _ _ _ _ _ h => h, fun _ _ _ _ _ _ _ h => h, fun _ _ _ _ _ _ _ h => h, fun _ _ _ _ _ _ _ h => h, fun _ _ _ _ _ _ _ h => h, fun _ _ _ _ _ _ _ h => h, trivial⟩
      case startK26more => exact (Below.refl _ _).drew
      case eachK26more =>
        refine ⟨?_, ?_, ?_, ?_, ?_, ?_, ?_, ?_, ?_, ?_, ?_, ?_, ?_, ?_, ?_, ?_, ?_, ?_, trivial⟩
        -- 0: slot 95 := move t8
        · intro w L f hC hLi hLd hLn hF
          obtain ⟨d8, _⟩ := hF
          have d8 : f 8 = .pointer (some ⟨gr, 0, none⟩) := d8
          refine Step2.live rfl ?_
          exact relUpon_value (v := f 8) rfl (hC) (Below.refl _ _) d8
        -- 1: slot 96 := call { value (Operand.func 20), args := #[t95], argTypes := #[31] }
        · intro w L f hC hLi hLd hLn hF
          obtain ⟨d95, _⟩ := hF
          have d95 : f 95 = .pointer (some ⟨gr, 0, none⟩) := d95
          refine Step2.live rfl ?_
          have ev : ∀ t, evalOf f (.tmp t) = f t := fun _ => rfl
          have ec : ∀ c, evalOf f (.const c) = c := fun _ => rfl
          have ef : ∀ g, evalOf f (.func g) = .func (.func g) #[] #[] := fun _ => rfl
          refine relUpon_call (f := 20) (args := #[.pointer (some ⟨gr, 0, none⟩)]) (w := w) (by go_simp) (done_any w gr _ (hRd.out.below hC)) ?_
          rintro e w1 ⟨he, rfl⟩
          exact ⟨_, he, hC, Below.refl _ _, rfl⟩
        -- 2: slot 97 := binOp BinOp.eql 3 t96 (const (0:i64)) 3
        · intro w L f hC hLi hLd hLn hF
          obtain ⟨d96, _⟩ := hF
          have d96 : f 96 = .int .i64 20 := d96
          refine Step2.live rfl ?_
          have ev : ∀ t, evalOf f (.tmp t) = f t := fun _ => rfl
          have ec : ∀ c, evalOf f (.const c) = c := fun _ => rfl
          refine relUpon_value ?_ (hC) (Below.refl _ _) rfl
          go_simp
        -- 3: slot 98 := move t9
        · intro w L f hC hLi hLd hLn hF
          obtain ⟨d9, _⟩ := hF
          have d9 : f 9 = .pointer (some ⟨gm, 0, none⟩) := d9
          refine Step2.live rfl ?_
          exact relUpon_value (v := f 9) rfl (hC) (Below.refl _ _) d9
        -- 4: slot 99 := nilCheck t98
        · intro w L f hC hLi hLd hLn hF
          obtain ⟨d98, _⟩ := hF
          have d98 : f 98 = .pointer (some ⟨gm, 0, none⟩) := d98
          refine Step2.live rfl ?_
          have ev : ∀ t, evalOf f (.tmp t) = f t := fun _ => rfl
          have ec : ∀ c, evalOf f (.const c) = c := fun _ => rfl
          refine relUpon_value ?_ (hC) (Below.refl _ _) rfl
          go_simp
        -- 5: slot 100 := fieldAddr 69 t99 1
        · intro w L f hC hLi hLd hLn hF
          obtain ⟨d99, _⟩ := hF
          have d99 : f 99 = .pointer (some ⟨gm, 0, none⟩) := d99
          refine Step2.live rfl ?_
          have ev : ∀ t, evalOf f (.tmp t) = f t := fun _ => rfl
          have ec : ∀ c, evalOf f (.const c) = c := fun _ => rfl
          refine relUpon_value ?_ (hC) (Below.refl _ _) rfl
          go_simp
        -- 6: slot 101 := load 4 t100
        · intro w L f hC hLi hLd hLn hF
          obtain ⟨d100, _⟩ := hF
          have d100 : f 100 = .pointer (some ⟨gm, 1, none⟩) := d100
          refine Step2.live rfl ?_
          have hh := hm.out.below hC hm.out.lt
          have hcell := (hh.fact 1 rfl).2
          have ev : ∀ t, evalOf f (.tmp t) = f t := fun _ => rfl
          have ec : ∀ c, evalOf f (.const c) = c := fun _ => rfl
          have ef : ∀ g, evalOf f (.func g) = .func (.func g) #[] #[] := fun _ => rfl
          refine relUpon_value ?_ hC (Below.refl _ _) rfl
          go_simp
        -- 7: slot 102 := unOp UnOp.not 4 t101
        · intro w L f hC hLi hLd hLn hF
          obtain ⟨d101, _⟩ := hF
          have d101 : f 101 = .bool false := d101
          refine Step2.live rfl ?_
          have ev : ∀ t, evalOf f (.tmp t) = f t := fun _ => rfl
          have ec : ∀ c, evalOf f (.const c) = c := fun _ => rfl
          refine relUpon_value ?_ (hC) (Below.refl _ _) rfl
          go_simp
        -- 8: slot 103 := move t102
        · intro w L f hC hLi hLd hLn hF
          obtain ⟨d102, _⟩ := hF
          have d102 : f 102 = .bool true := d102
          refine Step2.live rfl ?_
          exact relUpon_value (v := f 102) rfl (hC) (Below.refl _ _) d102
        -- 9: slot 104 := move t9
        · intro w L f hC hLi hLd hLn hF
          obtain ⟨d9, d103, _⟩ := hF
          have d9 : f 9 = .pointer (some ⟨gm, 0, none⟩) := d9
          have d103 : f 103 = .bool true := d103
          refine Step2.live (show wantedBy _ (f 103) = true by rw [d103]; rfl) ?_
          exact relUpon_value (v := f 9) rfl (hC) (Below.refl _ _) d9
        -- 10: slot 105 := nilCheck t104
        · intro w L f hC hLi hLd hLn hF
          obtain ⟨d104, d103, _⟩ := hF
          have d104 : f 104 = .pointer (some ⟨gm, 0, none⟩) := d104
          have d103 : f 103 = .bool true := d103
          refine Step2.live (show wantedBy _ (f 103) = true by rw [d103]; rfl) ?_
          have ev : ∀ t, evalOf f (.tmp t) = f t := fun _ => rfl
          have ec : ∀ c, evalOf f (.const c) = c := fun _ => rfl
          refine relUpon_value ?_ (hC) (Below.refl _ _) rfl
          go_simp
        -- 11: slot 106 := fieldAddr 69 t105 0
        · intro w L f hC hLi hLd hLn hF
          obtain ⟨d105, d103, _⟩ := hF
          have d105 : f 105 = .pointer (some ⟨gm, 0, none⟩) := d105
          have d103 : f 103 = .bool true := d103
          refine Step2.live (show wantedBy _ (f 103) = true by rw [d103]; rfl) ?_
          have ev : ∀ t, evalOf f (.tmp t) = f t := fun _ => rfl
          have ec : ∀ c, evalOf f (.const c) = c := fun _ => rfl
          refine relUpon_value ?_ (hC) (Below.refl _ _) rfl
          go_simp
        -- 12: slot 107 := load 26 t106
        · intro w L f hC hLi hLd hLn hF
          obtain ⟨d106, d103, _⟩ := hF
          have d106 : f 106 = .pointer (some ⟨gm, 0, none⟩) := d106
          have d103 : f 103 = .bool true := d103
          refine Step2.live (show wantedBy _ (f 103) = true by rw [d103]; rfl) ?_
          have hh := hm.out.below hC hm.out.lt
          have hcell := (hh.fact 0 rfl).2
          have ev : ∀ t, evalOf f (.tmp t) = f t := fun _ => rfl
          have ec : ∀ c, evalOf f (.const c) = c := fun _ => rfl
          have ef : ∀ g, evalOf f (.func g) = .func (.func g) #[] #[] := fun _ => rfl
          refine relUpon_value ?_ hC (Below.refl _ _) rfl
          go_simp
        -- 13: slot 108 := call { builtin len, args := #[t107], argTypes := #[26] }
        · intro w L f hC hLi hLd hLn hF
          obtain ⟨d107, d103, _⟩ := hF
          have d107 : f 107 = .slice Am nm cm := d107
          have d103 : f 103 = .bool true := d103
          refine Step2.live (show wantedBy _ (f 103) = true by rw [d103]; rfl) ?_
          have ev : ∀ t, evalOf f (.tmp t) = f t := fun _ => rfl
          have ec : ∀ c, evalOf f (.const c) = c := fun _ => rfl
          refine relUpon_value ?_ (hC) (Below.refl _ _) rfl
          go_simp
        -- 14: slot 109 := binOp BinOp.eql 3 t108 (const (0:i64)) 3
        · intro w L f hC hLi hLd hLn hF
          obtain ⟨d108, d103, _⟩ := hF
          have d108 : f 108 = .int .i64 nm := d108
          have d103 : f 103 = .bool true := d103
          refine Step2.live (show wantedBy _ (f 103) = true by rw [d103]; rfl) ?_
          have hz := hnm.out
          have ev : ∀ t, evalOf f (.tmp t) = f t := fun _ => rfl
          have ec : ∀ c, evalOf f (.const c) = c := fun _ => rfl
          have ef : ∀ g, evalOf f (.func g) = .func (.func g) #[] #[] := fun _ => rfl
          refine relUpon_value ?_ hC (Below.refl _ _) rfl
          go_simp
          try omega
        -- 15: slot 110 := pick t103 t109 (const (Value.bool false))
        · intro w L f hC hLi hLd hLn hF
          obtain ⟨d103, d109, _⟩ := hF
          have d103 : f 103 = .bool true := d103
          have d109 : f 109 = .bool false := d109
          refine Step2.live rfl ?_
          have ev : ∀ t, evalOf f (.tmp t) = f t := fun _ => rfl
          have ec : ∀ c, evalOf f (.const c) = c := fun _ => rfl
          refine relUpon_value ?_ (hC) (Below.refl _ _) rfl
          go_simp
        -- 16: slot 111 := binOp BinOp.eql 4 t97 t110 4
        · intro w L f hC hLi hLd hLn hF
          obtain ⟨d97, d110, _⟩ := hF
          have d97 : f 97 = .bool false := d97
          have d110 : f 110 = .bool false := d110
          refine Step2.live rfl ?_
          have ev : ∀ t, evalOf f (.tmp t) = f t := fun _ => rfl
          have ec : ∀ c, evalOf f (.const c) = c := fun _ => rfl
          refine relUpon_value ?_ (hC) (Below.refl _ _) rfl
          go_simp
        -- 17: slot 6 := assign t111
        · intro w L f hC hLi hLd hLn hF
          obtain ⟨d111, _⟩ := hF
          have d111 : f 111 = .bool true := d111
          refine Step2.live rfl ?_
          exact relUpon_value (v := f 111) rfl (hC) (Below.refl _ _) d111
      intro x w' hC hV

      have e6 : x 17 = .bool true := hV 17 _ rfl rfl
      clear hV
      simp only [framed]
      rw [e6]
      have hkF := Lib.hid (hkE.out.trans (hC.mono (by have := hkE.out.size; have := hB0.out; omega)))
      clear hC
      go_wp2_with fail
      go_ret
      exact ⟨rfl, hkF.out⟩
theorem Parts.lens {w : World} {B : Nat} {A : Option Addr} {ps : List Pt} (hA : Parts w B A ps) : ∀ p ∈ ps, p.s.al.length ≤ maxLen ∧ p.s.md.length ≤ maxLen := fun p hp => by
  obtain ⟨k, hk⟩ := List.getElem?_of_mem hp
  obtain ⟨css, _, _, _, h4⟩ := hA
  obtain ⟨cs, _, ss, _, A1, c1, A2, c2, _, _, _, h8, h9⟩ := h4 k p hk
  exact ⟨h8, h9⟩
theorem reads_walk (W : World) (v0 v1 v2 : Value) (o0 : ArgOk 26 W v0) (o1 : ArgOk 53 W v1) (o2 : ArgOk 26 W v2) :
    Calls Try.prog 7 #[v0, v1, v2] W fun e w' => e = .returned (.bool true) ∧ Below W.heap.size W w' := by
  obtain ⟨A0, n0, c0, l0, rfl, h1, h2, _, h3⟩ := o0.bytes
  obtain ⟨A, n, c, ps, rfl, g1, g2, g3, g4, g5⟩ := o1.parts
  obtain ⟨Ah, nh, ch, lh, rfl, k1, _, _, k2⟩ := o2.bytes
  subst g1
  exact reads_B W W.heap.size (Lib.hid (Nat.le_refl _)) A0 n0 c0 l0 (Lib.hid h1) (Lib.hid h2) (Lib.hid h3) A c ps (Lib.hid g5) (Nat.le_trans g2 g3) (Lib.hid g4) (Lib.hid (Parts.lens g5)) Ah nh ch lh (Lib.hid k1) (Lib.hid k2)
end Go.Proofs.Ytimhghmnnibajaa
