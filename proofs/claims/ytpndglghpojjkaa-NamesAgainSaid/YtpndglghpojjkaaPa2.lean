/-
  2 texts of the proof, in one file: no condition.
-/
import Derived.Test.YtpndglghpojjkaaPa1
import Derived.Deep.DeepCutAuto
import Derived.Maps.AppendAt
/- The walk of a condition's part. -/
namespace Go.Proofs.Ytpndglghpojjkaa
open Go.RowKit Go.Deep

theorem cmpF_no {C : PC} {sum : PS → Ex × PS} {t : List UInt8} {s : PS} (h : isF C t s = false) (a : Ex) (k : Nat) (l : List (List UInt8)) (_u : Unit) : cmpF C sum a k (t :: l) s = cmpF C sum a (k + 1) l s := by
 conv => lhs; unfold cmpF
 rw [if_neg (by rw [h]; simp)]
theorem cmp_at (k : Nat) (hk : k < 6) : (#[.string ⟨#[61, 61]⟩, .string ⟨#[33, 61]⟩, .string ⟨#[60]⟩, .string ⟨#[60, 61]⟩, .string ⟨#[62]⟩, .string ⟨#[62, 61]⟩] : Array Value)[k]? = some (.string ⟨(cmpT[k]'hk).toArray⟩) := by
 match k, hk with
 | 0, _ => rfl
 | 1, _ => rfl
 | 2, _ => rfl
 | 3, _ => rfl
 | 4, _ => rfl
 | 5, _ => rfl
set_option maxRecDepth 100000 in
set_option maxHeartbeats 4000000 in
theorem not_step (m : Nat) (sum : PC → PS → Ex × PS) (cond not_ : PC → PS → Cn × PS) (hsum : Reads6 62 m sum) (hcond : ReadsC 63 (m + 1) cond) (hnot : ReadsC 93 (m + 1) not_)
  (hs0 : ∀ C s, Stp C s (sum C s).2) (hs1 : ∀ C s, Stp C s (cond C s).2) (hs2 : ∀ C s, Stp C s (not_ C s).2) : ReadsC 93 m (fun C => notF C (sum C) (cond C) (not_ C)) := by
 intro C Z w s hP hm
 have hM := Lib.hid (Moved.refl hP)
 have hlt0 := hP.lt
 obtain ⟨b1, b2, b3, b4, b5, b6, b7⟩ := hP.bounds
 show Calls _ _ _ _ (CnPost C Z (notF C (sum C) (cond C) (not_ C) s) w)
 obtain ⟨R, hR⟩ : ∃ x, x = notF C (sum C) (cond C) (not_ C) s := ⟨_, rfl⟩
 rw [← hR]
 cases h33 : isF C [33] s with
 | true =>
  cases ho : (openF C s).1 with
  | false =>
   have hF : Hid (R = (.nil, (openF C s).2)) := Lib.hid (by rw [hR]; unfold notF; simp only [h33, ho]; rfl)
   have ho' := Lib.hid (pair_of ho)
   replace h33 := Lib.hid h33
   clear hP hR ho
   go_enter Try.func93, Try.ntmps93
   go_wp2_with fail
   refine (is_from hM.out [33] h33.out).mono ?_
   rintro e w1 ⟨rfl, h1, -⟩
   have h1 := Lib.hid h1
   go_wp2_with fail
   refine (open_from h1.out ho'.out).mono ?_
   rintro e w2 ⟨rfl, h2, -⟩
   have h2 := Lib.hid h2
   go_wp2_with fail
   go_ret
   rw [hF.out]
   exact CnPost.of h2.out (CnAt.nil_ _ _)
  | true =>
   obtain ⟨e1, _, hlt⟩ := openF_true ho
   have hi := isF_lt h33
   obtain ⟨s2, hs2'⟩ : ∃ x, x = (openF C s).2 := ⟨_, rfl⟩
   obtain ⟨r, hr⟩ : ∃ x, x = not_ C s2.next := ⟨_, rfl⟩
   have hF : Hid (R = (.mk 8 .nil .nil r.1 .nil [], r.2.shut)) := Lib.hid (by rw [hR, hr, hs2']; unfold notF; simp only [h33, ho]; rfl)
   have ho' : Hid (openF C s = (true, s2)) := Lib.hid (by rw [hs2']; exact pair_of ho)
   have hi3 : s2.i < C.tk.length := by rw [hs2', e1]; exact hi
   have hdp : m + 1 ≤ s2.next.deep := by rw [hs2', e1]; simp only [PS.next]; omega
   have hd1 : 1 ≤ r.2.deep := by rw [hr, (hs2 C s2.next).dp]; omega
   replace hr := Lib.hid hr
   replace h33 := Lib.hid h33
   clear hP hR ho e1 hs2'
   go_enter Try.func93, Try.ntmps93
   go_wp2_with fail
   refine (is_from hM.out [33] h33.out).mono ?_
   rintro e w1 ⟨rfl, h1, -⟩
   have h1 := Lib.hid h1
   go_wp2_with fail
   refine (open_from h1.out ho'.out).mono ?_
   rintro e w2 ⟨rfl, h2, -⟩
   obtain ⟨a0, d0, d1, d2, d3, d4, d5, d6, dfz⟩ := h2.facts
   have h2 := Lib.hid h2
   have hw1 := i64_next (i := s2.i) (by omega)
   go_wp2_with fail
   refine (hnot.from_ (h2.out.next hi3) hdp hr.out.symm).mono ?_
   rintro e w3 ⟨p, rfl, h3, hE, -⟩
   clear a0 d0 d1 d2 d3 d4 d5 d6 dfz hw1 h2 h1
   obtain ⟨c1, c2, c3, c4, c5, c6, c7⟩ := h3.bounds
   obtain ⟨a0, d0, d1, d2, d3, d4, d5, d6, dfz⟩ := h3.facts
   have h3 := Lib.hid h3
   have hE := Lib.hid hE
   have hw1 := i64_pred hd1 (by omega)
   go_wp2_with fail
   go_ret
   rw [hF.out]
   have h4 := h3.out.shut hd1
   have hst : Writes [some Z.g] w3 (w3.setCell ⟨Z.g, 5, none⟩ (.int .i64 ((r.2.deep : Int) - 1))) := Writes.store w3 (by simp) _
   exact CnPost.of (h4.below (below_new _ _)) (CnAt.new 8 [] (by decide) (by simp) (Nat.le_trans h3.out.wr.size hst.size) (setCell_size _ _ _).symm (ExAt.nil_ _ _) (ExAt.nil_ _ _) (hE.out.pw hst hlt0) (CnAt.nil_ _ _))
 | false =>
  cases h40 : isF C [40] s with
  | true =>
   cases ho : (openF C s).1 with
   | false =>
    have hF : Hid (R = (.nil, (openF C s).2)) := Lib.hid (by rw [hR]; unfold notF; simp only [h33, h40, ho]; rfl)
    have ho' := Lib.hid (pair_of ho)
    replace h33 := Lib.hid h33
    replace h40 := Lib.hid h40
    clear hP hR ho
    go_enter Try.func93, Try.ntmps93
    go_wp2_with fail
    refine (is_from hM.out [33] h33.out).mono ?_
    rintro e w1 ⟨rfl, h1, -⟩
    have h1 := Lib.hid h1
    go_wp2_with fail
    refine (is_from h1.out [40] h40.out).mono ?_
    rintro e w2 ⟨rfl, h2, -⟩
    have h2 := Lib.hid h2
    go_wp2_with fail
    refine (open_from h2.out ho'.out).mono ?_
    rintro e w3 ⟨rfl, h3, -⟩
    have h3 := Lib.hid h3
    go_wp2_with fail
    go_ret
    rw [hF.out]
    exact CnPost.of h3.out (CnAt.nil_ _ _)
   | true =>
    obtain ⟨e1, _, hlt⟩ := openF_true ho
    have hi := isF_lt h40
    obtain ⟨s2, hs2'⟩ : ∃ x, x = (openF C s).2 := ⟨_, rfl⟩
    obtain ⟨r, hr⟩ : ∃ x, x = cond C s2.next := ⟨_, rfl⟩
    obtain ⟨s3, hs3⟩ : ∃ x, x = wantF C [41] r.2 := ⟨_, rfl⟩
    have hF : Hid (R = (r.1, s3.shut)) := Lib.hid (by rw [hR, hs3, hr, hs2']; unfold notF; simp only [h33, h40, ho]; rfl)
    have ho' : Hid (openF C s = (true, s2)) := Lib.hid (by rw [hs2']; exact pair_of ho)
    have hi3 : s2.i < C.tk.length := by rw [hs2', e1]; exact hi
    have hdp : m + 1 ≤ s2.next.deep := by rw [hs2', e1]; simp only [PS.next]; omega
    have hd1 : 1 ≤ s3.deep := by rw [hs3, (Stp.want [41] r.2).dp, hr, (hs1 C s2.next).dp]; omega
    replace hr := Lib.hid hr
    replace hs3 := Lib.hid hs3
    replace h33 := Lib.hid h33
    replace h40 := Lib.hid h40
    clear hP hR ho e1 hs2'
    go_enter Try.func93, Try.ntmps93
    go_wp2_with fail
    refine (is_from hM.out [33] h33.out).mono ?_
    rintro e w1 ⟨rfl, h1, -⟩
    have h1 := Lib.hid h1
    go_wp2_with fail
    refine (is_from h1.out [40] h40.out).mono ?_
    rintro e w2 ⟨rfl, h2, -⟩
    have h2 := Lib.hid h2
    go_wp2_with fail
    refine (open_from h2.out ho'.out).mono ?_
    rintro e w3 ⟨rfl, h3, -⟩
    obtain ⟨a0, d0, d1, d2, d3, d4, d5, d6, dfz⟩ := h3.facts
    have h3 := Lib.hid h3
    have hw1 := i64_next (i := s2.i) (by omega)
    go_wp2_with fail
    refine (hcond.from_ (h3.out.next hi3) hdp hr.out.symm).mono ?_
    rintro e w4 ⟨p, rfl, h4, hE, -⟩
    clear a0 d0 d1 d2 d3 d4 d5 d6 dfz hw1 h2 h1 h3
    have h4 := Lib.hid h4
    have hE := Lib.hid hE
    go_wp2_with fail
    refine (want_from h4.out [41] hs3.out.symm).mono ?_
    rintro e w5 ⟨rfl, h5, hW5⟩
    have hE5 := Lib.hid (hE.out.pw hW5 hlt0)
    clear hW5 hE h4
    obtain ⟨c1, c2, c3, c4, c5, c6, c7⟩ := h5.bounds
    obtain ⟨a0, d0, d1, d2, d3, d4, d5, d6, dfz⟩ := h5.facts
    have h5 := Lib.hid h5
    have hw1 := i64_pred hd1 (by omega)
    go_wp2_with fail
    go_ret
    rw [hF.out]
    have h6 := h5.out.shut hd1
    have hst : Writes [some Z.g] w5 (w5.setCell ⟨Z.g, 5, none⟩ (.int .i64 ((s3.deep : Int) - 1))) := Writes.store w5 (by simp) _
    exact CnPost.of h6 (hE5.out.pw hst hlt0)
  | false =>
   have hNull : nullF C s = (namedF C s && (decide (s.i + 2 < C.tk.length) && (txtAt C (s.i + 2) == [110, 117, 108, 108] && (txtAt C (s.i + 1) == [61, 61] || txtAt C (s.i + 1) == [33, 61])))) := rfl
   obtain ⟨nf, hnf⟩ : ∃ x, x = nullF C s := ⟨_, rfl⟩
   rw [← hnf] at hNull
   have hTok := hP
   replace h33 := Lib.hid h33
   replace h40 := Lib.hid h40
   replace hR := Lib.hid hR
   replace hTok := Lib.hid hTok
   replace hNull := Lib.hid hNull
   replace hnf := Lib.hid hnf
   clear hP
   go_enter Try.func93, Try.ntmps93
   go_wp2_with fail
   refine (is_from hM.out [33] h33.out).mono ?_
   rintro e w1 ⟨rfl, h1, -⟩
   replace h1 := Lib.hid h1
   go_wp2_with fail
   refine (is_from h1.out [40] h40.out).mono ?_
   rintro e w2 ⟨rfl, hgo, -⟩
   replace hgo := Lib.hid hgo
   clear h1
   go_upto_region 16 with (fail)
   go_cut [118] (fun bv wc => bv = .bool nf ∧ Hid (Moved C Z s w wc))
   case first =>
    have hw1 : IntKind.i64.wrap ((s.i : Int) + 2) = (s.i : Int) + 2 := IntWalk.i64_in _ (by omega)
    have hw2 := i64_next (i := s.i) (by omega)
    have p1 : (0 : Int) ≤ (s.i : Int) + 1 := by omega
    have p2 : (0 : Int) ≤ (s.i : Int) + 2 := by omega
    have p3 : ((s.i : Int) + 1).toNat = s.i + 1 := by omega
    have p4 : ((s.i : Int) + 2).toNat = s.i + 2 := by omega
    cases hn : namedF C s with
    | false =>
     have hN2 : Hid (nf = false) := Lib.hid (by rw [hNull.out, hn]; rfl)
     replace hn := Lib.hid hn
     refine wp_region_tabL ((fun _ _ v => v = .pointer (some ⟨Z.g, 0, none⟩)) ::
      (fun _ _ v => v = .bool false) ::
      (fun _ _ v => v = .bool false) ::
      (fun _ _ v => v = undef) ::
      (fun _ _ v => v = undef) ::
      (fun _ _ v => v = undef) ::
      (fun _ _ v => v = undef) ::
      (fun _ _ v => v = undef) ::
      (fun _ _ v => v = undef) ::
      (fun _ _ v => v = undef) ::
      (fun _ _ v => v = undef) ::
      (fun _ _ v => v = undef) ::
      (fun _ _ v => v = undef) ::
      (fun _ _ v => v = undef) ::
      (fun _ _ v => v = .bool false) ::
      (fun _ _ v => v = .bool false) ::
      (fun _ _ v => v = undef) ::
      (fun _ _ v => v = undef) ::
      (fun _ _ v => v = undef) ::
      (fun _ _ v => v = undef) ::
      (fun _ _ v => v = undef) ::
      (fun _ _ v => v = undef) ::
      (fun _ _ v => v = undef) ::
      (fun _ _ v => v = undef) ::
      (fun _ _ v => v = undef) ::
      (fun _ _ v => v = undef) ::
      (fun _ _ v => v = undef) ::
      (fun _ _ v => v = undef) ::
      (fun _ _ v => v = undef) ::
      (fun _ _ v => v = .bool false) ::
      (fun _ _ v => v = .bool false) ::
      (fun _ _ v => v = undef) ::
      (fun _ _ v => v = undef) ::
      (fun _ _ v => v = undef) ::
      (fun _ _ v => v = undef) ::
      (fun _ _ v => v = undef) ::
      (fun _ _ v => v = undef) ::
      (fun _ _ v => v = undef) ::
      (fun _ _ v => v = undef) ::
      (fun _ _ v => v = undef) ::
      (fun _ _ v => v = undef) ::
      (fun _ _ v => v = undef) ::
      (fun _ _ v => v = undef) ::
      (fun _ _ v => v = undef) ::
      (fun _ _ v => v = undef) ::
      (fun _ _ v => v = undef) ::
      (fun _ _ v => v = undef) ::
      (fun _ _ v => v = undef) ::
      (fun _ _ v => v = undef) ::
      (fun _ _ v => v = undef) ::
      (fun _ _ v => v = undef) ::
      (fun _ _ v => v = undef) ::
      (fun _ _ v => v = undef) ::
      (fun _ _ v => v = undef) ::
      (fun _ _ v => v = undef) ::
      (fun _ _ v => v = undef) ::
      (fun _ _ v => v = undef) ::
      (fun _ _ v => v = undef) ::
      (fun _ _ v => v = undef) ::
      (fun _ _ v => v = .bool false) :: [])
      (⟨[(0, none)], 0, []⟩ :: ⟨[(59, some 0)], 0, []⟩ :: ⟨[(60, some 1)], 0, []⟩ :: ⟨[(0, none), (61, some 2)], 61, []⟩ :: ⟨[(62, some 3), (61, some 2)], 61, []⟩ :: ⟨[(63, some 4), (61, some 2)], 61, []⟩ :: ⟨[(64, some 5), (61, some 2)], 61, []⟩ :: ⟨[(65, some 6), (61, some 2)], 61, []⟩ :: ⟨[(0, none), (61, some 2)], 61, []⟩ :: ⟨[(67, some 8), (61, some 2)], 61, []⟩ :: ⟨[(68, some 9), (61, some 2)], 61, []⟩ :: ⟨[(69, some 10), (61, some 2)], 61, []⟩ :: ⟨[(70, some 11), (61, some 2)], 61, []⟩ :: ⟨[(66, some 7), (71, some 12), (61, some 2)], 61, []⟩ :: ⟨[(61, some 2), (72, some 13)], 0, []⟩ :: ⟨[(73, some 14)], 0, []⟩ :: ⟨[(0, none), (74, some 15)], 74, []⟩ :: ⟨[(75, some 16), (74, some 15)], 74, []⟩ :: ⟨[(76, some 17), (74, some 15)], 74, []⟩ :: ⟨[(77, some 18), (74, some 15)], 74, []⟩ :: ⟨[(0, none), (74, some 15)], 74, []⟩ :: ⟨[(79, some 20), (74, some 15)], 74, []⟩ :: ⟨[(80, some 21), (74, some 15)], 74, []⟩ :: ⟨[(81, some 22), (74, some 15)], 74, []⟩ :: ⟨[(82, some 23), (74, some 15)], 74, []⟩ :: ⟨[(78, some 19), (83, some 24), (74, some 15)], 74, []⟩ :: ⟨[(84, some 25), (74, some 15)], 74, []⟩ :: ⟨[(85, some 26), (74, some 15)], 74, []⟩ :: ⟨[(86, some 27), (74, some 15)], 74, []⟩ :: ⟨[(74, some 15), (87, some 28)], 0, []⟩ :: ⟨[(88, some 29)], 0, []⟩ :: ⟨[(0, none), (89, some 30)], 89, []⟩ :: ⟨[(90, some 31), (89, some 30)], 89, []⟩ :: ⟨[(91, some 32), (89, some 30)], 89, []⟩ :: ⟨[(92, some 33), (89, some 30)], 89, []⟩ :: ⟨[(0, none), (89, some 30)], 89, []⟩ :: ⟨[(94, some 35), (89, some 30)], 89, []⟩ :: ⟨[(95, some 36), (89, some 30)], 89, []⟩ :: ⟨[(96, some 37), (89, some 30)], 89, []⟩ :: ⟨[(97, some 38), (89, some 30)], 89, []⟩ :: ⟨[(93, some 34), (98, some 39), (89, some 30)], 89, []⟩ :: ⟨[(99, some 40), (89, some 30)], 89, []⟩ :: ⟨[(100, some 41), (89, some 30)], 89, []⟩ :: ⟨[(101, some 42), (89, some 30)], 89, []⟩ :: ⟨[(102, some 43), (89, some 30)], 89, []⟩ :: ⟨[(0, none), (103, some 44)], 103, []⟩ :: ⟨[(104, some 45), (103, some 44)], 103, []⟩ :: ⟨[(105, some 46), (103, some 44)], 103, []⟩ :: ⟨[(106, some 47), (103, some 44)], 103, []⟩ :: ⟨[(0, none), (103, some 44)], 103, []⟩ :: ⟨[(108, some 49), (103, some 44)], 103, []⟩ :: ⟨[(109, some 50), (103, some 44)], 103, []⟩ :: ⟨[(110, some 51), (103, some 44)], 103, []⟩ :: ⟨[(111, some 52), (103, some 44)], 103, []⟩ :: ⟨[(107, some 48), (112, some 53), (103, some 44)], 103, []⟩ :: ⟨[(113, some 54), (103, some 44)], 103, []⟩ :: ⟨[(114, some 55), (103, some 44)], 103, []⟩ :: ⟨[(115, some 56), (103, some 44)], 103, []⟩ :: ⟨[(103, some 44), (116, some 57), (89, some 30)], 89, []⟩ :: ⟨[(89, some 30), (117, some 58)], 0, []⟩ :: [])
      (none :: none :: none :: none :: none :: none :: none :: none :: none :: none :: none :: none :: none :: none :: none :: none :: none :: none :: none :: none :: none :: none :: none :: none :: none :: none :: none :: none :: none :: none :: none :: none :: none :: none :: none :: none :: none :: none :: none :: none :: none :: none :: none :: none :: none :: none :: none :: none :: none :: none :: none :: none :: none :: none :: none :: none :: none :: none :: none :: some 0 :: some 1 :: some 2 :: some 3 :: some 4 :: some 5 :: some 6 :: some 7 :: some 8 :: some 9 :: some 10 :: some 11 :: some 12 :: some 13 :: some 14 :: some 15 :: some 16 :: some 17 :: some 18 :: some 19 :: some 20 :: some 21 :: some 22 :: some 23 :: some 24 :: some 25 :: some 26 :: some 27 :: some 28 :: some 29 :: some 30 :: some 31 :: some 32 :: some 33 :: some 34 :: some 35 :: some 36 :: some 37 :: some 38 :: some 39 :: some 40 :: some 41 :: some 42 :: some 43 :: some 44 :: some 45 :: some 46 :: some 47 :: some 48 :: some 49 :: some 50 :: some 51 :: some 52 :: some 53 :: some 54 :: some 55 :: some 56 :: some 57 :: some 58 :: some 59 :: [])
      (fun _ w' => Moved C Z s w w') (fun _ _ _ => True) ?mixK16f ?okK16f ?tabK16f ?frK16f ?inK16f ?keptK16f ?startK16f ?eachK16f ?finK16f
     case mixK16f => kernel_rfl
     case okK16f => kernel_rfl
     case tabK16f => kernel_rfl
     case frK16f => kernel_rfl
     case inK16f => rfl
     case keptK16f => exact ⟨fun _ _ _ _ _ _ _ _ _ _ _ h => h, fun _ _ _ _ _ _ _ _ _ _ _ h => h, fun _ _ _ _ _ _ _ _ _ _ _ h => h, fun _ _ _ _ _ _ _ _ _ _ _ h => h, fun _ _ _ _ _ _ _ _ _ _ _ h => h, fun _ _ _ _ _ _ _ _ _ _ _ h => h, fun _ _ _ _ _ _ _ _ _ _ _ h => h, fun _ _ _ _ _ _ _ _ _ _ _ h => h, fun _ _ _ _ _ _ _ _ _ _ _ h => h, fun _ _ _ _ _ _ _ _ _ _ _ h => h, fun _ _ _ _ _ _ _ _ _ _ _ h => h, fun _ _ _ _ _ _ _ _ _ _ _ h => h, fun _ _ _ _ _ _ _ _ _ _ _ h => h, fun _ _ _ _ _ _ _ _ _ _ _ h => h, fun _ _ _ _ _ _ _ _ _ _ _ h => h, fun _ _ _ _ _ _ _ _ _ _ _ h => h, fun _ _ _ _ _ _ _ _ _ _ _ h => h, fun _ _ _ _ _ _ _ _ _ _ _ h => h, fun _ _ _ _ _ _ _ _ _ _ _ h => h, fun _ _ _ _ _ _ _ _ _ _ _ h => h, fun _ _ _ _ _ _ _ _ _ _ _ h => h, fun _ _ _ _ _ _ _ _ _ _ _ h => h, fun _ _ _ _ _ _ _ _ _ _ _ h => h, fun _ _ _ _ _ _ _ _ _ _ _ h => h, fun _ _ _ _ _ _ _ _ _ _ _ h => h, fun _ _ _ _ _ _ _ _ _ _ _ h => h, fun _ _ _ _ _ _ _ _ _ _ _ h => h, fun _ _ _ _ _ _ _ _ _ _ _ h => h, fun _ _ _ _ _ _ _ _ _ _ _ h => h, fun _ _ _ _ _ _ _ _ _ _ _ h => h, fun _ _ _ _ _ _ _ _ _ _ _ h => h, fun _ _ _ _ _ _ _ _ _ _ _ h => h, fun _ _ _ _ _ _ _ _ _ _ _ h => h, fun _ _ _ _ _ _ _ _ _ _ _ h => h, fun _ _ _ _ _ _ _ _ _ _ _ h => h, fun _ _ _ _ _ _ _ _ _ _ _ h => h, fun _ _ _ _ _ _ _ _ _ _ _ h => h, fun _ _ _ _ _ _ _ _ _ _ _ h => h, fun _ _ _ _ _ _ _ _ _ _ _ h => h, fun _ _ _ _ _ _ _ _ _ _ _ h => h, fun _ _ _ _ _ _ _ _ _ _ _ h => h, fun _ _ _ _ _ _ _ _ _ _ _ h => h, fun _ _ _ _ _ _ _ _ _ _ _ h => h, fun _ _ _ _ _ _ _ _ _ _ _ h => h, fun _ _ _ _ _ _ _ _ _ _ _ h => h, fun _ _ _ _ _ _ _ _ _ _ _ h => h, fun _ _ _ _ _ _ _ _ _ _ _ h => h, fun _ _ _ _ _ _ _ _ _ _ _ h => h, fun _ _ _ _ _ _ _ _ _ _ _ h => h, fun _ _ _ _ _ _ _ _ _ _ _ h => h, fun _ _ _ _ _ _ _ _ _ _ _ h => h, fun _ _ _ _ _ _ _ _ _ _ _ h => h, fun _ _ _ _ _ _ _ _ _ _ _ h => h, fun _ _ _ _ _ _ _ _ _ _ _ h => h, fun _ _ _ _ _ _ _ _ _ _ _ h => h, fun _ _ _ _ _ _ _ _ _ _ _ h => h, fun _ _ _ _ _ _ _ _ _ _ _ h => h, fun _ _ _ _ _ _ _ _ _ _ _ h => h, fun _ _ _ _ _ _ _ _ _ _ _ h => h, fun _ _ _ _ _ _ _ _ _ _ _ h => h, trivial⟩
     case startK16f => exact hgo.out.below (Below.refl _ _).drew
     case eachK16f =>
      refine ⟨?_, ?_, ?_, ?_, ?_, ?_, ?_, ?_, ?_, ?_, ?_, ?_, ?_, ?_, ?_, ?_, ?_, ?_, ?_, ?_, ?_, ?_, ?_, ?_, ?_, ?_, ?_, ?_, ?_, ?_, ?_, ?_, ?_, ?_, ?_, ?_, ?_, ?_, ?_, ?_, ?_, ?_, ?_, ?_, ?_, ?_, ?_, ?_, ?_, ?_, ?_, ?_, ?_, ?_, ?_, ?_, ?_, ?_, ?_, ?_, trivial⟩
      ·intro w L f hC hLi hLd hLn hF
       obtain ⟨d0, _⟩ := hF
       have d0 : f 0 = .pointer (some ⟨Z.g, 0, none⟩) := d0
       refine Step2.live rfl ?_
       exact relUpon_value (v := f 0) rfl (hC) (trivial) d0
      ·intro w L f hC hLi hLd hLn hF
       obtain ⟨d59, _⟩ := hF
       have d59 : f 59 = .pointer (some ⟨Z.g, 0, none⟩) := d59
       refine Step2.live rfl ?_
       have ev : ∀ t, evalOf f (.tmp t) = f t := fun _ => rfl
       have ec : ∀ c, evalOf f (.const c) = c := fun _ => rfl
       have ef : ∀ g, evalOf f (.func g) = .func (.func g) #[] #[] := fun _ => rfl
       refine relUpon_call (f := 41) (args := #[.pointer (some ⟨Z.g, 0, none⟩)]) (w := w) (by go_simp) (named_from hC hn.out) ?_
       rintro e w1 ⟨he, h1, -⟩
       exact ⟨_, he, h1, trivial, rfl⟩
      ·intro w L f hC hLi hLd hLn hF
       obtain ⟨d60, _⟩ := hF
       have d60 : f 60 = .bool false := d60
       refine Step2.live rfl ?_
       exact relUpon_value (v := f 60) rfl (hC) (trivial) d60
      ·intro w L f hC hLi hLd hLn hF
       obtain ⟨d0, d61, _⟩ := hF
       have d61 : f 61 = .bool false := d61
       refine StepL2.dead (show wantedBy _ (f 61) = false by rw [d61]; rfl) (hC) ?_ (trivial)
       exact rfl
      ·intro w L f hC hLi hLd hLn hF
       obtain ⟨d62, d61, _⟩ := hF
       have d61 : f 61 = .bool false := d61
       refine StepL2.dead (show wantedBy _ (f 61) = false by rw [d61]; rfl) (hC) ?_ (trivial)
       exact rfl
      ·intro w L f hC hLi hLd hLn hF
       obtain ⟨d63, d61, _⟩ := hF
       have d61 : f 61 = .bool false := d61
       refine StepL2.dead (show wantedBy _ (f 61) = false by rw [d61]; rfl) (hC) ?_ (trivial)
       exact rfl
      ·intro w L f hC hLi hLd hLn hF
       obtain ⟨d64, d61, _⟩ := hF
       have d61 : f 61 = .bool false := d61
       refine StepL2.dead (show wantedBy _ (f 61) = false by rw [d61]; rfl) (hC) ?_ (trivial)
       exact rfl
      ·intro w L f hC hLi hLd hLn hF
       obtain ⟨d65, d61, _⟩ := hF
       have d61 : f 61 = .bool false := d61
       refine StepL2.dead (show wantedBy _ (f 61) = false by rw [d61]; rfl) (hC) ?_ (trivial)
       exact rfl
      ·intro w L f hC hLi hLd hLn hF
       obtain ⟨d0, d61, _⟩ := hF
       have d61 : f 61 = .bool false := d61
       refine StepL2.dead (show wantedBy _ (f 61) = false by rw [d61]; rfl) (hC) ?_ (trivial)
       exact rfl
      ·intro w L f hC hLi hLd hLn hF
       obtain ⟨d67, d61, _⟩ := hF
       have d61 : f 61 = .bool false := d61
       refine StepL2.dead (show wantedBy _ (f 61) = false by rw [d61]; rfl) (hC) ?_ (trivial)
       exact rfl
      ·intro w L f hC hLi hLd hLn hF
       obtain ⟨d68, d61, _⟩ := hF
       have d61 : f 61 = .bool false := d61
       refine StepL2.dead (show wantedBy _ (f 61) = false by rw [d61]; rfl) (hC) ?_ (trivial)
       exact rfl
      ·intro w L f hC hLi hLd hLn hF
       obtain ⟨d69, d61, _⟩ := hF
       have d61 : f 61 = .bool false := d61
       refine StepL2.dead (show wantedBy _ (f 61) = false by rw [d61]; rfl) (hC) ?_ (trivial)
       exact rfl
      ·intro w L f hC hLi hLd hLn hF
       obtain ⟨d70, d61, _⟩ := hF
       have d61 : f 61 = .bool false := d61
       refine StepL2.dead (show wantedBy _ (f 61) = false by rw [d61]; rfl) (hC) ?_ (trivial)
       exact rfl
      ·intro w L f hC hLi hLd hLn hF
       obtain ⟨d66, d71, d61, _⟩ := hF
       have d61 : f 61 = .bool false := d61
       refine StepL2.dead (show wantedBy _ (f 61) = false by rw [d61]; rfl) (hC) ?_ (trivial)
       exact rfl
      ·intro w L f hC hLi hLd hLn hF
       obtain ⟨d61, d72, _⟩ := hF
       have d61 : f 61 = .bool false := d61
       have d72 : f 72 = undef := d72
       refine Step2.live rfl ?_
       obtain ⟨u0, u1, u2, u3, u4, u5, u6, u7, ufz⟩ := hC.facts
       have ev : ∀ t, evalOf f (.tmp t) = f t := fun _ => rfl
       have ec : ∀ c, evalOf f (.const c) = c := fun _ => rfl
       refine relUpon_value ?_ hC trivial rfl
       go_simp
      ·intro w L f hC hLi hLd hLn hF
       obtain ⟨d73, _⟩ := hF
       have d73 : f 73 = .bool false := d73
       refine Step2.live rfl ?_
       exact relUpon_value (v := f 73) rfl (hC) (trivial) d73
      ·intro w L f hC hLi hLd hLn hF
       obtain ⟨d0, d74, _⟩ := hF
       have d74 : f 74 = .bool false := d74
       refine StepL2.dead (show wantedBy _ (f 74) = false by rw [d74]; rfl) (hC) ?_ (trivial)
       exact rfl
      ·intro w L f hC hLi hLd hLn hF
       obtain ⟨d75, d74, _⟩ := hF
       have d74 : f 74 = .bool false := d74
       refine StepL2.dead (show wantedBy _ (f 74) = false by rw [d74]; rfl) (hC) ?_ (trivial)
       exact rfl
      ·intro w L f hC hLi hLd hLn hF
       obtain ⟨d76, d74, _⟩ := hF
       have d74 : f 74 = .bool false := d74
       refine StepL2.dead (show wantedBy _ (f 74) = false by rw [d74]; rfl) (hC) ?_ (trivial)
       exact rfl
      ·intro w L f hC hLi hLd hLn hF
       obtain ⟨d77, d74, _⟩ := hF
       have d74 : f 74 = .bool false := d74
       refine StepL2.dead (show wantedBy _ (f 74) = false by rw [d74]; rfl) (hC) ?_ (trivial)
       exact rfl
      ·intro w L f hC hLi hLd hLn hF
       obtain ⟨d0, d74, _⟩ := hF
       have d74 : f 74 = .bool false := d74
       refine StepL2.dead (show wantedBy _ (f 74) = false by rw [d74]; rfl) (hC) ?_ (trivial)
       exact rfl
      ·intro w L f hC hLi hLd hLn hF
       obtain ⟨d79, d74, _⟩ := hF
       have d74 : f 74 = .bool false := d74
       refine StepL2.dead (show wantedBy _ (f 74) = false by rw [d74]; rfl) (hC) ?_ (trivial)
       exact rfl
      ·intro w L f hC hLi hLd hLn hF
       obtain ⟨d80, d74, _⟩ := hF
       have d74 : f 74 = .bool false := d74
       refine StepL2.dead (show wantedBy _ (f 74) = false by rw [d74]; rfl) (hC) ?_ (trivial)
       exact rfl
      ·intro w L f hC hLi hLd hLn hF
       obtain ⟨d81, d74, _⟩ := hF
       have d74 : f 74 = .bool false := d74
       refine StepL2.dead (show wantedBy _ (f 74) = false by rw [d74]; rfl) (hC) ?_ (trivial)
       exact rfl
      ·intro w L f hC hLi hLd hLn hF
       obtain ⟨d82, d74, _⟩ := hF
       have d74 : f 74 = .bool false := d74
       refine StepL2.dead (show wantedBy _ (f 74) = false by rw [d74]; rfl) (hC) ?_ (trivial)
       exact rfl
      ·intro w L f hC hLi hLd hLn hF
       obtain ⟨d78, d83, d74, _⟩ := hF
       have d74 : f 74 = .bool false := d74
       refine StepL2.dead (show wantedBy _ (f 74) = false by rw [d74]; rfl) (hC) ?_ (trivial)
       exact rfl
      ·intro w L f hC hLi hLd hLn hF
       obtain ⟨d84, d74, _⟩ := hF
       have d74 : f 74 = .bool false := d74
       refine StepL2.dead (show wantedBy _ (f 74) = false by rw [d74]; rfl) (hC) ?_ (trivial)
       exact rfl
      ·intro w L f hC hLi hLd hLn hF
       obtain ⟨d85, d74, _⟩ := hF
       have d74 : f 74 = .bool false := d74
       refine StepL2.dead (show wantedBy _ (f 74) = false by rw [d74]; rfl) (hC) ?_ (trivial)
       exact rfl
      ·intro w L f hC hLi hLd hLn hF
       obtain ⟨d86, d74, _⟩ := hF
       have d74 : f 74 = .bool false := d74
       refine StepL2.dead (show wantedBy _ (f 74) = false by rw [d74]; rfl) (hC) ?_ (trivial)
       exact rfl
      ·intro w L f hC hLi hLd hLn hF
       obtain ⟨d74, d87, _⟩ := hF
       have d74 : f 74 = .bool false := d74
       have d87 : f 87 = undef := d87
       refine Step2.live rfl ?_
       obtain ⟨u0, u1, u2, u3, u4, u5, u6, u7, ufz⟩ := hC.facts
       have ev : ∀ t, evalOf f (.tmp t) = f t := fun _ => rfl
       have ec : ∀ c, evalOf f (.const c) = c := fun _ => rfl
       refine relUpon_value ?_ hC trivial rfl
       go_simp
      ·intro w L f hC hLi hLd hLn hF
       obtain ⟨d88, _⟩ := hF
       have d88 : f 88 = .bool false := d88
       refine Step2.live rfl ?_
       exact relUpon_value (v := f 88) rfl (hC) (trivial) d88
      ·intro w L f hC hLi hLd hLn hF
       obtain ⟨d0, d89, _⟩ := hF
       have d89 : f 89 = .bool false := d89
       refine StepL2.dead (show wantedBy _ (f 89) = false by rw [d89]; rfl) (hC) ?_ (trivial)
       exact rfl
      ·intro w L f hC hLi hLd hLn hF
       obtain ⟨d90, d89, _⟩ := hF
       have d89 : f 89 = .bool false := d89
       refine StepL2.dead (show wantedBy _ (f 89) = false by rw [d89]; rfl) (hC) ?_ (trivial)
       exact rfl
      ·intro w L f hC hLi hLd hLn hF
       obtain ⟨d91, d89, _⟩ := hF
       have d89 : f 89 = .bool false := d89
       refine StepL2.dead (show wantedBy _ (f 89) = false by rw [d89]; rfl) (hC) ?_ (trivial)
       exact rfl
      ·intro w L f hC hLi hLd hLn hF
       obtain ⟨d92, d89, _⟩ := hF
       have d89 : f 89 = .bool false := d89
       refine StepL2.dead (show wantedBy _ (f 89) = false by rw [d89]; rfl) (hC) ?_ (trivial)
       exact rfl
      ·intro w L f hC hLi hLd hLn hF
       obtain ⟨d0, d89, _⟩ := hF
       have d89 : f 89 = .bool false := d89
       refine StepL2.dead (show wantedBy _ (f 89) = false by rw [d89]; rfl) (hC) ?_ (trivial)
       exact rfl
      ·intro w L f hC hLi hLd hLn hF
       obtain ⟨d94, d89, _⟩ := hF
       have d89 : f 89 = .bool false := d89
       refine StepL2.dead (show wantedBy _ (f 89) = false by rw [d89]; rfl) (hC) ?_ (trivial)
       exact rfl
      ·intro w L f hC hLi hLd hLn hF
       obtain ⟨d95, d89, _⟩ := hF
       have d89 : f 89 = .bool false := d89
       refine StepL2.dead (show wantedBy _ (f 89) = false by rw [d89]; rfl) (hC) ?_ (trivial)
       exact rfl
      ·intro w L f hC hLi hLd hLn hF
       obtain ⟨d96, d89, _⟩ := hF
       have d89 : f 89 = .bool false := d89
       refine StepL2.dead (show wantedBy _ (f 89) = false by rw [d89]; rfl) (hC) ?_ (trivial)
       exact rfl
      ·intro w L f hC hLi hLd hLn hF
       obtain ⟨d97, d89, _⟩ := hF
       have d89 : f 89 = .bool false := d89
       refine StepL2.dead (show wantedBy _ (f 89) = false by rw [d89]; rfl) (hC) ?_ (trivial)
       exact rfl
      ·intro w L f hC hLi hLd hLn hF
       obtain ⟨d93, d98, d89, _⟩ := hF
       have d89 : f 89 = .bool false := d89
       refine StepL2.dead (show wantedBy _ (f 89) = false by rw [d89]; rfl) (hC) ?_ (trivial)
       exact rfl
      ·intro w L f hC hLi hLd hLn hF
       obtain ⟨d99, d89, _⟩ := hF
       have d89 : f 89 = .bool false := d89
       refine StepL2.dead (show wantedBy _ (f 89) = false by rw [d89]; rfl) (hC) ?_ (trivial)
       exact rfl
      ·intro w L f hC hLi hLd hLn hF
       obtain ⟨d100, d89, _⟩ := hF
       have d89 : f 89 = .bool false := d89
       refine StepL2.dead (show wantedBy _ (f 89) = false by rw [d89]; rfl) (hC) ?_ (trivial)
       exact rfl
      ·intro w L f hC hLi hLd hLn hF
       obtain ⟨d101, d89, _⟩ := hF
       have d89 : f 89 = .bool false := d89
       refine StepL2.dead (show wantedBy _ (f 89) = false by rw [d89]; rfl) (hC) ?_ (trivial)
       exact rfl
      ·intro w L f hC hLi hLd hLn hF
       obtain ⟨d102, d89, _⟩ := hF
       have d89 : f 89 = .bool false := d89
       refine StepL2.dead (show wantedBy _ (f 89) = false by rw [d89]; rfl) (hC) ?_ (trivial)
       exact rfl
      ·intro w L f hC hLi hLd hLn hF
       obtain ⟨d0, d103, _⟩ := hF
       have d0 : f 0 = .pointer (some ⟨Z.g, 0, none⟩) := d0
       have d103 : f 103 = undef := d103
       refine StepL2.dead (show wantedBy _ (f 103) = false by rw [d103]; rfl) (hC) ?_ (trivial)
       exact rfl
      ·intro w L f hC hLi hLd hLn hF
       obtain ⟨d104, d103, _⟩ := hF
       have d104 : f 104 = undef := d104
       have d103 : f 103 = undef := d103
       refine StepL2.dead (show wantedBy _ (f 103) = false by rw [d103]; rfl) (hC) ?_ (trivial)
       exact rfl
      ·intro w L f hC hLi hLd hLn hF
       obtain ⟨d105, d103, _⟩ := hF
       have d105 : f 105 = undef := d105
       have d103 : f 103 = undef := d103
       refine StepL2.dead (show wantedBy _ (f 103) = false by rw [d103]; rfl) (hC) ?_ (trivial)
       exact rfl
      ·intro w L f hC hLi hLd hLn hF
       obtain ⟨d106, d103, _⟩ := hF
       have d106 : f 106 = undef := d106
       have d103 : f 103 = undef := d103
       refine StepL2.dead (show wantedBy _ (f 103) = false by rw [d103]; rfl) (hC) ?_ (trivial)
       exact rfl
      ·intro w L f hC hLi hLd hLn hF
       obtain ⟨d0, d103, _⟩ := hF
       have d0 : f 0 = .pointer (some ⟨Z.g, 0, none⟩) := d0
       have d103 : f 103 = undef := d103
       refine StepL2.dead (show wantedBy _ (f 103) = false by rw [d103]; rfl) (hC) ?_ (trivial)
       exact rfl
      ·intro w L f hC hLi hLd hLn hF
       obtain ⟨d108, d103, _⟩ := hF
       have d108 : f 108 = undef := d108
       have d103 : f 103 = undef := d103
       refine StepL2.dead (show wantedBy _ (f 103) = false by rw [d103]; rfl) (hC) ?_ (trivial)
       exact rfl
      ·intro w L f hC hLi hLd hLn hF
       obtain ⟨d109, d103, _⟩ := hF
       have d109 : f 109 = undef := d109
       have d103 : f 103 = undef := d103
       refine StepL2.dead (show wantedBy _ (f 103) = false by rw [d103]; rfl) (hC) ?_ (trivial)
       exact rfl
      ·intro w L f hC hLi hLd hLn hF
       obtain ⟨d110, d103, _⟩ := hF
       have d110 : f 110 = undef := d110
       have d103 : f 103 = undef := d103
       refine StepL2.dead (show wantedBy _ (f 103) = false by rw [d103]; rfl) (hC) ?_ (trivial)
       exact rfl
      ·intro w L f hC hLi hLd hLn hF
       obtain ⟨d111, d103, _⟩ := hF
       have d111 : f 111 = undef := d111
       have d103 : f 103 = undef := d103
       refine StepL2.dead (show wantedBy _ (f 103) = false by rw [d103]; rfl) (hC) ?_ (trivial)
       exact rfl
      ·intro w L f hC hLi hLd hLn hF
       obtain ⟨d107, d112, d103, _⟩ := hF
       have d107 : f 107 = undef := d107
       have d112 : f 112 = undef := d112
       have d103 : f 103 = undef := d103
       refine StepL2.dead (show wantedBy _ (f 103) = false by rw [d103]; rfl) (hC) ?_ (trivial)
       exact rfl
      ·intro w L f hC hLi hLd hLn hF
       obtain ⟨d113, d103, _⟩ := hF
       have d113 : f 113 = undef := d113
       have d103 : f 103 = undef := d103
       refine StepL2.dead (show wantedBy _ (f 103) = false by rw [d103]; rfl) (hC) ?_ (trivial)
       exact rfl
      ·intro w L f hC hLi hLd hLn hF
       obtain ⟨d114, d103, _⟩ := hF
       have d114 : f 114 = undef := d114
       have d103 : f 103 = undef := d103
       refine StepL2.dead (show wantedBy _ (f 103) = false by rw [d103]; rfl) (hC) ?_ (trivial)
       exact rfl
      ·intro w L f hC hLi hLd hLn hF
       obtain ⟨d115, d103, _⟩ := hF
       have d115 : f 115 = undef := d115
       have d103 : f 103 = undef := d103
       refine StepL2.dead (show wantedBy _ (f 103) = false by rw [d103]; rfl) (hC) ?_ (trivial)
       exact rfl
      ·intro w L f hC hLi hLd hLn hF
       obtain ⟨d103, d116, d89, _⟩ := hF
       have d89 : f 89 = .bool false := d89
       refine StepL2.dead (show wantedBy _ (f 89) = false by rw [d89]; rfl) (hC) ?_ (trivial)
       exact rfl
      ·intro w L f hC hLi hLd hLn hF
       obtain ⟨d89, d117, _⟩ := hF
       have d89 : f 89 = .bool false := d89
       have d117 : f 117 = undef := d117
       refine Step2.live rfl ?_
       obtain ⟨u0, u1, u2, u3, u4, u5, u6, u7, ufz⟩ := hC.facts
       have ev : ∀ t, evalOf f (.tmp t) = f t := fun _ => rfl
       have ec : ∀ c, evalOf f (.const c) = c := fun _ => rfl
       refine relUpon_value ?_ hC trivial rfl
       go_simp
     intro x w' hC hV

     have e0 : x 59 = .bool nf := (hV 59 _ rfl rfl).trans (by rw [hN2.out])
     clear hV
     simp only [framed]
     rw [e0]
     have hC := Lib.hid hC
     go_wp2_with fail
     go_meet
     case rel => exact ⟨rfl, hC⟩
    | true =>
     by_cases hi2 : s.i + 2 < C.tk.length
     case neg =>
      have hi2' : ¬ ((s.i : Int) + 2 < (C.tk.length : Int)) := by omega
      have hN2 : Hid (nf = false) := Lib.hid (by rw [hNull.out, decide_eq_false hi2]; simp)
      replace hn := Lib.hid hn
      refine wp_region_tabL ((fun _ _ v => v = .pointer (some ⟨Z.g, 0, none⟩)) ::
       (fun _ _ v => v = .bool true) ::
       (fun _ _ v => v = .bool true) ::
       (fun _ _ v => v = .pointer (some ⟨Z.g, 0, none⟩)) ::
       (fun _ _ v => v = .pointer (some ⟨Z.g, 0, none⟩)) ::
       (fun _ _ v => v = .pointer (some ⟨Z.g, 1, none⟩)) ::
       (fun _ _ v => v = .int .i64 ((s.i : Int))) ::
       (fun _ _ v => v = .int .i64 ((s.i : Int) + 2)) ::
       (fun _ _ v => v = .pointer (some ⟨Z.g, 0, none⟩)) ::
       (fun _ _ v => v = .pointer (some ⟨Z.g, 0, none⟩)) ::
       (fun _ _ v => v = .pointer (some ⟨Z.g, 0, none⟩)) ::
       (fun _ _ v => v = .slice Z.A C.tk.length Z.c) ::
       (fun _ _ v => v = .int .i64 ((C.tk.length : Int))) ::
       (fun _ _ v => v = .bool false) ::
       (fun _ _ v => v = .bool false) ::
       (fun _ _ v => v = .bool false) ::
       (fun _ _ v => v = undef) ::
       (fun _ _ v => v = undef) ::
       (fun _ _ v => v = undef) ::
       (fun _ _ v => v = undef) ::
       (fun _ _ v => v = undef) ::
       (fun _ _ v => v = undef) ::
       (fun _ _ v => v = undef) ::
       (fun _ _ v => v = undef) ::
       (fun _ _ v => v = undef) ::
       (fun _ _ v => v = undef) ::
       (fun _ _ v => v = undef) ::
       (fun _ _ v => v = undef) ::
       (fun _ _ v => v = undef) ::
       (fun _ _ v => v = .bool false) ::
       (fun _ _ v => v = .bool false) ::
       (fun _ _ v => v = undef) ::
       (fun _ _ v => v = undef) ::
       (fun _ _ v => v = undef) ::
       (fun _ _ v => v = undef) ::
       (fun _ _ v => v = undef) ::
       (fun _ _ v => v = undef) ::
       (fun _ _ v => v = undef) ::
       (fun _ _ v => v = undef) ::
       (fun _ _ v => v = undef) ::
       (fun _ _ v => v = undef) ::
       (fun _ _ v => v = undef) ::
       (fun _ _ v => v = undef) ::
       (fun _ _ v => v = undef) ::
       (fun _ _ v => v = undef) ::
       (fun _ _ v => v = undef) ::
       (fun _ _ v => v = undef) ::
       (fun _ _ v => v = undef) ::
       (fun _ _ v => v = undef) ::
       (fun _ _ v => v = undef) ::
       (fun _ _ v => v = undef) ::
       (fun _ _ v => v = undef) ::
       (fun _ _ v => v = undef) ::
       (fun _ _ v => v = undef) ::
       (fun _ _ v => v = undef) ::
       (fun _ _ v => v = undef) ::
       (fun _ _ v => v = undef) ::
       (fun _ _ v => v = undef) ::
       (fun _ _ v => v = undef) ::
       (fun _ _ v => v = .bool false) :: [])
       (⟨[(0, none)], 0, []⟩ :: ⟨[(59, some 0)], 0, []⟩ :: ⟨[(60, some 1)], 0, []⟩ :: ⟨[(0, none), (61, some 2)], 61, []⟩ :: ⟨[(62, some 3), (61, some 2)], 61, []⟩ :: ⟨[(63, some 4), (61, some 2)], 61, []⟩ :: ⟨[(64, some 5), (61, some 2)], 61, []⟩ :: ⟨[(65, some 6), (61, some 2)], 61, []⟩ :: ⟨[(0, none), (61, some 2)], 61, []⟩ :: ⟨[(67, some 8), (61, some 2)], 61, []⟩ :: ⟨[(68, some 9), (61, some 2)], 61, []⟩ :: ⟨[(69, some 10), (61, some 2)], 61, []⟩ :: ⟨[(70, some 11), (61, some 2)], 61, []⟩ :: ⟨[(66, some 7), (71, some 12), (61, some 2)], 61, []⟩ :: ⟨[(61, some 2), (72, some 13)], 0, []⟩ :: ⟨[(73, some 14)], 0, []⟩ :: ⟨[(0, none), (74, some 15)], 74, []⟩ :: ⟨[(75, some 16), (74, some 15)], 74, []⟩ :: ⟨[(76, some 17), (74, some 15)], 74, []⟩ :: ⟨[(77, some 18), (74, some 15)], 74, []⟩ :: ⟨[(0, none), (74, some 15)], 74, []⟩ :: ⟨[(79, some 20), (74, some 15)], 74, []⟩ :: ⟨[(80, some 21), (74, some 15)], 74, []⟩ :: ⟨[(81, some 22), (74, some 15)], 74, []⟩ :: ⟨[(82, some 23), (74, some 15)], 74, []⟩ :: ⟨[(78, some 19), (83, some 24), (74, some 15)], 74, []⟩ :: ⟨[(84, some 25), (74, some 15)], 74, []⟩ :: ⟨[(85, some 26), (74, some 15)], 74, []⟩ :: ⟨[(86, some 27), (74, some 15)], 74, []⟩ :: ⟨[(74, some 15), (87, some 28)], 0, []⟩ :: ⟨[(88, some 29)], 0, []⟩ :: ⟨[(0, none), (89, some 30)], 89, []⟩ :: ⟨[(90, some 31), (89, some 30)], 89, []⟩ :: ⟨[(91, some 32), (89, some 30)], 89, []⟩ :: ⟨[(92, some 33), (89, some 30)], 89, []⟩ :: ⟨[(0, none), (89, some 30)], 89, []⟩ :: ⟨[(94, some 35), (89, some 30)], 89, []⟩ :: ⟨[(95, some 36), (89, some 30)], 89, []⟩ :: ⟨[(96, some 37), (89, some 30)], 89, []⟩ :: ⟨[(97, some 38), (89, some 30)], 89, []⟩ :: ⟨[(93, some 34), (98, some 39), (89, some 30)], 89, []⟩ :: ⟨[(99, some 40), (89, some 30)], 89, []⟩ :: ⟨[(100, some 41), (89, some 30)], 89, []⟩ :: ⟨[(101, some 42), (89, some 30)], 89, []⟩ :: ⟨[(102, some 43), (89, some 30)], 89, []⟩ :: ⟨[(0, none), (103, some 44)], 103, []⟩ :: ⟨[(104, some 45), (103, some 44)], 103, []⟩ :: ⟨[(105, some 46), (103, some 44)], 103, []⟩ :: ⟨[(106, some 47), (103, some 44)], 103, []⟩ :: ⟨[(0, none), (103, some 44)], 103, []⟩ :: ⟨[(108, some 49), (103, some 44)], 103, []⟩ :: ⟨[(109, some 50), (103, some 44)], 103, []⟩ :: ⟨[(110, some 51), (103, some 44)], 103, []⟩ :: ⟨[(111, some 52), (103, some 44)], 103, []⟩ :: ⟨[(107, some 48), (112, some 53), (103, some 44)], 103, []⟩ :: ⟨[(113, some 54), (103, some 44)], 103, []⟩ :: ⟨[(114, some 55), (103, some 44)], 103, []⟩ :: ⟨[(115, some 56), (103, some 44)], 103, []⟩ :: ⟨[(103, some 44), (116, some 57), (89, some 30)], 89, []⟩ :: ⟨[(89, some 30), (117, some 58)], 0, []⟩ :: [])
       (none :: none :: none :: none :: none :: none :: none :: none :: none :: none :: none :: none :: none :: none :: none :: none :: none :: none :: none :: none :: none :: none :: none :: none :: none :: none :: none :: none :: none :: none :: none :: none :: none :: none :: none :: none :: none :: none :: none :: none :: none :: none :: none :: none :: none :: none :: none :: none :: none :: none :: none :: none :: none :: none :: none :: none :: none :: none :: none :: some 0 :: some 1 :: some 2 :: some 3 :: some 4 :: some 5 :: some 6 :: some 7 :: some 8 :: some 9 :: some 10 :: some 11 :: some 12 :: some 13 :: some 14 :: some 15 :: some 16 :: some 17 :: some 18 :: some 19 :: some 20 :: some 21 :: some 22 :: some 23 :: some 24 :: some 25 :: some 26 :: some 27 :: some 28 :: some 29 :: some 30 :: some 31 :: some 32 :: some 33 :: some 34 :: some 35 :: some 36 :: some 37 :: some 38 :: some 39 :: some 40 :: some 41 :: some 42 :: some 43 :: some 44 :: some 45 :: some 46 :: some 47 :: some 48 :: some 49 :: some 50 :: some 51 :: some 52 :: some 53 :: some 54 :: some 55 :: some 56 :: some 57 :: some 58 :: some 59 :: [])
       (fun _ w' => Moved C Z s w w') (fun _ _ _ => True) ?mixK16tf ?okK16tf ?tabK16tf ?frK16tf ?inK16tf ?keptK16tf ?startK16tf ?eachK16tf ?finK16tf
      case mixK16tf => kernel_rfl
      case okK16tf => kernel_rfl
      case tabK16tf => kernel_rfl
      case frK16tf => kernel_rfl
      case inK16tf => rfl
      case keptK16tf => exact ⟨fun _ _ _ _ _ _ _ _ _ _ _ h => h, fun _ _ _ _ _ _ _ _ _ _ _ h => h, fun _ _ _ _ _ _ _ _ _ _ _ h => h, fun _ _ _ _ _ _ _ _ _ _ _ h => h, fun _ _ _ _ _ _ _ _ _ _ _ h => h, fun _ _ _ _ _ _ _ _ _ _ _ h => h, fun _ _ _ _ _ _ _ _ _ _ _ h => h, fun _ _ _ _ _ _ _ _ _ _ _ h => h, fun _ _ _ _ _ _ _ _ _ _ _ h => h, fun _ _ _ _ _ _ _ _ _ _ _ h => h, fun _ _ _ _ _ _ _ _ _ _ _ h => h, fun _ _ _ _ _ _ _ _ _ _ _ h => h, fun _ _ _ _ _ _ _ _ _ _ _ h => h, fun _ _ _ _ _ _ _ _ _ _ _ h => h, fun _ _ _ _ _ _ _ _ _ _ _ h => h, fun _ _ _ _ _ _ _ _ _ _ _ h => h, fun _ _ _ _ _ _ _ _ _ _ _ h => h, fun _ _ _ _ _ _ _ _ _ _ _ h => h, fun _ _ _ _ _ _ _ _ _ _ _ h => h, fun _ _ _ _ _ _ _ _ _ _ _ h => h, fun _ _ _ _ _ _ _ _ _ _ _ h => h, fun _ _ _ _ _ _ _ _ _ _ _ h => h, fun _ _ _ _ _ _ _ _ _ _ _ h => h, fun _ _ _ _ _ _ _ _ _ _ _ h => h, fun _ _ _ _ _ _ _ _ _ _ _ h => h, fun _ _ _ _ _ _ _ _ _ _ _ h => h, fun _ _ _ _ _ _ _ _ _ _ _ h => h, fun _ _ _ _ _ _ _ _ _ _ _ h => h, fun _ _ _ _ _ _ _ _ _ _ _ h => h, fun _ _ _ _ _ _ _ _ _ _ _ h => h, fun _ _ _ _ _ _ _ _ _ _ _ h => h, fun _ _ _ _ _ _ _ _ _ _ _ h => h, fun _ _ _ _ _ _ _ _ _ _ _ h => h, fun _ _ _ _ _ _ _ _ _ _ _ h => h, fun _ _ _ _ _ _ _ _ _ _ _ h => h, fun _ _ _ _ _ _ _ _ _ _ _ h => h, fun _ _ _ _ _ _ _ _ _ _ _ h => h, fun _ _ _ _ _ _ _ _ _ _ _ h => h, fun _ _ _ _ _ _ _ _ _ _ _ h => h, fun _ _ _ _ _ _ _ _ _ _ _ h => h, fun _ _ _ _ _ _ _ _ _ _ _ h => h, fun _ _ _ _ _ _ _ _ _ _ _ h => h, fun _ _ _ _ _ _ _ _ _ _ _ h => h, fun _ _ _ _ _ _ _ _ _ _ _ h => h, fun _ _ _ _ _ _ _ _ _ _ _ h => h, fun _ _ _ _ _ _ _ _ _ _ _ h => h, fun _ _ _ _ _ _ _ _ _ _ _ h => h, fun _ _ _ _ _ _ _ _ _ _ _ h => h, fun _ _ _ _ _ _ _ _ _ _ _ h => h, fun _ _ _ _ _ _ _ _ _ _ _ h => h, fun _ _ _ _ _ _ _ _ _ _ _ h => h, fun _ _ _ _ _ _ _ _ _ _ _ h => h, fun _ _ _ _ _ _ _ _ _ _ _ h => h, fun _ _ _ _ _ _ _ _ _ _ _ h => h, fun _ _ _ _ _ _ _ _ _ _ _ h => h, fun _ _ _ _ _ _ _ _ _ _ _ h => h, fun _ _ _ _ _ _ _ _ _ _ _ h => h, fun _ _ _ _ _ _ _ _ _ _ _ h => h, fun _ _ _ _ _ _ _ _ _ _ _ h => h, fun _ _ _ _ _ _ _ _ _ _ _ h => h, trivial⟩
      case startK16tf => exact hgo.out.below (Below.refl _ _).drew
      case eachK16tf =>
       refine ⟨?_, ?_, ?_, ?_, ?_, ?_, ?_, ?_, ?_, ?_, ?_, ?_, ?_, ?_, ?_, ?_, ?_, ?_, ?_, ?_, ?_, ?_, ?_, ?_, ?_, ?_, ?_, ?_, ?_, ?_, ?_, ?_, ?_, ?_, ?_, ?_, ?_, ?_, ?_, ?_, ?_, ?_, ?_, ?_, ?_, ?_, ?_, ?_, ?_, ?_, ?_, ?_, ?_, ?_, ?_, ?_, ?_, ?_, ?_, ?_, trivial⟩
       ·intro w L f hC hLi hLd hLn hF
        obtain ⟨d0, _⟩ := hF
        have d0 : f 0 = .pointer (some ⟨Z.g, 0, none⟩) := d0
        refine Step2.live rfl ?_
        exact relUpon_value (v := f 0) rfl (hC) (trivial) d0
       ·intro w L f hC hLi hLd hLn hF
        obtain ⟨d59, _⟩ := hF
        have d59 : f 59 = .pointer (some ⟨Z.g, 0, none⟩) := d59
        refine Step2.live rfl ?_
        have ev : ∀ t, evalOf f (.tmp t) = f t := fun _ => rfl
        have ec : ∀ c, evalOf f (.const c) = c := fun _ => rfl
        have ef : ∀ g, evalOf f (.func g) = .func (.func g) #[] #[] := fun _ => rfl
        refine relUpon_call (f := 41) (args := #[.pointer (some ⟨Z.g, 0, none⟩)]) (w := w) (by go_simp) (named_from hC hn.out) ?_
        rintro e w1 ⟨he, h1, -⟩
        exact ⟨_, he, h1, trivial, rfl⟩
       ·intro w L f hC hLi hLd hLn hF
        obtain ⟨d60, _⟩ := hF
        have d60 : f 60 = .bool true := d60
        refine Step2.live rfl ?_
        exact relUpon_value (v := f 60) rfl (hC) (trivial) d60
       ·intro w L f hC hLi hLd hLn hF
        obtain ⟨d0, d61, _⟩ := hF
        have d0 : f 0 = .pointer (some ⟨Z.g, 0, none⟩) := d0
        have d61 : f 61 = .bool true := d61
        refine Step2.live (show wantedBy _ (f 61) = true by rw [d61]; rfl) ?_
        exact relUpon_value (v := f 0) rfl (hC) (trivial) d0
       ·intro w L f hC hLi hLd hLn hF
        obtain ⟨d62, d61, _⟩ := hF
        have d62 : f 62 = .pointer (some ⟨Z.g, 0, none⟩) := d62
        have d61 : f 61 = .bool true := d61
        refine Step2.live (show wantedBy _ (f 61) = true by rw [d61]; rfl) ?_
        obtain ⟨u0, u1, u2, u3, u4, u5, u6, u7, ufz⟩ := hC.facts
        have ev : ∀ t, evalOf f (.tmp t) = f t := fun _ => rfl
        have ec : ∀ c, evalOf f (.const c) = c := fun _ => rfl
        refine relUpon_value ?_ hC trivial rfl
        go_simp
       ·intro w L f hC hLi hLd hLn hF
        obtain ⟨d63, d61, _⟩ := hF
        have d63 : f 63 = .pointer (some ⟨Z.g, 0, none⟩) := d63
        have d61 : f 61 = .bool true := d61
        refine Step2.live (show wantedBy _ (f 61) = true by rw [d61]; rfl) ?_
        obtain ⟨u0, u1, u2, u3, u4, u5, u6, u7, ufz⟩ := hC.facts
        have ev : ∀ t, evalOf f (.tmp t) = f t := fun _ => rfl
        have ec : ∀ c, evalOf f (.const c) = c := fun _ => rfl
        refine relUpon_value ?_ hC trivial rfl
        go_simp
       ·intro w L f hC hLi hLd hLn hF
        obtain ⟨d64, d61, _⟩ := hF
        have d64 : f 64 = .pointer (some ⟨Z.g, 1, none⟩) := d64
        have d61 : f 61 = .bool true := d61
        refine Step2.live (show wantedBy _ (f 61) = true by rw [d61]; rfl) ?_
        obtain ⟨u0, u1, u2, u3, u4, u5, u6, u7, ufz⟩ := hC.facts
        have ev : ∀ t, evalOf f (.tmp t) = f t := fun _ => rfl
        have ec : ∀ c, evalOf f (.const c) = c := fun _ => rfl
        refine relUpon_value ?_ hC trivial rfl
        go_simp
       ·intro w L f hC hLi hLd hLn hF
        obtain ⟨d65, d61, _⟩ := hF
        have d65 : f 65 = .int .i64 ((s.i : Int)) := d65
        have d61 : f 61 = .bool true := d61
        refine Step2.live (show wantedBy _ (f 61) = true by rw [d61]; rfl) ?_
        obtain ⟨u0, u1, u2, u3, u4, u5, u6, u7, ufz⟩ := hC.facts
        have ev : ∀ t, evalOf f (.tmp t) = f t := fun _ => rfl
        have ec : ∀ c, evalOf f (.const c) = c := fun _ => rfl
        refine relUpon_value ?_ hC trivial rfl
        go_simp
       ·intro w L f hC hLi hLd hLn hF
        obtain ⟨d0, d61, _⟩ := hF
        have d0 : f 0 = .pointer (some ⟨Z.g, 0, none⟩) := d0
        have d61 : f 61 = .bool true := d61
        refine Step2.live (show wantedBy _ (f 61) = true by rw [d61]; rfl) ?_
        exact relUpon_value (v := f 0) rfl (hC) (trivial) d0
       ·intro w L f hC hLi hLd hLn hF
        obtain ⟨d67, d61, _⟩ := hF
        have d67 : f 67 = .pointer (some ⟨Z.g, 0, none⟩) := d67
        have d61 : f 61 = .bool true := d61
        refine Step2.live (show wantedBy _ (f 61) = true by rw [d61]; rfl) ?_
        obtain ⟨u0, u1, u2, u3, u4, u5, u6, u7, ufz⟩ := hC.facts
        have ev : ∀ t, evalOf f (.tmp t) = f t := fun _ => rfl
        have ec : ∀ c, evalOf f (.const c) = c := fun _ => rfl
        refine relUpon_value ?_ hC trivial rfl
        go_simp
       ·intro w L f hC hLi hLd hLn hF
        obtain ⟨d68, d61, _⟩ := hF
        have d68 : f 68 = .pointer (some ⟨Z.g, 0, none⟩) := d68
        have d61 : f 61 = .bool true := d61
        refine Step2.live (show wantedBy _ (f 61) = true by rw [d61]; rfl) ?_
        obtain ⟨u0, u1, u2, u3, u4, u5, u6, u7, ufz⟩ := hC.facts
        have ev : ∀ t, evalOf f (.tmp t) = f t := fun _ => rfl
        have ec : ∀ c, evalOf f (.const c) = c := fun _ => rfl
        refine relUpon_value ?_ hC trivial rfl
        go_simp
       ·intro w L f hC hLi hLd hLn hF
        obtain ⟨d69, d61, _⟩ := hF
        have d69 : f 69 = .pointer (some ⟨Z.g, 0, none⟩) := d69
        have d61 : f 61 = .bool true := d61
        refine Step2.live (show wantedBy _ (f 61) = true by rw [d61]; rfl) ?_
        obtain ⟨u0, u1, u2, u3, u4, u5, u6, u7, ufz⟩ := hC.facts
        have ev : ∀ t, evalOf f (.tmp t) = f t := fun _ => rfl
        have ec : ∀ c, evalOf f (.const c) = c := fun _ => rfl
        refine relUpon_value ?_ hC trivial rfl
        go_simp
       ·intro w L f hC hLi hLd hLn hF
        obtain ⟨d70, d61, _⟩ := hF
        have d70 : f 70 = .slice Z.A C.tk.length Z.c := d70
        have d61 : f 61 = .bool true := d61
        refine Step2.live (show wantedBy _ (f 61) = true by rw [d61]; rfl) ?_
        obtain ⟨u0, u1, u2, u3, u4, u5, u6, u7, ufz⟩ := hC.facts
        have ev : ∀ t, evalOf f (.tmp t) = f t := fun _ => rfl
        have ec : ∀ c, evalOf f (.const c) = c := fun _ => rfl
        refine relUpon_value ?_ hC trivial rfl
        go_simp
       ·intro w L f hC hLi hLd hLn hF
        obtain ⟨d66, d71, d61, _⟩ := hF
        have d66 : f 66 = .int .i64 ((s.i : Int) + 2) := d66
        have d71 : f 71 = .int .i64 ((C.tk.length : Int)) := d71
        have d61 : f 61 = .bool true := d61
        refine Step2.live (show wantedBy _ (f 61) = true by rw [d61]; rfl) ?_
        obtain ⟨u0, u1, u2, u3, u4, u5, u6, u7, ufz⟩ := hC.facts
        have ev : ∀ t, evalOf f (.tmp t) = f t := fun _ => rfl
        have ec : ∀ c, evalOf f (.const c) = c := fun _ => rfl
        refine relUpon_value ?_ hC trivial rfl
        go_simp
       ·intro w L f hC hLi hLd hLn hF
        obtain ⟨d61, d72, _⟩ := hF
        have d61 : f 61 = .bool true := d61
        have d72 : f 72 = .bool false := d72
        refine Step2.live rfl ?_
        obtain ⟨u0, u1, u2, u3, u4, u5, u6, u7, ufz⟩ := hC.facts
        have ev : ∀ t, evalOf f (.tmp t) = f t := fun _ => rfl
        have ec : ∀ c, evalOf f (.const c) = c := fun _ => rfl
        refine relUpon_value ?_ hC trivial rfl
        go_simp
       ·intro w L f hC hLi hLd hLn hF
        obtain ⟨d73, _⟩ := hF
        have d73 : f 73 = .bool false := d73
        refine Step2.live rfl ?_
        exact relUpon_value (v := f 73) rfl (hC) (trivial) d73
       ·intro w L f hC hLi hLd hLn hF
        obtain ⟨d0, d74, _⟩ := hF
        have d74 : f 74 = .bool false := d74
        refine StepL2.dead (show wantedBy _ (f 74) = false by rw [d74]; rfl) (hC) ?_ (trivial)
        exact rfl
       ·intro w L f hC hLi hLd hLn hF
        obtain ⟨d75, d74, _⟩ := hF
        have d74 : f 74 = .bool false := d74
        refine StepL2.dead (show wantedBy _ (f 74) = false by rw [d74]; rfl) (hC) ?_ (trivial)
        exact rfl
       ·intro w L f hC hLi hLd hLn hF
        obtain ⟨d76, d74, _⟩ := hF
        have d74 : f 74 = .bool false := d74
        refine StepL2.dead (show wantedBy _ (f 74) = false by rw [d74]; rfl) (hC) ?_ (trivial)
        exact rfl
       ·intro w L f hC hLi hLd hLn hF
        obtain ⟨d77, d74, _⟩ := hF
        have d74 : f 74 = .bool false := d74
        refine StepL2.dead (show wantedBy _ (f 74) = false by rw [d74]; rfl) (hC) ?_ (trivial)
        exact rfl
       ·intro w L f hC hLi hLd hLn hF
        obtain ⟨d0, d74, _⟩ := hF
        have d74 : f 74 = .bool false := d74
        refine StepL2.dead (show wantedBy _ (f 74) = false by rw [d74]; rfl) (hC) ?_ (trivial)
        exact rfl
       ·intro w L f hC hLi hLd hLn hF
        obtain ⟨d79, d74, _⟩ := hF
        have d74 : f 74 = .bool false := d74
        refine StepL2.dead (show wantedBy _ (f 74) = false by rw [d74]; rfl) (hC) ?_ (trivial)
        exact rfl
       ·intro w L f hC hLi hLd hLn hF
        obtain ⟨d80, d74, _⟩ := hF
        have d74 : f 74 = .bool false := d74
        refine StepL2.dead (show wantedBy _ (f 74) = false by rw [d74]; rfl) (hC) ?_ (trivial)
        exact rfl
       ·intro w L f hC hLi hLd hLn hF
        obtain ⟨d81, d74, _⟩ := hF
        have d74 : f 74 = .bool false := d74
        refine StepL2.dead (show wantedBy _ (f 74) = false by rw [d74]; rfl) (hC) ?_ (trivial)
        exact rfl
       ·intro w L f hC hLi hLd hLn hF
        obtain ⟨d82, d74, _⟩ := hF
        have d74 : f 74 = .bool false := d74
        refine StepL2.dead (show wantedBy _ (f 74) = false by rw [d74]; rfl) (hC) ?_ (trivial)
        exact rfl
       ·intro w L f hC hLi hLd hLn hF
        obtain ⟨d78, d83, d74, _⟩ := hF
        have d74 : f 74 = .bool false := d74
        refine StepL2.dead (show wantedBy _ (f 74) = false by rw [d74]; rfl) (hC) ?_ (trivial)
        exact rfl
       ·intro w L f hC hLi hLd hLn hF
        obtain ⟨d84, d74, _⟩ := hF
        have d74 : f 74 = .bool false := d74
        refine StepL2.dead (show wantedBy _ (f 74) = false by rw [d74]; rfl) (hC) ?_ (trivial)
        exact rfl
       ·intro w L f hC hLi hLd hLn hF
        obtain ⟨d85, d74, _⟩ := hF
        have d74 : f 74 = .bool false := d74
        refine StepL2.dead (show wantedBy _ (f 74) = false by rw [d74]; rfl) (hC) ?_ (trivial)
        exact rfl
       ·intro w L f hC hLi hLd hLn hF
        obtain ⟨d86, d74, _⟩ := hF
        have d74 : f 74 = .bool false := d74
        refine StepL2.dead (show wantedBy _ (f 74) = false by rw [d74]; rfl) (hC) ?_ (trivial)
        exact rfl
       ·intro w L f hC hLi hLd hLn hF
        obtain ⟨d74, d87, _⟩ := hF
        have d74 : f 74 = .bool false := d74
        have d87 : f 87 = undef := d87
        refine Step2.live rfl ?_
        obtain ⟨u0, u1, u2, u3, u4, u5, u6, u7, ufz⟩ := hC.facts
        have ev : ∀ t, evalOf f (.tmp t) = f t := fun _ => rfl
        have ec : ∀ c, evalOf f (.const c) = c := fun _ => rfl
        refine relUpon_value ?_ hC trivial rfl
        go_simp
       ·intro w L f hC hLi hLd hLn hF
        obtain ⟨d88, _⟩ := hF
        have d88 : f 88 = .bool false := d88
        refine Step2.live rfl ?_
        exact relUpon_value (v := f 88) rfl (hC) (trivial) d88
       ·intro w L f hC hLi hLd hLn hF
        obtain ⟨d0, d89, _⟩ := hF
        have d89 : f 89 = .bool false := d89
        refine StepL2.dead (show wantedBy _ (f 89) = false by rw [d89]; rfl) (hC) ?_ (trivial)
        exact rfl
       ·intro w L f hC hLi hLd hLn hF
        obtain ⟨d90, d89, _⟩ := hF
        have d89 : f 89 = .bool false := d89
        refine StepL2.dead (show wantedBy _ (f 89) = false by rw [d89]; rfl) (hC) ?_ (trivial)
        exact rfl
       ·intro w L f hC hLi hLd hLn hF
        obtain ⟨d91, d89, _⟩ := hF
        have d89 : f 89 = .bool false := d89
        refine StepL2.dead (show wantedBy _ (f 89) = false by rw [d89]; rfl) (hC) ?_ (trivial)
        exact rfl
       ·intro w L f hC hLi hLd hLn hF
        obtain ⟨d92, d89, _⟩ := hF
        have d89 : f 89 = .bool false := d89
        refine StepL2.dead (show wantedBy _ (f 89) = false by rw [d89]; rfl) (hC) ?_ (trivial)
        exact rfl
       ·intro w L f hC hLi hLd hLn hF
        obtain ⟨d0, d89, _⟩ := hF
        have d89 : f 89 = .bool false := d89
        refine StepL2.dead (show wantedBy _ (f 89) = false by rw [d89]; rfl) (hC) ?_ (trivial)
        exact rfl
       ·intro w L f hC hLi hLd hLn hF
        obtain ⟨d94, d89, _⟩ := hF
        have d89 : f 89 = .bool false := d89
        refine StepL2.dead (show wantedBy _ (f 89) = false by rw [d89]; rfl) (hC) ?_ (trivial)
        exact rfl
       ·intro w L f hC hLi hLd hLn hF
        obtain ⟨d95, d89, _⟩ := hF
        have d89 : f 89 = .bool false := d89
        refine StepL2.dead (show wantedBy _ (f 89) = false by rw [d89]; rfl) (hC) ?_ (trivial)
        exact rfl
       ·intro w L f hC hLi hLd hLn hF
        obtain ⟨d96, d89, _⟩ := hF
        have d89 : f 89 = .bool false := d89
        refine StepL2.dead (show wantedBy _ (f 89) = false by rw [d89]; rfl) (hC) ?_ (trivial)
        exact rfl
       ·intro w L f hC hLi hLd hLn hF
        obtain ⟨d97, d89, _⟩ := hF
        have d89 : f 89 = .bool false := d89
        refine StepL2.dead (show wantedBy _ (f 89) = false by rw [d89]; rfl) (hC) ?_ (trivial)
        exact rfl
       ·intro w L f hC hLi hLd hLn hF
        obtain ⟨d93, d98, d89, _⟩ := hF
        have d89 : f 89 = .bool false := d89
        refine StepL2.dead (show wantedBy _ (f 89) = false by rw [d89]; rfl) (hC) ?_ (trivial)
        exact rfl
       ·intro w L f hC hLi hLd hLn hF
        obtain ⟨d99, d89, _⟩ := hF
        have d89 : f 89 = .bool false := d89
        refine StepL2.dead (show wantedBy _ (f 89) = false by rw [d89]; rfl) (hC) ?_ (trivial)
        exact rfl
       ·intro w L f hC hLi hLd hLn hF
        obtain ⟨d100, d89, _⟩ := hF
        have d89 : f 89 = .bool false := d89
        refine StepL2.dead (show wantedBy _ (f 89) = false by rw [d89]; rfl) (hC) ?_ (trivial)
        exact rfl
       ·intro w L f hC hLi hLd hLn hF
        obtain ⟨d101, d89, _⟩ := hF
        have d89 : f 89 = .bool false := d89
        refine StepL2.dead (show wantedBy _ (f 89) = false by rw [d89]; rfl) (hC) ?_ (trivial)
        exact rfl
       ·intro w L f hC hLi hLd hLn hF
        obtain ⟨d102, d89, _⟩ := hF
        have d89 : f 89 = .bool false := d89
        refine StepL2.dead (show wantedBy _ (f 89) = false by rw [d89]; rfl) (hC) ?_ (trivial)
        exact rfl
       ·intro w L f hC hLi hLd hLn hF
        obtain ⟨d0, d103, _⟩ := hF
        have d0 : f 0 = .pointer (some ⟨Z.g, 0, none⟩) := d0
        have d103 : f 103 = undef := d103
        refine StepL2.dead (show wantedBy _ (f 103) = false by rw [d103]; rfl) (hC) ?_ (trivial)
        exact rfl
       ·intro w L f hC hLi hLd hLn hF
        obtain ⟨d104, d103, _⟩ := hF
        have d104 : f 104 = undef := d104
        have d103 : f 103 = undef := d103
        refine StepL2.dead (show wantedBy _ (f 103) = false by rw [d103]; rfl) (hC) ?_ (trivial)
        exact rfl
       ·intro w L f hC hLi hLd hLn hF
        obtain ⟨d105, d103, _⟩ := hF
        have d105 : f 105 = undef := d105
        have d103 : f 103 = undef := d103
        refine StepL2.dead (show wantedBy _ (f 103) = false by rw [d103]; rfl) (hC) ?_ (trivial)
        exact rfl
       ·intro w L f hC hLi hLd hLn hF
        obtain ⟨d106, d103, _⟩ := hF
        have d106 : f 106 = undef := d106
        have d103 : f 103 = undef := d103
        refine StepL2.dead (show wantedBy _ (f 103) = false by rw [d103]; rfl) (hC) ?_ (trivial)
        exact rfl
       ·intro w L f hC hLi hLd hLn hF
        obtain ⟨d0, d103, _⟩ := hF
        have d0 : f 0 = .pointer (some ⟨Z.g, 0, none⟩) := d0
        have d103 : f 103 = undef := d103
        refine StepL2.dead (show wantedBy _ (f 103) = false by rw [d103]; rfl) (hC) ?_ (trivial)
        exact rfl
       ·intro w L f hC hLi hLd hLn hF
        obtain ⟨d108, d103, _⟩ := hF
        have d108 : f 108 = undef := d108
        have d103 : f 103 = undef := d103
        refine StepL2.dead (show wantedBy _ (f 103) = false by rw [d103]; rfl) (hC) ?_ (trivial)
        exact rfl
       ·intro w L f hC hLi hLd hLn hF
        obtain ⟨d109, d103, _⟩ := hF
        have d109 : f 109 = undef := d109
        have d103 : f 103 = undef := d103
        refine StepL2.dead (show wantedBy _ (f 103) = false by rw [d103]; rfl) (hC) ?_ (trivial)
        exact rfl
       ·intro w L f hC hLi hLd hLn hF
        obtain ⟨d110, d103, _⟩ := hF
        have d110 : f 110 = undef := d110
        have d103 : f 103 = undef := d103
        refine StepL2.dead (show wantedBy _ (f 103) = false by rw [d103]; rfl) (hC) ?_ (trivial)
        exact rfl
       ·intro w L f hC hLi hLd hLn hF
        obtain ⟨d111, d103, _⟩ := hF
        have d111 : f 111 = undef := d111
        have d103 : f 103 = undef := d103
        refine StepL2.dead (show wantedBy _ (f 103) = false by rw [d103]; rfl) (hC) ?_ (trivial)
        exact rfl
       ·intro w L f hC hLi hLd hLn hF
        obtain ⟨d107, d112, d103, _⟩ := hF
        have d107 : f 107 = undef := d107
        have d112 : f 112 = undef := d112
        have d103 : f 103 = undef := d103
        refine StepL2.dead (show wantedBy _ (f 103) = false by rw [d103]; rfl) (hC) ?_ (trivial)
        exact rfl
       ·intro w L f hC hLi hLd hLn hF
        obtain ⟨d113, d103, _⟩ := hF
        have d113 : f 113 = undef := d113
        have d103 : f 103 = undef := d103
        refine StepL2.dead (show wantedBy _ (f 103) = false by rw [d103]; rfl) (hC) ?_ (trivial)
        exact rfl
       ·intro w L f hC hLi hLd hLn hF
        obtain ⟨d114, d103, _⟩ := hF
        have d114 : f 114 = undef := d114
        have d103 : f 103 = undef := d103
        refine StepL2.dead (show wantedBy _ (f 103) = false by rw [d103]; rfl) (hC) ?_ (trivial)
        exact rfl
       ·intro w L f hC hLi hLd hLn hF
        obtain ⟨d115, d103, _⟩ := hF
        have d115 : f 115 = undef := d115
        have d103 : f 103 = undef := d103
        refine StepL2.dead (show wantedBy _ (f 103) = false by rw [d103]; rfl) (hC) ?_ (trivial)
        exact rfl
       ·intro w L f hC hLi hLd hLn hF
        obtain ⟨d103, d116, d89, _⟩ := hF
        have d89 : f 89 = .bool false := d89
        refine StepL2.dead (show wantedBy _ (f 89) = false by rw [d89]; rfl) (hC) ?_ (trivial)
        exact rfl
       ·intro w L f hC hLi hLd hLn hF
        obtain ⟨d89, d117, _⟩ := hF
        have d89 : f 89 = .bool false := d89
        have d117 : f 117 = undef := d117
        refine Step2.live rfl ?_
        obtain ⟨u0, u1, u2, u3, u4, u5, u6, u7, ufz⟩ := hC.facts
        have ev : ∀ t, evalOf f (.tmp t) = f t := fun _ => rfl
        have ec : ∀ c, evalOf f (.const c) = c := fun _ => rfl
        refine relUpon_value ?_ hC trivial rfl
        go_simp
      intro x w' hC hV

      have e0 : x 59 = .bool nf := (hV 59 _ rfl rfl).trans (by rw [hN2.out])
      clear hV
      simp only [framed]
      rw [e0]
      have hC := Lib.hid hC
      go_wp2_with fail
      go_meet
      case rel => exact ⟨rfl, hC⟩
     case pos =>
      obtain ⟨x2, hx2⟩ : ∃ x, C.tk[s.i + 2]? = some x := ⟨_, List.getElem?_eq_getElem hi2⟩
      obtain ⟨x1, hx1⟩ : ∃ x, C.tk[s.i + 1]? = some x := ⟨_, List.getElem?_eq_getElem (by omega)⟩
      obtain ⟨b, off, hA, hbg, _⟩ := hTok.out.tok (k := s.i) (by omega)
      have hT2 : txtAt C (s.i + 2) = x2.t := by unfold txtAt; rw [hx2]
      have hT1 : txtAt C (s.i + 1) = x1.t := by unfold txtAt; rw [hx1]
      have hN : nf = ((x2.t == [110, 117, 108, 108]) && ((x1.t == [61, 61]) || (x1.t == [33, 61]))) := by
       rw [hNull.out, hn, hT1, hT2, decide_eq_true hi2]; rfl
      have hi2' : ((s.i : Int) + 2 < (C.tk.length : Int)) := by omega
      have p5 : (s.i : Int) + 1 < (C.tk.length : Int) := by omega
      clear hT1 hT2
      replace hn := Lib.hid hn
      replace hx2 := Lib.hid hx2
      replace hx1 := Lib.hid hx1
      by_cases q2 : x2.t = [110, 117, 108, 108]
      case neg =>
       have k2 : ((strV x2.t).toList == [110, 117, 108, 108]) = false := by rw [strV_toList]; simpa using q2
       have hN2 : Hid (nf = false) := Lib.hid (by rw [hN, show (x2.t == [110, 117, 108, 108]) = false by simpa using q2]; rfl)
       clear hN q2
       refine wp_region_tabL ((fun _ _ v => v = .pointer (some ⟨Z.g, 0, none⟩)) ::
        (fun _ _ v => v = .bool true) ::
        (fun _ _ v => v = .bool true) ::
        (fun _ _ v => v = .pointer (some ⟨Z.g, 0, none⟩)) ::
        (fun _ _ v => v = .pointer (some ⟨Z.g, 0, none⟩)) ::
        (fun _ _ v => v = .pointer (some ⟨Z.g, 1, none⟩)) ::
        (fun _ _ v => v = .int .i64 ((s.i : Int))) ::
        (fun _ _ v => v = .int .i64 ((s.i : Int) + 2)) ::
        (fun _ _ v => v = .pointer (some ⟨Z.g, 0, none⟩)) ::
        (fun _ _ v => v = .pointer (some ⟨Z.g, 0, none⟩)) ::
        (fun _ _ v => v = .pointer (some ⟨Z.g, 0, none⟩)) ::
        (fun _ _ v => v = .slice (some ⟨b, off, none⟩) C.tk.length Z.c) ::
        (fun _ _ v => v = .int .i64 ((C.tk.length : Int))) ::
        (fun _ _ v => v = .bool true) ::
        (fun _ _ v => v = .bool true) ::
        (fun _ _ v => v = .bool true) ::
        (fun _ _ v => v = .pointer (some ⟨Z.g, 0, none⟩)) ::
        (fun _ _ v => v = .pointer (some ⟨Z.g, 0, none⟩)) ::
        (fun _ _ v => v = .pointer (some ⟨Z.g, 0, none⟩)) ::
        (fun _ _ v => v = .slice (some ⟨b, off, none⟩) C.tk.length Z.c) ::
        (fun _ _ v => v = .pointer (some ⟨Z.g, 0, none⟩)) ::
        (fun _ _ v => v = .pointer (some ⟨Z.g, 0, none⟩)) ::
        (fun _ _ v => v = .pointer (some ⟨Z.g, 1, none⟩)) ::
        (fun _ _ v => v = .int .i64 ((s.i : Int))) ::
        (fun _ _ v => v = .int .i64 ((s.i : Int) + 2)) ::
        (fun _ _ v => v = .pointer (some ⟨b, off + (s.i + 2) * 3, none⟩)) ::
        (fun _ _ v => v = .pointer (some ⟨b, off + (s.i + 2) * 3 + 1, none⟩)) ::
        (fun _ _ v => v = .string (strV x2.t)) ::
        (fun _ _ v => v = .bool false) ::
        (fun _ _ v => v = .bool false) ::
        (fun _ _ v => v = .bool false) ::
        (fun _ _ v => v = undef) ::
        (fun _ _ v => v = undef) ::
        (fun _ _ v => v = undef) ::
        (fun _ _ v => v = undef) ::
        (fun _ _ v => v = undef) ::
        (fun _ _ v => v = undef) ::
        (fun _ _ v => v = undef) ::
        (fun _ _ v => v = undef) ::
        (fun _ _ v => v = undef) ::
        (fun _ _ v => v = undef) ::
        (fun _ _ v => v = undef) ::
        (fun _ _ v => v = undef) ::
        (fun _ _ v => v = undef) ::
        (fun _ _ v => v = undef) ::
        (fun _ _ v => v = undef) ::
        (fun _ _ v => v = undef) ::
        (fun _ _ v => v = undef) ::
        (fun _ _ v => v = undef) ::
        (fun _ _ v => v = undef) ::
        (fun _ _ v => v = undef) ::
        (fun _ _ v => v = undef) ::
        (fun _ _ v => v = undef) ::
        (fun _ _ v => v = undef) ::
        (fun _ _ v => v = undef) ::
        (fun _ _ v => v = undef) ::
        (fun _ _ v => v = undef) ::
        (fun _ _ v => v = undef) ::
        (fun _ _ v => v = undef) ::
        (fun _ _ v => v = .bool false) :: [])
        (⟨[(0, none)], 0, []⟩ :: ⟨[(59, some 0)], 0, []⟩ :: ⟨[(60, some 1)], 0, []⟩ :: ⟨[(0, none), (61, some 2)], 61, []⟩ :: ⟨[(62, some 3), (61, some 2)], 61, []⟩ :: ⟨[(63, some 4), (61, some 2)], 61, []⟩ :: ⟨[(64, some 5), (61, some 2)], 61, []⟩ :: ⟨[(65, some 6), (61, some 2)], 61, []⟩ :: ⟨[(0, none), (61, some 2)], 61, []⟩ :: ⟨[(67, some 8), (61, some 2)], 61, []⟩ :: ⟨[(68, some 9), (61, some 2)], 61, []⟩ :: ⟨[(69, some 10), (61, some 2)], 61, []⟩ :: ⟨[(70, some 11), (61, some 2)], 61, []⟩ :: ⟨[(66, some 7), (71, some 12), (61, some 2)], 61, []⟩ :: ⟨[(61, some 2), (72, some 13)], 0, []⟩ :: ⟨[(73, some 14)], 0, []⟩ :: ⟨[(0, none), (74, some 15)], 74, []⟩ :: ⟨[(75, some 16), (74, some 15)], 74, []⟩ :: ⟨[(76, some 17), (74, some 15)], 74, []⟩ :: ⟨[(77, some 18), (74, some 15)], 74, []⟩ :: ⟨[(0, none), (74, some 15)], 74, []⟩ :: ⟨[(79, some 20), (74, some 15)], 74, []⟩ :: ⟨[(80, some 21), (74, some 15)], 74, []⟩ :: ⟨[(81, some 22), (74, some 15)], 74, []⟩ :: ⟨[(82, some 23), (74, some 15)], 74, []⟩ :: ⟨[(78, some 19), (83, some 24), (74, some 15)], 74, []⟩ :: ⟨[(84, some 25), (74, some 15)], 74, []⟩ :: ⟨[(85, some 26), (74, some 15)], 74, []⟩ :: ⟨[(86, some 27), (74, some 15)], 74, []⟩ :: ⟨[(74, some 15), (87, some 28)], 0, []⟩ :: ⟨[(88, some 29)], 0, []⟩ :: ⟨[(0, none), (89, some 30)], 89, []⟩ :: ⟨[(90, some 31), (89, some 30)], 89, []⟩ :: ⟨[(91, some 32), (89, some 30)], 89, []⟩ :: ⟨[(92, some 33), (89, some 30)], 89, []⟩ :: ⟨[(0, none), (89, some 30)], 89, []⟩ :: ⟨[(94, some 35), (89, some 30)], 89, []⟩ :: ⟨[(95, some 36), (89, some 30)], 89, []⟩ :: ⟨[(96, some 37), (89, some 30)], 89, []⟩ :: ⟨[(97, some 38), (89, some 30)], 89, []⟩ :: ⟨[(93, some 34), (98, some 39), (89, some 30)], 89, []⟩ :: ⟨[(99, some 40), (89, some 30)], 89, []⟩ :: ⟨[(100, some 41), (89, some 30)], 89, []⟩ :: ⟨[(101, some 42), (89, some 30)], 89, []⟩ :: ⟨[(102, some 43), (89, some 30)], 89, []⟩ :: ⟨[(0, none), (103, some 44)], 103, []⟩ :: ⟨[(104, some 45), (103, some 44)], 103, []⟩ :: ⟨[(105, some 46), (103, some 44)], 103, []⟩ :: ⟨[(106, some 47), (103, some 44)], 103, []⟩ :: ⟨[(0, none), (103, some 44)], 103, []⟩ :: ⟨[(108, some 49), (103, some 44)], 103, []⟩ :: ⟨[(109, some 50), (103, some 44)], 103, []⟩ :: ⟨[(110, some 51), (103, some 44)], 103, []⟩ :: ⟨[(111, some 52), (103, some 44)], 103, []⟩ :: ⟨[(107, some 48), (112, some 53), (103, some 44)], 103, []⟩ :: ⟨[(113, some 54), (103, some 44)], 103, []⟩ :: ⟨[(114, some 55), (103, some 44)], 103, []⟩ :: ⟨[(115, some 56), (103, some 44)], 103, []⟩ :: ⟨[(103, some 44), (116, some 57), (89, some 30)], 89, []⟩ :: ⟨[(89, some 30), (117, some 58)], 0, []⟩ :: [])
        (none :: none :: none :: none :: none :: none :: none :: none :: none :: none :: none :: none :: none :: none :: none :: none :: none :: none :: none :: none :: none :: none :: none :: none :: none :: none :: none :: none :: none :: none :: none :: none :: none :: none :: none :: none :: none :: none :: none :: none :: none :: none :: none :: none :: none :: none :: none :: none :: none :: none :: none :: none :: none :: none :: none :: none :: none :: none :: none :: some 0 :: some 1 :: some 2 :: some 3 :: some 4 :: some 5 :: some 6 :: some 7 :: some 8 :: some 9 :: some 10 :: some 11 :: some 12 :: some 13 :: some 14 :: some 15 :: some 16 :: some 17 :: some 18 :: some 19 :: some 20 :: some 21 :: some 22 :: some 23 :: some 24 :: some 25 :: some 26 :: some 27 :: some 28 :: some 29 :: some 30 :: some 31 :: some 32 :: some 33 :: some 34 :: some 35 :: some 36 :: some 37 :: some 38 :: some 39 :: some 40 :: some 41 :: some 42 :: some 43 :: some 44 :: some 45 :: some 46 :: some 47 :: some 48 :: some 49 :: some 50 :: some 51 :: some 52 :: some 53 :: some 54 :: some 55 :: some 56 :: some 57 :: some 58 :: some 59 :: [])
        (fun _ w' => Moved C Z s w w') (fun _ _ _ => True) ?mixK16ttf ?okK16ttf ?tabK16ttf ?frK16ttf ?inK16ttf ?keptK16ttf ?startK16ttf ?eachK16ttf ?finK16ttf
       case mixK16ttf => kernel_rfl
       case okK16ttf => kernel_rfl
       case tabK16ttf => kernel_rfl
       case frK16ttf => kernel_rfl
       case inK16ttf => rfl
       case keptK16ttf => exact ⟨fun _ _ _ _ _ _ _ _ _ _ _ h => h, fun _ _ _ _ _ _ _ _ _ _ _ h => h, fun _ _ _ _ _ _ _ _ _ _ _ h => h, fun _ _ _ _ _ _ _ _ _ _ _ h => h, fun _ _ _ _ _ _ _ _ _ _ _ h => h, fun _ _ _ _ _ _ _ _ _ _ _ h => h, fun _ _ _ _ _ _ _ _ _ _ _ h => h, fun _ _ _ _ _ _ _ _ _ _ _ h => h, fun _ _ _ _ _ _ _ _ _ _ _ h => h, fun _ _ _ _ _ _ _ _ _ _ _ h => h, fun _ _ _ _ _ _ _ _ _ _ _ h => h, fun _ _ _ _ _ _ _ _ _ _ _ h => h, fun _ _ _ _ _ _ _ _ _ _ _ h => h, fun _ _ _ _ _ _ _ _ _ _ _ h => h, fun _ _ _ _ _ _ _ _ _ _ _ h => h, fun _ _ _ _ _ _ _ _ _ _ _ h => h, fun _ _ _ _ _ _ _ _ _ _ _ h => h, fun _ _ _ _ _ _ _ _ _ _ _ h => h, fun _ _ _ _ _ _ _ _ _ _ _ h => h, fun _ _ _ _ _ _ _ _ _ _ _ h => h, fun _ _ _ _ _ _ _ _ _ _ _ h => h, fun _ _ _ _ _ _ _ _ _ _ _ h => h, fun _ _ _ _ _ _ _ _ _ _ _ h => h, fun _ _ _ _ _ _ _ _ _ _ _ h => h, fun _ _ _ _ _ _ _ _ _ _ _ h => h, fun _ _ _ _ _ _ _ _ _ _ _ h => h, fun _ _ _ _ _ _ _ _ _ _ _ h => h, fun _ _ _ _ _ _ _ _ _ _ _ h => h, fun _ _ _ _ _ _ _ _ _ _ _ h => h, fun _ _ _ _ _ _ _ _ _ _ _ h => h, fun _ _ _ _ _ _ _ _ _ _ _ h => h, fun _ _ _ _ _ _ _ _ _ _ _ h => h, fun _ _ _ _ _ _ _ _ _ _ _ h => h, fun _ _ _ _ _ _ _ _ _ _ _ h => h, fun _ _ _ _ _ _ _ _ _ _ _ h => h, fun _ _ _ _ _ _ _ _ _ _ _ h => h, fun _ _ _ _ _ _ _ _ _ _ _ h => h, fun _ _ _ _ _ _ _ _ _ _ _ h => h, fun _ _ _ _ _ _ _ _ _ _ _ h => h, fun _ _ _ _ _ _ _ _ _ _ _ h => h, fun _ _ _ _ _ _ _ _ _ _ _ h => h, fun _ _ _ _ _ _ _ _ _ _ _ h => h, fun _ _ _ _ _ _ _ _ _ _ _ h => h, fun _ _ _ _ _ _ _ _ _ _ _ h => h, fun _ _ _ _ _ _ _ _ _ _ _ h => h, fun _ _ _ _ _ _ _ _ _ _ _ h => h, fun _ _ _ _ _ _ _ _ _ _ _ h => h, fun _ _ _ _ _ _ _ _ _ _ _ h => h, fun _ _ _ _ _ _ _ _ _ _ _ h => h, fun _ _ _ _ _ _ _ _ _ _ _ h => h, fun _ _ _ _ _ _ _ _ _ _ _ h => h, fun _ _ _ _ _ _ _ _ _ _ _ h => h, fun _ _ _ _ _ _ _ _ _ _ _ h => h, fun _ _ _ _ _ _ _ _ _ _ _ h => h, fun _ _ _ _ _ _ _ _ _ _ _ h => h, fun _ _ _ _ _ _ _ _ _ _ _ h => h, fun _ _ _ _ _ _ _ _ _ _ _ h => h, fun _ _ _ _ _ _ _ _ _ _ _ h => h, fun _ _ _ _ _ _ _ _ _ _ _ h => h, fun _ _ _ _ _ _ _ _ _ _ _ h => h, trivial⟩
       case startK16ttf => exact hgo.out.below (Below.refl _ _).drew
       case eachK16ttf =>
        refine ⟨?_, ?_, ?_, ?_, ?_, ?_, ?_, ?_, ?_, ?_, ?_, ?_, ?_, ?_, ?_, ?_, ?_, ?_, ?_, ?_, ?_, ?_, ?_, ?_, ?_, ?_, ?_, ?_, ?_, ?_, ?_, ?_, ?_, ?_, ?_, ?_, ?_, ?_, ?_, ?_, ?_, ?_, ?_, ?_, ?_, ?_, ?_, ?_, ?_, ?_, ?_, ?_, ?_, ?_, ?_, ?_, ?_, ?_, ?_, ?_, trivial⟩
        ·intro w L f hC hLi hLd hLn hF
         obtain ⟨d0, _⟩ := hF
         have d0 : f 0 = .pointer (some ⟨Z.g, 0, none⟩) := d0
         refine Step2.live rfl ?_
         exact relUpon_value (v := f 0) rfl (hC) (trivial) d0
        ·intro w L f hC hLi hLd hLn hF
         obtain ⟨d59, _⟩ := hF
         have d59 : f 59 = .pointer (some ⟨Z.g, 0, none⟩) := d59
         refine Step2.live rfl ?_
         have ev : ∀ t, evalOf f (.tmp t) = f t := fun _ => rfl
         have ec : ∀ c, evalOf f (.const c) = c := fun _ => rfl
         have ef : ∀ g, evalOf f (.func g) = .func (.func g) #[] #[] := fun _ => rfl
         refine relUpon_call (f := 41) (args := #[.pointer (some ⟨Z.g, 0, none⟩)]) (w := w) (by go_simp) (named_from hC hn.out) ?_
         rintro e w1 ⟨he, h1, -⟩
         exact ⟨_, he, h1, trivial, rfl⟩
        ·intro w L f hC hLi hLd hLn hF
         obtain ⟨d60, _⟩ := hF
         have d60 : f 60 = .bool true := d60
         refine Step2.live rfl ?_
         exact relUpon_value (v := f 60) rfl (hC) (trivial) d60
        ·intro w L f hC hLi hLd hLn hF
         obtain ⟨d0, d61, _⟩ := hF
         have d0 : f 0 = .pointer (some ⟨Z.g, 0, none⟩) := d0
         have d61 : f 61 = .bool true := d61
         refine Step2.live (show wantedBy _ (f 61) = true by rw [d61]; rfl) ?_
         exact relUpon_value (v := f 0) rfl (hC) (trivial) d0
        ·intro w L f hC hLi hLd hLn hF
         obtain ⟨d62, d61, _⟩ := hF
         have d62 : f 62 = .pointer (some ⟨Z.g, 0, none⟩) := d62
         have d61 : f 61 = .bool true := d61
         refine Step2.live (show wantedBy _ (f 61) = true by rw [d61]; rfl) ?_
         obtain ⟨u0, u1, u2, u3, u4, u5, u6, u7, ufz⟩ := hC.facts
         have ev : ∀ t, evalOf f (.tmp t) = f t := fun _ => rfl
         have ec : ∀ c, evalOf f (.const c) = c := fun _ => rfl
         refine relUpon_value ?_ hC trivial rfl
         go_simp
        ·intro w L f hC hLi hLd hLn hF
         obtain ⟨d63, d61, _⟩ := hF
         have d63 : f 63 = .pointer (some ⟨Z.g, 0, none⟩) := d63
         have d61 : f 61 = .bool true := d61
         refine Step2.live (show wantedBy _ (f 61) = true by rw [d61]; rfl) ?_
         obtain ⟨u0, u1, u2, u3, u4, u5, u6, u7, ufz⟩ := hC.facts
         have ev : ∀ t, evalOf f (.tmp t) = f t := fun _ => rfl
         have ec : ∀ c, evalOf f (.const c) = c := fun _ => rfl
         refine relUpon_value ?_ hC trivial rfl
         go_simp
        ·intro w L f hC hLi hLd hLn hF
         obtain ⟨d64, d61, _⟩ := hF
         have d64 : f 64 = .pointer (some ⟨Z.g, 1, none⟩) := d64
         have d61 : f 61 = .bool true := d61
         refine Step2.live (show wantedBy _ (f 61) = true by rw [d61]; rfl) ?_
         obtain ⟨u0, u1, u2, u3, u4, u5, u6, u7, ufz⟩ := hC.facts
         have ev : ∀ t, evalOf f (.tmp t) = f t := fun _ => rfl
         have ec : ∀ c, evalOf f (.const c) = c := fun _ => rfl
         refine relUpon_value ?_ hC trivial rfl
         go_simp
        ·intro w L f hC hLi hLd hLn hF
         obtain ⟨d65, d61, _⟩ := hF
         have d65 : f 65 = .int .i64 ((s.i : Int)) := d65
         have d61 : f 61 = .bool true := d61
         refine Step2.live (show wantedBy _ (f 61) = true by rw [d61]; rfl) ?_
         obtain ⟨u0, u1, u2, u3, u4, u5, u6, u7, ufz⟩ := hC.facts
         have ev : ∀ t, evalOf f (.tmp t) = f t := fun _ => rfl
         have ec : ∀ c, evalOf f (.const c) = c := fun _ => rfl
         refine relUpon_value ?_ hC trivial rfl
         go_simp
        ·intro w L f hC hLi hLd hLn hF
         obtain ⟨d0, d61, _⟩ := hF
         have d0 : f 0 = .pointer (some ⟨Z.g, 0, none⟩) := d0
         have d61 : f 61 = .bool true := d61
         refine Step2.live (show wantedBy _ (f 61) = true by rw [d61]; rfl) ?_
         exact relUpon_value (v := f 0) rfl (hC) (trivial) d0
        ·intro w L f hC hLi hLd hLn hF
         obtain ⟨d67, d61, _⟩ := hF
         have d67 : f 67 = .pointer (some ⟨Z.g, 0, none⟩) := d67
         have d61 : f 61 = .bool true := d61
         refine Step2.live (show wantedBy _ (f 61) = true by rw [d61]; rfl) ?_
         obtain ⟨u0, u1, u2, u3, u4, u5, u6, u7, ufz⟩ := hC.facts
         have ev : ∀ t, evalOf f (.tmp t) = f t := fun _ => rfl
         have ec : ∀ c, evalOf f (.const c) = c := fun _ => rfl
         refine relUpon_value ?_ hC trivial rfl
         go_simp
        ·intro w L f hC hLi hLd hLn hF
         obtain ⟨d68, d61, _⟩ := hF
         have d68 : f 68 = .pointer (some ⟨Z.g, 0, none⟩) := d68
         have d61 : f 61 = .bool true := d61
         refine Step2.live (show wantedBy _ (f 61) = true by rw [d61]; rfl) ?_
         obtain ⟨u0, u1, u2, u3, u4, u5, u6, u7, ufz⟩ := hC.facts
         have ev : ∀ t, evalOf f (.tmp t) = f t := fun _ => rfl
         have ec : ∀ c, evalOf f (.const c) = c := fun _ => rfl
         refine relUpon_value ?_ hC trivial rfl
         go_simp
        ·intro w L f hC hLi hLd hLn hF
         obtain ⟨d69, d61, _⟩ := hF
         have d69 : f 69 = .pointer (some ⟨Z.g, 0, none⟩) := d69
         have d61 : f 61 = .bool true := d61
         refine Step2.live (show wantedBy _ (f 61) = true by rw [d61]; rfl) ?_
         obtain ⟨u0, u1, u2, u3, u4, u5, u6, u7, ufz⟩ := hC.facts
         have ev : ∀ t, evalOf f (.tmp t) = f t := fun _ => rfl
         have ec : ∀ c, evalOf f (.const c) = c := fun _ => rfl
         refine relUpon_value ?_ hC trivial rfl
         go_simp
        ·intro w L f hC hLi hLd hLn hF
         obtain ⟨d70, d61, _⟩ := hF
         have d70 : f 70 = .slice (some ⟨b, off, none⟩) C.tk.length Z.c := d70
         have d61 : f 61 = .bool true := d61
         refine Step2.live (show wantedBy _ (f 61) = true by rw [d61]; rfl) ?_
         obtain ⟨u0, u1, u2, u3, u4, u5, u6, u7, ufz⟩ := hC.facts
         have ev : ∀ t, evalOf f (.tmp t) = f t := fun _ => rfl
         have ec : ∀ c, evalOf f (.const c) = c := fun _ => rfl
         refine relUpon_value ?_ hC trivial rfl
         go_simp
        ·intro w L f hC hLi hLd hLn hF
         obtain ⟨d66, d71, d61, _⟩ := hF
         have d66 : f 66 = .int .i64 ((s.i : Int) + 2) := d66
         have d71 : f 71 = .int .i64 ((C.tk.length : Int)) := d71
         have d61 : f 61 = .bool true := d61
         refine Step2.live (show wantedBy _ (f 61) = true by rw [d61]; rfl) ?_
         obtain ⟨u0, u1, u2, u3, u4, u5, u6, u7, ufz⟩ := hC.facts
         have ev : ∀ t, evalOf f (.tmp t) = f t := fun _ => rfl
         have ec : ∀ c, evalOf f (.const c) = c := fun _ => rfl
         refine relUpon_value ?_ hC trivial rfl
         go_simp
        ·intro w L f hC hLi hLd hLn hF
         obtain ⟨d61, d72, _⟩ := hF
         have d61 : f 61 = .bool true := d61
         have d72 : f 72 = .bool true := d72
         refine Step2.live rfl ?_
         obtain ⟨u0, u1, u2, u3, u4, u5, u6, u7, ufz⟩ := hC.facts
         have ev : ∀ t, evalOf f (.tmp t) = f t := fun _ => rfl
         have ec : ∀ c, evalOf f (.const c) = c := fun _ => rfl
         refine relUpon_value ?_ hC trivial rfl
         go_simp
        ·intro w L f hC hLi hLd hLn hF
         obtain ⟨d73, _⟩ := hF
         have d73 : f 73 = .bool true := d73
         refine Step2.live rfl ?_
         exact relUpon_value (v := f 73) rfl (hC) (trivial) d73
        ·intro w L f hC hLi hLd hLn hF
         obtain ⟨d0, d74, _⟩ := hF
         have d0 : f 0 = .pointer (some ⟨Z.g, 0, none⟩) := d0
         have d74 : f 74 = .bool true := d74
         refine Step2.live (show wantedBy _ (f 74) = true by rw [d74]; rfl) ?_
         exact relUpon_value (v := f 0) rfl (hC) (trivial) d0
        ·intro w L f hC hLi hLd hLn hF
         obtain ⟨d75, d74, _⟩ := hF
         have d75 : f 75 = .pointer (some ⟨Z.g, 0, none⟩) := d75
         have d74 : f 74 = .bool true := d74
         refine Step2.live (show wantedBy _ (f 74) = true by rw [d74]; rfl) ?_
         obtain ⟨u0, u1, u2, u3, u4, u5, u6, u7, ufz⟩ := hC.facts
         have ev : ∀ t, evalOf f (.tmp t) = f t := fun _ => rfl
         have ec : ∀ c, evalOf f (.const c) = c := fun _ => rfl
         refine relUpon_value ?_ hC trivial rfl
         go_simp
        ·intro w L f hC hLi hLd hLn hF
         obtain ⟨d76, d74, _⟩ := hF
         have d76 : f 76 = .pointer (some ⟨Z.g, 0, none⟩) := d76
         have d74 : f 74 = .bool true := d74
         refine Step2.live (show wantedBy _ (f 74) = true by rw [d74]; rfl) ?_
         obtain ⟨u0, u1, u2, u3, u4, u5, u6, u7, ufz⟩ := hC.facts
         have ev : ∀ t, evalOf f (.tmp t) = f t := fun _ => rfl
         have ec : ∀ c, evalOf f (.const c) = c := fun _ => rfl
         refine relUpon_value ?_ hC trivial rfl
         go_simp
        ·intro w L f hC hLi hLd hLn hF
         obtain ⟨d77, d74, _⟩ := hF
         have d77 : f 77 = .pointer (some ⟨Z.g, 0, none⟩) := d77
         have d74 : f 74 = .bool true := d74
         refine Step2.live (show wantedBy _ (f 74) = true by rw [d74]; rfl) ?_
         obtain ⟨u0, u1, u2, u3, u4, u5, u6, u7, ufz⟩ := hC.facts
         have ev : ∀ t, evalOf f (.tmp t) = f t := fun _ => rfl
         have ec : ∀ c, evalOf f (.const c) = c := fun _ => rfl
         refine relUpon_value ?_ hC trivial rfl
         go_simp
        ·intro w L f hC hLi hLd hLn hF
         obtain ⟨d0, d74, _⟩ := hF
         have d0 : f 0 = .pointer (some ⟨Z.g, 0, none⟩) := d0
         have d74 : f 74 = .bool true := d74
         refine Step2.live (show wantedBy _ (f 74) = true by rw [d74]; rfl) ?_
         exact relUpon_value (v := f 0) rfl (hC) (trivial) d0
        ·intro w L f hC hLi hLd hLn hF
         obtain ⟨d79, d74, _⟩ := hF
         have d79 : f 79 = .pointer (some ⟨Z.g, 0, none⟩) := d79
         have d74 : f 74 = .bool true := d74
         refine Step2.live (show wantedBy _ (f 74) = true by rw [d74]; rfl) ?_
         obtain ⟨u0, u1, u2, u3, u4, u5, u6, u7, ufz⟩ := hC.facts
         have ev : ∀ t, evalOf f (.tmp t) = f t := fun _ => rfl
         have ec : ∀ c, evalOf f (.const c) = c := fun _ => rfl
         refine relUpon_value ?_ hC trivial rfl
         go_simp
        ·intro w L f hC hLi hLd hLn hF
         obtain ⟨d80, d74, _⟩ := hF
         have d80 : f 80 = .pointer (some ⟨Z.g, 0, none⟩) := d80
         have d74 : f 74 = .bool true := d74
         refine Step2.live (show wantedBy _ (f 74) = true by rw [d74]; rfl) ?_
         obtain ⟨u0, u1, u2, u3, u4, u5, u6, u7, ufz⟩ := hC.facts
         have ev : ∀ t, evalOf f (.tmp t) = f t := fun _ => rfl
         have ec : ∀ c, evalOf f (.const c) = c := fun _ => rfl
         refine relUpon_value ?_ hC trivial rfl
         go_simp
        ·intro w L f hC hLi hLd hLn hF
         obtain ⟨d81, d74, _⟩ := hF
         have d81 : f 81 = .pointer (some ⟨Z.g, 1, none⟩) := d81
         have d74 : f 74 = .bool true := d74
         refine Step2.live (show wantedBy _ (f 74) = true by rw [d74]; rfl) ?_
         obtain ⟨u0, u1, u2, u3, u4, u5, u6, u7, ufz⟩ := hC.facts
         have ev : ∀ t, evalOf f (.tmp t) = f t := fun _ => rfl
         have ec : ∀ c, evalOf f (.const c) = c := fun _ => rfl
         refine relUpon_value ?_ hC trivial rfl
         go_simp
        ·intro w L f hC hLi hLd hLn hF
         obtain ⟨d82, d74, _⟩ := hF
         have d82 : f 82 = .int .i64 ((s.i : Int)) := d82
         have d74 : f 74 = .bool true := d74
         refine Step2.live (show wantedBy _ (f 74) = true by rw [d74]; rfl) ?_
         obtain ⟨u0, u1, u2, u3, u4, u5, u6, u7, ufz⟩ := hC.facts
         have ev : ∀ t, evalOf f (.tmp t) = f t := fun _ => rfl
         have ec : ∀ c, evalOf f (.const c) = c := fun _ => rfl
         refine relUpon_value ?_ hC trivial rfl
         go_simp
        ·intro w L f hC hLi hLd hLn hF
         obtain ⟨d78, d83, d74, _⟩ := hF
         have d78 : f 78 = .slice (some ⟨b, off, none⟩) C.tk.length Z.c := d78
         have d83 : f 83 = .int .i64 ((s.i : Int) + 2) := d83
         have d74 : f 74 = .bool true := d74
         refine Step2.live (show wantedBy _ (f 74) = true by rw [d74]; rfl) ?_
         obtain ⟨u0, u1, u2, u3, u4, u5, u6, u7, ufz⟩ := hC.facts
         have ev : ∀ t, evalOf f (.tmp t) = f t := fun _ => rfl
         have ec : ∀ c, evalOf f (.const c) = c := fun _ => rfl
         refine relUpon_value ?_ hC trivial rfl
         go_simp
        ·intro w L f hC hLi hLd hLn hF
         obtain ⟨d84, d74, _⟩ := hF
         have d84 : f 84 = .pointer (some ⟨b, off + (s.i + 2) * 3, none⟩) := d84
         have d74 : f 74 = .bool true := d74
         refine Step2.live (show wantedBy _ (f 74) = true by rw [d74]; rfl) ?_
         obtain ⟨u0, u1, u2, u3, u4, u5, u6, u7, ufz⟩ := hC.facts
         have ev : ∀ t, evalOf f (.tmp t) = f t := fun _ => rfl
         have ec : ∀ c, evalOf f (.const c) = c := fun _ => rfl
         refine relUpon_value ?_ hC trivial rfl
         go_simp
        ·intro w L f hC hLi hLd hLn hF
         obtain ⟨d85, d74, _⟩ := hF
         have d85 : f 85 = .pointer (some ⟨b, off + (s.i + 2) * 3 + 1, none⟩) := d85
         have d74 : f 74 = .bool true := d74
         refine Step2.live (show wantedBy _ (f 74) = true by rw [d74]; rfl) ?_
         obtain ⟨u0, u1, u2⟩ := hC.tok hx2.out hA
         have ev : ∀ t, evalOf f (.tmp t) = f t := fun _ => rfl
         have ec : ∀ c, evalOf f (.const c) = c := fun _ => rfl
         refine relUpon_value ?_ hC trivial rfl
         go_simp
        ·intro w L f hC hLi hLd hLn hF
         obtain ⟨d86, d74, _⟩ := hF
         have d86 : f 86 = .string (strV x2.t) := d86
         have d74 : f 74 = .bool true := d74
         refine Step2.live (show wantedBy _ (f 74) = true by rw [d74]; rfl) ?_
         obtain ⟨u0, u1, u2, u3, u4, u5, u6, u7, ufz⟩ := hC.facts
         have ev : ∀ t, evalOf f (.tmp t) = f t := fun _ => rfl
         have ec : ∀ c, evalOf f (.const c) = c := fun _ => rfl
         refine relUpon_value ?_ hC trivial rfl
         go_simp
        ·intro w L f hC hLi hLd hLn hF
         obtain ⟨d74, d87, _⟩ := hF
         have d74 : f 74 = .bool true := d74
         have d87 : f 87 = .bool false := d87
         refine Step2.live rfl ?_
         obtain ⟨u0, u1, u2, u3, u4, u5, u6, u7, ufz⟩ := hC.facts
         have ev : ∀ t, evalOf f (.tmp t) = f t := fun _ => rfl
         have ec : ∀ c, evalOf f (.const c) = c := fun _ => rfl
         refine relUpon_value ?_ hC trivial rfl
         go_simp
        ·intro w L f hC hLi hLd hLn hF
         obtain ⟨d88, _⟩ := hF
         have d88 : f 88 = .bool false := d88
         refine Step2.live rfl ?_
         exact relUpon_value (v := f 88) rfl (hC) (trivial) d88
        ·intro w L f hC hLi hLd hLn hF
         obtain ⟨d0, d89, _⟩ := hF
         have d89 : f 89 = .bool false := d89
         refine StepL2.dead (show wantedBy _ (f 89) = false by rw [d89]; rfl) (hC) ?_ (trivial)
         exact rfl
        ·intro w L f hC hLi hLd hLn hF
         obtain ⟨d90, d89, _⟩ := hF
         have d89 : f 89 = .bool false := d89
         refine StepL2.dead (show wantedBy _ (f 89) = false by rw [d89]; rfl) (hC) ?_ (trivial)
         exact rfl
        ·intro w L f hC hLi hLd hLn hF
         obtain ⟨d91, d89, _⟩ := hF
         have d89 : f 89 = .bool false := d89
         refine StepL2.dead (show wantedBy _ (f 89) = false by rw [d89]; rfl) (hC) ?_ (trivial)
         exact rfl
        ·intro w L f hC hLi hLd hLn hF
         obtain ⟨d92, d89, _⟩ := hF
         have d89 : f 89 = .bool false := d89
         refine StepL2.dead (show wantedBy _ (f 89) = false by rw [d89]; rfl) (hC) ?_ (trivial)
         exact rfl
        ·intro w L f hC hLi hLd hLn hF
         obtain ⟨d0, d89, _⟩ := hF
         have d89 : f 89 = .bool false := d89
         refine StepL2.dead (show wantedBy _ (f 89) = false by rw [d89]; rfl) (hC) ?_ (trivial)
         exact rfl
        ·intro w L f hC hLi hLd hLn hF
         obtain ⟨d94, d89, _⟩ := hF
         have d89 : f 89 = .bool false := d89
         refine StepL2.dead (show wantedBy _ (f 89) = false by rw [d89]; rfl) (hC) ?_ (trivial)
         exact rfl
        ·intro w L f hC hLi hLd hLn hF
         obtain ⟨d95, d89, _⟩ := hF
         have d89 : f 89 = .bool false := d89
         refine StepL2.dead (show wantedBy _ (f 89) = false by rw [d89]; rfl) (hC) ?_ (trivial)
         exact rfl
        ·intro w L f hC hLi hLd hLn hF
         obtain ⟨d96, d89, _⟩ := hF
         have d89 : f 89 = .bool false := d89
         refine StepL2.dead (show wantedBy _ (f 89) = false by rw [d89]; rfl) (hC) ?_ (trivial)
         exact rfl
        ·intro w L f hC hLi hLd hLn hF
         obtain ⟨d97, d89, _⟩ := hF
         have d89 : f 89 = .bool false := d89
         refine StepL2.dead (show wantedBy _ (f 89) = false by rw [d89]; rfl) (hC) ?_ (trivial)
         exact rfl
        ·intro w L f hC hLi hLd hLn hF
         obtain ⟨d93, d98, d89, _⟩ := hF
         have d89 : f 89 = .bool false := d89
         refine StepL2.dead (show wantedBy _ (f 89) = false by rw [d89]; rfl) (hC) ?_ (trivial)
         exact rfl
        ·intro w L f hC hLi hLd hLn hF
         obtain ⟨d99, d89, _⟩ := hF
         have d89 : f 89 = .bool false := d89
         refine StepL2.dead (show wantedBy _ (f 89) = false by rw [d89]; rfl) (hC) ?_ (trivial)
         exact rfl
        ·intro w L f hC hLi hLd hLn hF
         obtain ⟨d100, d89, _⟩ := hF
         have d89 : f 89 = .bool false := d89
         refine StepL2.dead (show wantedBy _ (f 89) = false by rw [d89]; rfl) (hC) ?_ (trivial)
         exact rfl
        ·intro w L f hC hLi hLd hLn hF
         obtain ⟨d101, d89, _⟩ := hF
         have d89 : f 89 = .bool false := d89
         refine StepL2.dead (show wantedBy _ (f 89) = false by rw [d89]; rfl) (hC) ?_ (trivial)
         exact rfl
        ·intro w L f hC hLi hLd hLn hF
         obtain ⟨d102, d89, _⟩ := hF
         have d89 : f 89 = .bool false := d89
         refine StepL2.dead (show wantedBy _ (f 89) = false by rw [d89]; rfl) (hC) ?_ (trivial)
         exact rfl
        ·intro w L f hC hLi hLd hLn hF
         obtain ⟨d0, d103, _⟩ := hF
         have d0 : f 0 = .pointer (some ⟨Z.g, 0, none⟩) := d0
         have d103 : f 103 = undef := d103
         refine StepL2.dead (show wantedBy _ (f 103) = false by rw [d103]; rfl) (hC) ?_ (trivial)
         exact rfl
        ·intro w L f hC hLi hLd hLn hF
         obtain ⟨d104, d103, _⟩ := hF
         have d104 : f 104 = undef := d104
         have d103 : f 103 = undef := d103
         refine StepL2.dead (show wantedBy _ (f 103) = false by rw [d103]; rfl) (hC) ?_ (trivial)
         exact rfl
        ·intro w L f hC hLi hLd hLn hF
         obtain ⟨d105, d103, _⟩ := hF
         have d105 : f 105 = undef := d105
         have d103 : f 103 = undef := d103
         refine StepL2.dead (show wantedBy _ (f 103) = false by rw [d103]; rfl) (hC) ?_ (trivial)
         exact rfl
        ·intro w L f hC hLi hLd hLn hF
         obtain ⟨d106, d103, _⟩ := hF
         have d106 : f 106 = undef := d106
         have d103 : f 103 = undef := d103
         refine StepL2.dead (show wantedBy _ (f 103) = false by rw [d103]; rfl) (hC) ?_ (trivial)
         exact rfl
        ·intro w L f hC hLi hLd hLn hF
         obtain ⟨d0, d103, _⟩ := hF
         have d0 : f 0 = .pointer (some ⟨Z.g, 0, none⟩) := d0
         have d103 : f 103 = undef := d103
         refine StepL2.dead (show wantedBy _ (f 103) = false by rw [d103]; rfl) (hC) ?_ (trivial)
         exact rfl
        ·intro w L f hC hLi hLd hLn hF
         obtain ⟨d108, d103, _⟩ := hF
         have d108 : f 108 = undef := d108
         have d103 : f 103 = undef := d103
         refine StepL2.dead (show wantedBy _ (f 103) = false by rw [d103]; rfl) (hC) ?_ (trivial)
         exact rfl
        ·intro w L f hC hLi hLd hLn hF
         obtain ⟨d109, d103, _⟩ := hF
         have d109 : f 109 = undef := d109
         have d103 : f 103 = undef := d103
         refine StepL2.dead (show wantedBy _ (f 103) = false by rw [d103]; rfl) (hC) ?_ (trivial)
         exact rfl
        ·intro w L f hC hLi hLd hLn hF
         obtain ⟨d110, d103, _⟩ := hF
         have d110 : f 110 = undef := d110
         have d103 : f 103 = undef := d103
         refine StepL2.dead (show wantedBy _ (f 103) = false by rw [d103]; rfl) (hC) ?_ (trivial)
         exact rfl
        ·intro w L f hC hLi hLd hLn hF
         obtain ⟨d111, d103, _⟩ := hF
         have d111 : f 111 = undef := d111
         have d103 : f 103 = undef := d103
         refine StepL2.dead (show wantedBy _ (f 103) = false by rw [d103]; rfl) (hC) ?_ (trivial)
         exact rfl
        ·intro w L f hC hLi hLd hLn hF
         obtain ⟨d107, d112, d103, _⟩ := hF
         have d107 : f 107 = undef := d107
         have d112 : f 112 = undef := d112
         have d103 : f 103 = undef := d103
         refine StepL2.dead (show wantedBy _ (f 103) = false by rw [d103]; rfl) (hC) ?_ (trivial)
         exact rfl
        ·intro w L f hC hLi hLd hLn hF
         obtain ⟨d113, d103, _⟩ := hF
         have d113 : f 113 = undef := d113
         have d103 : f 103 = undef := d103
         refine StepL2.dead (show wantedBy _ (f 103) = false by rw [d103]; rfl) (hC) ?_ (trivial)
         exact rfl
        ·intro w L f hC hLi hLd hLn hF
         obtain ⟨d114, d103, _⟩ := hF
         have d114 : f 114 = undef := d114
         have d103 : f 103 = undef := d103
         refine StepL2.dead (show wantedBy _ (f 103) = false by rw [d103]; rfl) (hC) ?_ (trivial)
         exact rfl
        ·intro w L f hC hLi hLd hLn hF
         obtain ⟨d115, d103, _⟩ := hF
         have d115 : f 115 = undef := d115
         have d103 : f 103 = undef := d103
         refine StepL2.dead (show wantedBy _ (f 103) = false by rw [d103]; rfl) (hC) ?_ (trivial)
         exact rfl
        ·intro w L f hC hLi hLd hLn hF
         obtain ⟨d103, d116, d89, _⟩ := hF
         have d89 : f 89 = .bool false := d89
         refine StepL2.dead (show wantedBy _ (f 89) = false by rw [d89]; rfl) (hC) ?_ (trivial)
         exact rfl
        ·intro w L f hC hLi hLd hLn hF
         obtain ⟨d89, d117, _⟩ := hF
         have d89 : f 89 = .bool false := d89
         have d117 : f 117 = undef := d117
         refine Step2.live rfl ?_
         obtain ⟨u0, u1, u2, u3, u4, u5, u6, u7, ufz⟩ := hC.facts
         have ev : ∀ t, evalOf f (.tmp t) = f t := fun _ => rfl
         have ec : ∀ c, evalOf f (.const c) = c := fun _ => rfl
         refine relUpon_value ?_ hC trivial rfl
         go_simp
       intro x w' hC hV

       have e0 : x 59 = .bool nf := (hV 59 _ rfl rfl).trans (by rw [hN2.out])
       clear hV
       simp only [framed]
       rw [e0]
       have hC := Lib.hid hC
       go_wp2_with fail
       go_meet
       case rel => exact ⟨rfl, hC⟩
      case pos =>
       have k2 : ((strV x2.t).toList == [110, 117, 108, 108]) = true := by rw [strV_toList, q2]; rfl
       by_cases q1 : x1.t = [61, 61]
       case pos =>
        have k1 : ((strV x1.t).toList == [61, 61]) = true := by rw [strV_toList, q1]; rfl
        have hN2 : Hid (nf = true) := Lib.hid (by rw [hN, q1, q2]; rfl)
        clear hN q2 q1
        refine wp_region_tabL ((fun _ _ v => v = .pointer (some ⟨Z.g, 0, none⟩)) ::
         (fun _ _ v => v = .bool true) ::
         (fun _ _ v => v = .bool true) ::
         (fun _ _ v => v = .pointer (some ⟨Z.g, 0, none⟩)) ::
         (fun _ _ v => v = .pointer (some ⟨Z.g, 0, none⟩)) ::
         (fun _ _ v => v = .pointer (some ⟨Z.g, 1, none⟩)) ::
         (fun _ _ v => v = .int .i64 ((s.i : Int))) ::
         (fun _ _ v => v = .int .i64 ((s.i : Int) + 2)) ::
         (fun _ _ v => v = .pointer (some ⟨Z.g, 0, none⟩)) ::
         (fun _ _ v => v = .pointer (some ⟨Z.g, 0, none⟩)) ::
         (fun _ _ v => v = .pointer (some ⟨Z.g, 0, none⟩)) ::
         (fun _ _ v => v = .slice (some ⟨b, off, none⟩) C.tk.length Z.c) ::
         (fun _ _ v => v = .int .i64 ((C.tk.length : Int))) ::
         (fun _ _ v => v = .bool true) ::
         (fun _ _ v => v = .bool true) ::
         (fun _ _ v => v = .bool true) ::
         (fun _ _ v => v = .pointer (some ⟨Z.g, 0, none⟩)) ::
         (fun _ _ v => v = .pointer (some ⟨Z.g, 0, none⟩)) ::
         (fun _ _ v => v = .pointer (some ⟨Z.g, 0, none⟩)) ::
         (fun _ _ v => v = .slice (some ⟨b, off, none⟩) C.tk.length Z.c) ::
         (fun _ _ v => v = .pointer (some ⟨Z.g, 0, none⟩)) ::
         (fun _ _ v => v = .pointer (some ⟨Z.g, 0, none⟩)) ::
         (fun _ _ v => v = .pointer (some ⟨Z.g, 1, none⟩)) ::
         (fun _ _ v => v = .int .i64 ((s.i : Int))) ::
         (fun _ _ v => v = .int .i64 ((s.i : Int) + 2)) ::
         (fun _ _ v => v = .pointer (some ⟨b, off + (s.i + 2) * 3, none⟩)) ::
         (fun _ _ v => v = .pointer (some ⟨b, off + (s.i + 2) * 3 + 1, none⟩)) ::
         (fun _ _ v => v = .string (strV x2.t)) ::
         (fun _ _ v => v = .bool true) ::
         (fun _ _ v => v = .bool true) ::
         (fun _ _ v => v = .bool true) ::
         (fun _ _ v => v = .pointer (some ⟨Z.g, 0, none⟩)) ::
         (fun _ _ v => v = .pointer (some ⟨Z.g, 0, none⟩)) ::
         (fun _ _ v => v = .pointer (some ⟨Z.g, 0, none⟩)) ::
         (fun _ _ v => v = .slice (some ⟨b, off, none⟩) C.tk.length Z.c) ::
         (fun _ _ v => v = .pointer (some ⟨Z.g, 0, none⟩)) ::
         (fun _ _ v => v = .pointer (some ⟨Z.g, 0, none⟩)) ::
         (fun _ _ v => v = .pointer (some ⟨Z.g, 1, none⟩)) ::
         (fun _ _ v => v = .int .i64 ((s.i : Int))) ::
         (fun _ _ v => v = .int .i64 ((s.i : Int) + 1)) ::
         (fun _ _ v => v = .pointer (some ⟨b, off + (s.i + 1) * 3, none⟩)) ::
         (fun _ _ v => v = .pointer (some ⟨b, off + (s.i + 1) * 3 + 1, none⟩)) ::
         (fun _ _ v => v = .string (strV x1.t)) ::
         (fun _ _ v => v = .bool true) ::
         (fun _ _ v => v = .bool true) ::
         (fun _ _ v => v = undef) ::
         (fun _ _ v => v = undef) ::
         (fun _ _ v => v = undef) ::
         (fun _ _ v => v = undef) ::
         (fun _ _ v => v = undef) ::
         (fun _ _ v => v = undef) ::
         (fun _ _ v => v = undef) ::
         (fun _ _ v => v = undef) ::
         (fun _ _ v => v = undef) ::
         (fun _ _ v => v = undef) ::
         (fun _ _ v => v = undef) ::
         (fun _ _ v => v = undef) ::
         (fun _ _ v => v = undef) ::
         (fun _ _ v => v = .bool true) ::
         (fun _ _ v => v = .bool true) :: [])
         (⟨[(0, none)], 0, []⟩ :: ⟨[(59, some 0)], 0, []⟩ :: ⟨[(60, some 1)], 0, []⟩ :: ⟨[(0, none), (61, some 2)], 61, []⟩ :: ⟨[(62, some 3), (61, some 2)], 61, []⟩ :: ⟨[(63, some 4), (61, some 2)], 61, []⟩ :: ⟨[(64, some 5), (61, some 2)], 61, []⟩ :: ⟨[(65, some 6), (61, some 2)], 61, []⟩ :: ⟨[(0, none), (61, some 2)], 61, []⟩ :: ⟨[(67, some 8), (61, some 2)], 61, []⟩ :: ⟨[(68, some 9), (61, some 2)], 61, []⟩ :: ⟨[(69, some 10), (61, some 2)], 61, []⟩ :: ⟨[(70, some 11), (61, some 2)], 61, []⟩ :: ⟨[(66, some 7), (71, some 12), (61, some 2)], 61, []⟩ :: ⟨[(61, some 2), (72, some 13)], 0, []⟩ :: ⟨[(73, some 14)], 0, []⟩ :: ⟨[(0, none), (74, some 15)], 74, []⟩ :: ⟨[(75, some 16), (74, some 15)], 74, []⟩ :: ⟨[(76, some 17), (74, some 15)], 74, []⟩ :: ⟨[(77, some 18), (74, some 15)], 74, []⟩ :: ⟨[(0, none), (74, some 15)], 74, []⟩ :: ⟨[(79, some 20), (74, some 15)], 74, []⟩ :: ⟨[(80, some 21), (74, some 15)], 74, []⟩ :: ⟨[(81, some 22), (74, some 15)], 74, []⟩ :: ⟨[(82, some 23), (74, some 15)], 74, []⟩ :: ⟨[(78, some 19), (83, some 24), (74, some 15)], 74, []⟩ :: ⟨[(84, some 25), (74, some 15)], 74, []⟩ :: ⟨[(85, some 26), (74, some 15)], 74, []⟩ :: ⟨[(86, some 27), (74, some 15)], 74, []⟩ :: ⟨[(74, some 15), (87, some 28)], 0, []⟩ :: ⟨[(88, some 29)], 0, []⟩ :: ⟨[(0, none), (89, some 30)], 89, []⟩ :: ⟨[(90, some 31), (89, some 30)], 89, []⟩ :: ⟨[(91, some 32), (89, some 30)], 89, []⟩ :: ⟨[(92, some 33), (89, some 30)], 89, []⟩ :: ⟨[(0, none), (89, some 30)], 89, []⟩ :: ⟨[(94, some 35), (89, some 30)], 89, []⟩ :: ⟨[(95, some 36), (89, some 30)], 89, []⟩ :: ⟨[(96, some 37), (89, some 30)], 89, []⟩ :: ⟨[(97, some 38), (89, some 30)], 89, []⟩ :: ⟨[(93, some 34), (98, some 39), (89, some 30)], 89, []⟩ :: ⟨[(99, some 40), (89, some 30)], 89, []⟩ :: ⟨[(100, some 41), (89, some 30)], 89, []⟩ :: ⟨[(101, some 42), (89, some 30)], 89, []⟩ :: ⟨[(102, some 43), (89, some 30)], 89, []⟩ :: ⟨[(0, none), (103, some 44)], 103, []⟩ :: ⟨[(104, some 45), (103, some 44)], 103, []⟩ :: ⟨[(105, some 46), (103, some 44)], 103, []⟩ :: ⟨[(106, some 47), (103, some 44)], 103, []⟩ :: ⟨[(0, none), (103, some 44)], 103, []⟩ :: ⟨[(108, some 49), (103, some 44)], 103, []⟩ :: ⟨[(109, some 50), (103, some 44)], 103, []⟩ :: ⟨[(110, some 51), (103, some 44)], 103, []⟩ :: ⟨[(111, some 52), (103, some 44)], 103, []⟩ :: ⟨[(107, some 48), (112, some 53), (103, some 44)], 103, []⟩ :: ⟨[(113, some 54), (103, some 44)], 103, []⟩ :: ⟨[(114, some 55), (103, some 44)], 103, []⟩ :: ⟨[(115, some 56), (103, some 44)], 103, []⟩ :: ⟨[(103, some 44), (116, some 57), (89, some 30)], 89, []⟩ :: ⟨[(89, some 30), (117, some 58)], 0, []⟩ :: [])
         (none :: none :: none :: none :: none :: none :: none :: none :: none :: none :: none :: none :: none :: none :: none :: none :: none :: none :: none :: none :: none :: none :: none :: none :: none :: none :: none :: none :: none :: none :: none :: none :: none :: none :: none :: none :: none :: none :: none :: none :: none :: none :: none :: none :: none :: none :: none :: none :: none :: none :: none :: none :: none :: none :: none :: none :: none :: none :: none :: some 0 :: some 1 :: some 2 :: some 3 :: some 4 :: some 5 :: some 6 :: some 7 :: some 8 :: some 9 :: some 10 :: some 11 :: some 12 :: some 13 :: some 14 :: some 15 :: some 16 :: some 17 :: some 18 :: some 19 :: some 20 :: some 21 :: some 22 :: some 23 :: some 24 :: some 25 :: some 26 :: some 27 :: some 28 :: some 29 :: some 30 :: some 31 :: some 32 :: some 33 :: some 34 :: some 35 :: some 36 :: some 37 :: some 38 :: some 39 :: some 40 :: some 41 :: some 42 :: some 43 :: some 44 :: some 45 :: some 46 :: some 47 :: some 48 :: some 49 :: some 50 :: some 51 :: some 52 :: some 53 :: some 54 :: some 55 :: some 56 :: some 57 :: some 58 :: some 59 :: [])
         (fun _ w' => Moved C Z s w w') (fun _ _ _ => True) ?mixK16tttt ?okK16tttt ?tabK16tttt ?frK16tttt ?inK16tttt ?keptK16tttt ?startK16tttt ?eachK16tttt ?finK16tttt
        case mixK16tttt => kernel_rfl
        case okK16tttt => kernel_rfl
        case tabK16tttt => kernel_rfl
        case frK16tttt => kernel_rfl
        case inK16tttt => rfl
        case keptK16tttt => exact ⟨fun _ _ _ _ _ _ _ _ _ _ _ h => h, fun _ _ _ _ _ _ _ _ _ _ _ h => h, fun _ _ _ _ _ _ _ _ _ _ _ h => h, fun _ _ _ _ _ _ _ _ _ _ _ h => h, fun _ _ _ _ _ _ _ _ _ _ _ h => h, fun _ _ _ _ _ _ _ _ _ _ _ h => h, fun _ _ _ _ _ _ _ _ _ _ _ h => h, fun _ _ _ _ _ _ _ _ _ _ _ h => h, fun _ _ _ _ _ _ _ _ _ _ _ h => h, fun _ _ _ _ _ _ _ _ _ _ _ h => h, fun _ _ _ _ _ _ _ _ _ _ _ h => h, fun _ _ _ _ _ _ _ _ _ _ _ h => h, fun _ _ _ _ _ _ _ _ _ _ _ h => h, fun _ _ _ _ _ _ _ _ _ _ _ h => h, fun _ _ _ _ _ _ _ _ _ _ _ h => h, fun _ _ _ _ _ _ _ _ _ _ _ h => h, fun _ _ _ _ _ _ _ _ _ _ _ h => h, fun _ _ _ _ _ _ _ _ _ _ _ h => h, fun _ _ _ _ _ _ _ _ _ _ _ h => h, fun _ _ _ _ _ _ _ _ _ _ _ h => h, fun _ _ _ _ _ _ _ _ _ _ _ h => h, fun _ _ _ _ _ _ _ _ _ _ _ h => h, fun _ _ _ _ _ _ _ _ _ _ _ h => h, fun _ _ _ _ _ _ _ _ _ _ _ h => h, fun _ _ _ _ _ _ _ _ _ _ _ h => h, fun _ _ _ _ _ _ _ _ _ _ _ h => h, fun _ _ _ _ _ _ _ _ _ _ _ h => h, fun _ _ _ _ _ _ _ _ _ _ _ h => h, fun _ _ _ _ _ _ _ _ _ _ _ h => h, fun _ _ _ _ _ _ _ _ _ _ _ h => h, fun _ _ _ _ _ _ _ _ _ _ _ h => h, fun _ _ _ _ _ _ _ _ _ _ _ h => h, fun _ _ _ _ _ _ _ _ _ _ _ h => h, fun _ _ _ _ _ _ _ _ _ _ _ h => h, fun _ _ _ _ _ _ _ _ _ _ _ h => h, fun _ _ _ _ _ _ _ _ _ _ _ h => h, fun _ _ _ _ _ _ _ _ _ _ _ h => h, fun _ _ _ _ _ _ _ _ _ _ _ h => h, fun _ _ _ _ _ _ _ _ _ _ _ h => h, fun _ _ _ _ _ _ _ _ _ _ _ h => h, fun _ _ _ _ _ _ _ _ _ _ _ h => h, fun _ _ _ _ _ _ _ _ _ _ _ h => h, fun _ _ _ _ _ _ _ _ _ _ _ h => h, fun _ _ _ _ _ _ _ _ _ _ _ h => h, fun _ _ _ _ _ _ _ _ _ _ _ h => h, fun _ _ _ _ _ _ _ _ _ _ _ h => h, fun _ _ _ _ _ _ _ _ _ _ _ h => h, fun _ _ _ _ _ _ _ _ _ _ _ h => h, fun _ _ _ _ _ _ _ _ _ _ _ h => h, fun _ _ _ _ _ _ _ _ _ _ _ h => h, fun _ _ _ _ _ _ _ _ _ _ _ h => h, fun _ _ _ _ _ _ _ _ _ _ _ h => h, fun _ _ _ _ _ _ _ _ _ _ _ h => h, fun _ _ _ _ _ _ _ _ _ _ _ h => h, fun _ _ _ _ _ _ _ _ _ _ _ h => h, fun _ _ _ _ _ _ _ _ _ _ _ h => h, fun _ _ _ _ _ _ _ _ _ _ _ h => h, fun _ _ _ _ _ _ _ _ _ _ _ h => h, fun _ _ _ _ _ _ _ _ _ _ _ h => h, fun _ _ _ _ _ _ _ _ _ _ _ h => h, trivial⟩
        case startK16tttt => exact hgo.out.below (Below.refl _ _).drew
        case eachK16tttt =>
         refine ⟨?_, ?_, ?_, ?_, ?_, ?_, ?_, ?_, ?_, ?_, ?_, ?_, ?_, ?_, ?_, ?_, ?_, ?_, ?_, ?_, ?_, ?_, ?_, ?_, ?_, ?_, ?_, ?_, ?_, ?_, ?_, ?_, ?_, ?_, ?_, ?_, ?_, ?_, ?_, ?_, ?_, ?_, ?_, ?_, ?_, ?_, ?_, ?_, ?_, ?_, ?_, ?_, ?_, ?_, ?_, ?_, ?_, ?_, ?_, ?_, trivial⟩
         ·intro w L f hC hLi hLd hLn hF
          obtain ⟨d0, _⟩ := hF
          have d0 : f 0 = .pointer (some ⟨Z.g, 0, none⟩) := d0
          refine Step2.live rfl ?_
          exact relUpon_value (v := f 0) rfl (hC) (trivial) d0
         ·intro w L f hC hLi hLd hLn hF
          obtain ⟨d59, _⟩ := hF
          have d59 : f 59 = .pointer (some ⟨Z.g, 0, none⟩) := d59
          refine Step2.live rfl ?_
          have ev : ∀ t, evalOf f (.tmp t) = f t := fun _ => rfl
          have ec : ∀ c, evalOf f (.const c) = c := fun _ => rfl
          have ef : ∀ g, evalOf f (.func g) = .func (.func g) #[] #[] := fun _ => rfl
          refine relUpon_call (f := 41) (args := #[.pointer (some ⟨Z.g, 0, none⟩)]) (w := w) (by go_simp) (named_from hC hn.out) ?_
          rintro e w1 ⟨he, h1, -⟩
          exact ⟨_, he, h1, trivial, rfl⟩
         ·intro w L f hC hLi hLd hLn hF
          obtain ⟨d60, _⟩ := hF
          have d60 : f 60 = .bool true := d60
          refine Step2.live rfl ?_
          exact relUpon_value (v := f 60) rfl (hC) (trivial) d60
         ·intro w L f hC hLi hLd hLn hF
          obtain ⟨d0, d61, _⟩ := hF
          have d0 : f 0 = .pointer (some ⟨Z.g, 0, none⟩) := d0
          have d61 : f 61 = .bool true := d61
          refine Step2.live (show wantedBy _ (f 61) = true by rw [d61]; rfl) ?_
          exact relUpon_value (v := f 0) rfl (hC) (trivial) d0
         ·intro w L f hC hLi hLd hLn hF
          obtain ⟨d62, d61, _⟩ := hF
          have d62 : f 62 = .pointer (some ⟨Z.g, 0, none⟩) := d62
          have d61 : f 61 = .bool true := d61
          refine Step2.live (show wantedBy _ (f 61) = true by rw [d61]; rfl) ?_
          obtain ⟨u0, u1, u2, u3, u4, u5, u6, u7, ufz⟩ := hC.facts
          have ev : ∀ t, evalOf f (.tmp t) = f t := fun _ => rfl
          have ec : ∀ c, evalOf f (.const c) = c := fun _ => rfl
          refine relUpon_value ?_ hC trivial rfl
          go_simp
         ·intro w L f hC hLi hLd hLn hF
          obtain ⟨d63, d61, _⟩ := hF
          have d63 : f 63 = .pointer (some ⟨Z.g, 0, none⟩) := d63
          have d61 : f 61 = .bool true := d61
          refine Step2.live (show wantedBy _ (f 61) = true by rw [d61]; rfl) ?_
          obtain ⟨u0, u1, u2, u3, u4, u5, u6, u7, ufz⟩ := hC.facts
          have ev : ∀ t, evalOf f (.tmp t) = f t := fun _ => rfl
          have ec : ∀ c, evalOf f (.const c) = c := fun _ => rfl
          refine relUpon_value ?_ hC trivial rfl
          go_simp
         ·intro w L f hC hLi hLd hLn hF
          obtain ⟨d64, d61, _⟩ := hF
          have d64 : f 64 = .pointer (some ⟨Z.g, 1, none⟩) := d64
          have d61 : f 61 = .bool true := d61
          refine Step2.live (show wantedBy _ (f 61) = true by rw [d61]; rfl) ?_
          obtain ⟨u0, u1, u2, u3, u4, u5, u6, u7, ufz⟩ := hC.facts
          have ev : ∀ t, evalOf f (.tmp t) = f t := fun _ => rfl
          have ec : ∀ c, evalOf f (.const c) = c := fun _ => rfl
          refine relUpon_value ?_ hC trivial rfl
          go_simp
         ·intro w L f hC hLi hLd hLn hF
          obtain ⟨d65, d61, _⟩ := hF
          have d65 : f 65 = .int .i64 ((s.i : Int)) := d65
          have d61 : f 61 = .bool true := d61
          refine Step2.live (show wantedBy _ (f 61) = true by rw [d61]; rfl) ?_
          obtain ⟨u0, u1, u2, u3, u4, u5, u6, u7, ufz⟩ := hC.facts
          have ev : ∀ t, evalOf f (.tmp t) = f t := fun _ => rfl
          have ec : ∀ c, evalOf f (.const c) = c := fun _ => rfl
          refine relUpon_value ?_ hC trivial rfl
          go_simp
         ·intro w L f hC hLi hLd hLn hF
          obtain ⟨d0, d61, _⟩ := hF
          have d0 : f 0 = .pointer (some ⟨Z.g, 0, none⟩) := d0
          have d61 : f 61 = .bool true := d61
          refine Step2.live (show wantedBy _ (f 61) = true by rw [d61]; rfl) ?_
          exact relUpon_value (v := f 0) rfl (hC) (trivial) d0
         ·intro w L f hC hLi hLd hLn hF
          obtain ⟨d67, d61, _⟩ := hF
          have d67 : f 67 = .pointer (some ⟨Z.g, 0, none⟩) := d67
          have d61 : f 61 = .bool true := d61
          refine Step2.live (show wantedBy _ (f 61) = true by rw [d61]; rfl) ?_
          obtain ⟨u0, u1, u2, u3, u4, u5, u6, u7, ufz⟩ := hC.facts
          have ev : ∀ t, evalOf f (.tmp t) = f t := fun _ => rfl
          have ec : ∀ c, evalOf f (.const c) = c := fun _ => rfl
          refine relUpon_value ?_ hC trivial rfl
          go_simp
         ·intro w L f hC hLi hLd hLn hF
          obtain ⟨d68, d61, _⟩ := hF
          have d68 : f 68 = .pointer (some ⟨Z.g, 0, none⟩) := d68
          have d61 : f 61 = .bool true := d61
          refine Step2.live (show wantedBy _ (f 61) = true by rw [d61]; rfl) ?_
          obtain ⟨u0, u1, u2, u3, u4, u5, u6, u7, ufz⟩ := hC.facts
          have ev : ∀ t, evalOf f (.tmp t) = f t := fun _ => rfl
          have ec : ∀ c, evalOf f (.const c) = c := fun _ => rfl
          refine relUpon_value ?_ hC trivial rfl
          go_simp
         ·intro w L f hC hLi hLd hLn hF
          obtain ⟨d69, d61, _⟩ := hF
          have d69 : f 69 = .pointer (some ⟨Z.g, 0, none⟩) := d69
          have d61 : f 61 = .bool true := d61
          refine Step2.live (show wantedBy _ (f 61) = true by rw [d61]; rfl) ?_
          obtain ⟨u0, u1, u2, u3, u4, u5, u6, u7, ufz⟩ := hC.facts
          have ev : ∀ t, evalOf f (.tmp t) = f t := fun _ => rfl
          have ec : ∀ c, evalOf f (.const c) = c := fun _ => rfl
          refine relUpon_value ?_ hC trivial rfl
          go_simp
         ·intro w L f hC hLi hLd hLn hF
          obtain ⟨d70, d61, _⟩ := hF
          have d70 : f 70 = .slice (some ⟨b, off, none⟩) C.tk.length Z.c := d70
          have d61 : f 61 = .bool true := d61
          refine Step2.live (show wantedBy _ (f 61) = true by rw [d61]; rfl) ?_
          obtain ⟨u0, u1, u2, u3, u4, u5, u6, u7, ufz⟩ := hC.facts
          have ev : ∀ t, evalOf f (.tmp t) = f t := fun _ => rfl
          have ec : ∀ c, evalOf f (.const c) = c := fun _ => rfl
          refine relUpon_value ?_ hC trivial rfl
          go_simp
         ·intro w L f hC hLi hLd hLn hF
          obtain ⟨d66, d71, d61, _⟩ := hF
          have d66 : f 66 = .int .i64 ((s.i : Int) + 2) := d66
          have d71 : f 71 = .int .i64 ((C.tk.length : Int)) := d71
          have d61 : f 61 = .bool true := d61
          refine Step2.live (show wantedBy _ (f 61) = true by rw [d61]; rfl) ?_
          obtain ⟨u0, u1, u2, u3, u4, u5, u6, u7, ufz⟩ := hC.facts
          have ev : ∀ t, evalOf f (.tmp t) = f t := fun _ => rfl
          have ec : ∀ c, evalOf f (.const c) = c := fun _ => rfl
          refine relUpon_value ?_ hC trivial rfl
          go_simp
         ·intro w L f hC hLi hLd hLn hF
          obtain ⟨d61, d72, _⟩ := hF
          have d61 : f 61 = .bool true := d61
          have d72 : f 72 = .bool true := d72
          refine Step2.live rfl ?_
          obtain ⟨u0, u1, u2, u3, u4, u5, u6, u7, ufz⟩ := hC.facts
          have ev : ∀ t, evalOf f (.tmp t) = f t := fun _ => rfl
          have ec : ∀ c, evalOf f (.const c) = c := fun _ => rfl
          refine relUpon_value ?_ hC trivial rfl
          go_simp
         ·intro w L f hC hLi hLd hLn hF
          obtain ⟨d73, _⟩ := hF
          have d73 : f 73 = .bool true := d73
          refine Step2.live rfl ?_
          exact relUpon_value (v := f 73) rfl (hC) (trivial) d73
         ·intro w L f hC hLi hLd hLn hF
          obtain ⟨d0, d74, _⟩ := hF
          have d0 : f 0 = .pointer (some ⟨Z.g, 0, none⟩) := d0
          have d74 : f 74 = .bool true := d74
          refine Step2.live (show wantedBy _ (f 74) = true by rw [d74]; rfl) ?_
          exact relUpon_value (v := f 0) rfl (hC) (trivial) d0
         ·intro w L f hC hLi hLd hLn hF
          obtain ⟨d75, d74, _⟩ := hF
          have d75 : f 75 = .pointer (some ⟨Z.g, 0, none⟩) := d75
          have d74 : f 74 = .bool true := d74
          refine Step2.live (show wantedBy _ (f 74) = true by rw [d74]; rfl) ?_
          obtain ⟨u0, u1, u2, u3, u4, u5, u6, u7, ufz⟩ := hC.facts
          have ev : ∀ t, evalOf f (.tmp t) = f t := fun _ => rfl
          have ec : ∀ c, evalOf f (.const c) = c := fun _ => rfl
          refine relUpon_value ?_ hC trivial rfl
          go_simp
         ·intro w L f hC hLi hLd hLn hF
          obtain ⟨d76, d74, _⟩ := hF
          have d76 : f 76 = .pointer (some ⟨Z.g, 0, none⟩) := d76
          have d74 : f 74 = .bool true := d74
          refine Step2.live (show wantedBy _ (f 74) = true by rw [d74]; rfl) ?_
          obtain ⟨u0, u1, u2, u3, u4, u5, u6, u7, ufz⟩ := hC.facts
          have ev : ∀ t, evalOf f (.tmp t) = f t := fun _ => rfl
          have ec : ∀ c, evalOf f (.const c) = c := fun _ => rfl
          refine relUpon_value ?_ hC trivial rfl
          go_simp
         ·intro w L f hC hLi hLd hLn hF
          obtain ⟨d77, d74, _⟩ := hF
          have d77 : f 77 = .pointer (some ⟨Z.g, 0, none⟩) := d77
          have d74 : f 74 = .bool true := d74
          refine Step2.live (show wantedBy _ (f 74) = true by rw [d74]; rfl) ?_
          obtain ⟨u0, u1, u2, u3, u4, u5, u6, u7, ufz⟩ := hC.facts
          have ev : ∀ t, evalOf f (.tmp t) = f t := fun _ => rfl
          have ec : ∀ c, evalOf f (.const c) = c := fun _ => rfl
          refine relUpon_value ?_ hC trivial rfl
          go_simp
         ·intro w L f hC hLi hLd hLn hF
          obtain ⟨d0, d74, _⟩ := hF
          have d0 : f 0 = .pointer (some ⟨Z.g, 0, none⟩) := d0
          have d74 : f 74 = .bool true := d74
          refine Step2.live (show wantedBy _ (f 74) = true by rw [d74]; rfl) ?_
          exact relUpon_value (v := f 0) rfl (hC) (trivial) d0
         ·intro w L f hC hLi hLd hLn hF
          obtain ⟨d79, d74, _⟩ := hF
          have d79 : f 79 = .pointer (some ⟨Z.g, 0, none⟩) := d79
          have d74 : f 74 = .bool true := d74
          refine Step2.live (show wantedBy _ (f 74) = true by rw [d74]; rfl) ?_
          obtain ⟨u0, u1, u2, u3, u4, u5, u6, u7, ufz⟩ := hC.facts
          have ev : ∀ t, evalOf f (.tmp t) = f t := fun _ => rfl
          have ec : ∀ c, evalOf f (.const c) = c := fun _ => rfl
          refine relUpon_value ?_ hC trivial rfl
          go_simp
         ·intro w L f hC hLi hLd hLn hF
          obtain ⟨d80, d74, _⟩ := hF
          have d80 : f 80 = .pointer (some ⟨Z.g, 0, none⟩) := d80
          have d74 : f 74 = .bool true := d74
          refine Step2.live (show wantedBy _ (f 74) = true by rw [d74]; rfl) ?_
          obtain ⟨u0, u1, u2, u3, u4, u5, u6, u7, ufz⟩ := hC.facts
          have ev : ∀ t, evalOf f (.tmp t) = f t := fun _ => rfl
          have ec : ∀ c, evalOf f (.const c) = c := fun _ => rfl
          refine relUpon_value ?_ hC trivial rfl
          go_simp
         ·intro w L f hC hLi hLd hLn hF
          obtain ⟨d81, d74, _⟩ := hF
          have d81 : f 81 = .pointer (some ⟨Z.g, 1, none⟩) := d81
          have d74 : f 74 = .bool true := d74
          refine Step2.live (show wantedBy _ (f 74) = true by rw [d74]; rfl) ?_
          obtain ⟨u0, u1, u2, u3, u4, u5, u6, u7, ufz⟩ := hC.facts
          have ev : ∀ t, evalOf f (.tmp t) = f t := fun _ => rfl
          have ec : ∀ c, evalOf f (.const c) = c := fun _ => rfl
          refine relUpon_value ?_ hC trivial rfl
          go_simp
         ·intro w L f hC hLi hLd hLn hF
          obtain ⟨d82, d74, _⟩ := hF
          have d82 : f 82 = .int .i64 ((s.i : Int)) := d82
          have d74 : f 74 = .bool true := d74
          refine Step2.live (show wantedBy _ (f 74) = true by rw [d74]; rfl) ?_
          obtain ⟨u0, u1, u2, u3, u4, u5, u6, u7, ufz⟩ := hC.facts
          have ev : ∀ t, evalOf f (.tmp t) = f t := fun _ => rfl
          have ec : ∀ c, evalOf f (.const c) = c := fun _ => rfl
          refine relUpon_value ?_ hC trivial rfl
          go_simp
         ·intro w L f hC hLi hLd hLn hF
          obtain ⟨d78, d83, d74, _⟩ := hF
          have d78 : f 78 = .slice (some ⟨b, off, none⟩) C.tk.length Z.c := d78
          have d83 : f 83 = .int .i64 ((s.i : Int) + 2) := d83
          have d74 : f 74 = .bool true := d74
          refine Step2.live (show wantedBy _ (f 74) = true by rw [d74]; rfl) ?_
          obtain ⟨u0, u1, u2, u3, u4, u5, u6, u7, ufz⟩ := hC.facts
          have ev : ∀ t, evalOf f (.tmp t) = f t := fun _ => rfl
          have ec : ∀ c, evalOf f (.const c) = c := fun _ => rfl
          refine relUpon_value ?_ hC trivial rfl
          go_simp
         ·intro w L f hC hLi hLd hLn hF
          obtain ⟨d84, d74, _⟩ := hF
          have d84 : f 84 = .pointer (some ⟨b, off + (s.i + 2) * 3, none⟩) := d84
          have d74 : f 74 = .bool true := d74
          refine Step2.live (show wantedBy _ (f 74) = true by rw [d74]; rfl) ?_
          obtain ⟨u0, u1, u2, u3, u4, u5, u6, u7, ufz⟩ := hC.facts
          have ev : ∀ t, evalOf f (.tmp t) = f t := fun _ => rfl
          have ec : ∀ c, evalOf f (.const c) = c := fun _ => rfl
          refine relUpon_value ?_ hC trivial rfl
          go_simp
         ·intro w L f hC hLi hLd hLn hF
          obtain ⟨d85, d74, _⟩ := hF
          have d85 : f 85 = .pointer (some ⟨b, off + (s.i + 2) * 3 + 1, none⟩) := d85
          have d74 : f 74 = .bool true := d74
          refine Step2.live (show wantedBy _ (f 74) = true by rw [d74]; rfl) ?_
          obtain ⟨u0, u1, u2⟩ := hC.tok hx2.out hA
          have ev : ∀ t, evalOf f (.tmp t) = f t := fun _ => rfl
          have ec : ∀ c, evalOf f (.const c) = c := fun _ => rfl
          refine relUpon_value ?_ hC trivial rfl
          go_simp
         ·intro w L f hC hLi hLd hLn hF
          obtain ⟨d86, d74, _⟩ := hF
          have d86 : f 86 = .string (strV x2.t) := d86
          have d74 : f 74 = .bool true := d74
          refine Step2.live (show wantedBy _ (f 74) = true by rw [d74]; rfl) ?_
          obtain ⟨u0, u1, u2, u3, u4, u5, u6, u7, ufz⟩ := hC.facts
          have ev : ∀ t, evalOf f (.tmp t) = f t := fun _ => rfl
          have ec : ∀ c, evalOf f (.const c) = c := fun _ => rfl
          refine relUpon_value ?_ hC trivial rfl
          go_simp
         ·intro w L f hC hLi hLd hLn hF
          obtain ⟨d74, d87, _⟩ := hF
          have d74 : f 74 = .bool true := d74
          have d87 : f 87 = .bool true := d87
          refine Step2.live rfl ?_
          obtain ⟨u0, u1, u2, u3, u4, u5, u6, u7, ufz⟩ := hC.facts
          have ev : ∀ t, evalOf f (.tmp t) = f t := fun _ => rfl
          have ec : ∀ c, evalOf f (.const c) = c := fun _ => rfl
          refine relUpon_value ?_ hC trivial rfl
          go_simp
         ·intro w L f hC hLi hLd hLn hF
          obtain ⟨d88, _⟩ := hF
          have d88 : f 88 = .bool true := d88
          refine Step2.live rfl ?_
          exact relUpon_value (v := f 88) rfl (hC) (trivial) d88
         ·intro w L f hC hLi hLd hLn hF
          obtain ⟨d0, d89, _⟩ := hF
          have d0 : f 0 = .pointer (some ⟨Z.g, 0, none⟩) := d0
          have d89 : f 89 = .bool true := d89
          refine Step2.live (show wantedBy _ (f 89) = true by rw [d89]; rfl) ?_
          exact relUpon_value (v := f 0) rfl (hC) (trivial) d0
         ·intro w L f hC hLi hLd hLn hF
          obtain ⟨d90, d89, _⟩ := hF
          have d90 : f 90 = .pointer (some ⟨Z.g, 0, none⟩) := d90
          have d89 : f 89 = .bool true := d89
          refine Step2.live (show wantedBy _ (f 89) = true by rw [d89]; rfl) ?_
          obtain ⟨u0, u1, u2, u3, u4, u5, u6, u7, ufz⟩ := hC.facts
          have ev : ∀ t, evalOf f (.tmp t) = f t := fun _ => rfl
          have ec : ∀ c, evalOf f (.const c) = c := fun _ => rfl
          refine relUpon_value ?_ hC trivial rfl
          go_simp
         ·intro w L f hC hLi hLd hLn hF
          obtain ⟨d91, d89, _⟩ := hF
          have d91 : f 91 = .pointer (some ⟨Z.g, 0, none⟩) := d91
          have d89 : f 89 = .bool true := d89
          refine Step2.live (show wantedBy _ (f 89) = true by rw [d89]; rfl) ?_
          obtain ⟨u0, u1, u2, u3, u4, u5, u6, u7, ufz⟩ := hC.facts
          have ev : ∀ t, evalOf f (.tmp t) = f t := fun _ => rfl
          have ec : ∀ c, evalOf f (.const c) = c := fun _ => rfl
          refine relUpon_value ?_ hC trivial rfl
          go_simp
         ·intro w L f hC hLi hLd hLn hF
          obtain ⟨d92, d89, _⟩ := hF
          have d92 : f 92 = .pointer (some ⟨Z.g, 0, none⟩) := d92
          have d89 : f 89 = .bool true := d89
          refine Step2.live (show wantedBy _ (f 89) = true by rw [d89]; rfl) ?_
          obtain ⟨u0, u1, u2, u3, u4, u5, u6, u7, ufz⟩ := hC.facts
          have ev : ∀ t, evalOf f (.tmp t) = f t := fun _ => rfl
          have ec : ∀ c, evalOf f (.const c) = c := fun _ => rfl
          refine relUpon_value ?_ hC trivial rfl
          go_simp
         ·intro w L f hC hLi hLd hLn hF
          obtain ⟨d0, d89, _⟩ := hF
          have d0 : f 0 = .pointer (some ⟨Z.g, 0, none⟩) := d0
          have d89 : f 89 = .bool true := d89
          refine Step2.live (show wantedBy _ (f 89) = true by rw [d89]; rfl) ?_
          exact relUpon_value (v := f 0) rfl (hC) (trivial) d0
         ·intro w L f hC hLi hLd hLn hF
          obtain ⟨d94, d89, _⟩ := hF
          have d94 : f 94 = .pointer (some ⟨Z.g, 0, none⟩) := d94
          have d89 : f 89 = .bool true := d89
          refine Step2.live (show wantedBy _ (f 89) = true by rw [d89]; rfl) ?_
          obtain ⟨u0, u1, u2, u3, u4, u5, u6, u7, ufz⟩ := hC.facts
          have ev : ∀ t, evalOf f (.tmp t) = f t := fun _ => rfl
          have ec : ∀ c, evalOf f (.const c) = c := fun _ => rfl
          refine relUpon_value ?_ hC trivial rfl
          go_simp
         ·intro w L f hC hLi hLd hLn hF
          obtain ⟨d95, d89, _⟩ := hF
          have d95 : f 95 = .pointer (some ⟨Z.g, 0, none⟩) := d95
          have d89 : f 89 = .bool true := d89
          refine Step2.live (show wantedBy _ (f 89) = true by rw [d89]; rfl) ?_
          obtain ⟨u0, u1, u2, u3, u4, u5, u6, u7, ufz⟩ := hC.facts
          have ev : ∀ t, evalOf f (.tmp t) = f t := fun _ => rfl
          have ec : ∀ c, evalOf f (.const c) = c := fun _ => rfl
          refine relUpon_value ?_ hC trivial rfl
          go_simp
         ·intro w L f hC hLi hLd hLn hF
          obtain ⟨d96, d89, _⟩ := hF
          have d96 : f 96 = .pointer (some ⟨Z.g, 1, none⟩) := d96
          have d89 : f 89 = .bool true := d89
          refine Step2.live (show wantedBy _ (f 89) = true by rw [d89]; rfl) ?_
          obtain ⟨u0, u1, u2, u3, u4, u5, u6, u7, ufz⟩ := hC.facts
          have ev : ∀ t, evalOf f (.tmp t) = f t := fun _ => rfl
          have ec : ∀ c, evalOf f (.const c) = c := fun _ => rfl
          refine relUpon_value ?_ hC trivial rfl
          go_simp
         ·intro w L f hC hLi hLd hLn hF
          obtain ⟨d97, d89, _⟩ := hF
          have d97 : f 97 = .int .i64 ((s.i : Int)) := d97
          have d89 : f 89 = .bool true := d89
          refine Step2.live (show wantedBy _ (f 89) = true by rw [d89]; rfl) ?_
          obtain ⟨u0, u1, u2, u3, u4, u5, u6, u7, ufz⟩ := hC.facts
          have ev : ∀ t, evalOf f (.tmp t) = f t := fun _ => rfl
          have ec : ∀ c, evalOf f (.const c) = c := fun _ => rfl
          refine relUpon_value ?_ hC trivial rfl
          go_simp
         ·intro w L f hC hLi hLd hLn hF
          obtain ⟨d93, d98, d89, _⟩ := hF
          have d93 : f 93 = .slice (some ⟨b, off, none⟩) C.tk.length Z.c := d93
          have d98 : f 98 = .int .i64 ((s.i : Int) + 1) := d98
          have d89 : f 89 = .bool true := d89
          refine Step2.live (show wantedBy _ (f 89) = true by rw [d89]; rfl) ?_
          obtain ⟨u0, u1, u2, u3, u4, u5, u6, u7, ufz⟩ := hC.facts
          have ev : ∀ t, evalOf f (.tmp t) = f t := fun _ => rfl
          have ec : ∀ c, evalOf f (.const c) = c := fun _ => rfl
          refine relUpon_value ?_ hC trivial rfl
          go_simp
         ·intro w L f hC hLi hLd hLn hF
          obtain ⟨d99, d89, _⟩ := hF
          have d99 : f 99 = .pointer (some ⟨b, off + (s.i + 1) * 3, none⟩) := d99
          have d89 : f 89 = .bool true := d89
          refine Step2.live (show wantedBy _ (f 89) = true by rw [d89]; rfl) ?_
          obtain ⟨u0, u1, u2, u3, u4, u5, u6, u7, ufz⟩ := hC.facts
          have ev : ∀ t, evalOf f (.tmp t) = f t := fun _ => rfl
          have ec : ∀ c, evalOf f (.const c) = c := fun _ => rfl
          refine relUpon_value ?_ hC trivial rfl
          go_simp
         ·intro w L f hC hLi hLd hLn hF
          obtain ⟨d100, d89, _⟩ := hF
          have d100 : f 100 = .pointer (some ⟨b, off + (s.i + 1) * 3 + 1, none⟩) := d100
          have d89 : f 89 = .bool true := d89
          refine Step2.live (show wantedBy _ (f 89) = true by rw [d89]; rfl) ?_
          obtain ⟨u0, u1, u2⟩ := hC.tok hx1.out hA
          have ev : ∀ t, evalOf f (.tmp t) = f t := fun _ => rfl
          have ec : ∀ c, evalOf f (.const c) = c := fun _ => rfl
          refine relUpon_value ?_ hC trivial rfl
          go_simp
         ·intro w L f hC hLi hLd hLn hF
          obtain ⟨d101, d89, _⟩ := hF
          have d101 : f 101 = .string (strV x1.t) := d101
          have d89 : f 89 = .bool true := d89
          refine Step2.live (show wantedBy _ (f 89) = true by rw [d89]; rfl) ?_
          obtain ⟨u0, u1, u2, u3, u4, u5, u6, u7, ufz⟩ := hC.facts
          have ev : ∀ t, evalOf f (.tmp t) = f t := fun _ => rfl
          have ec : ∀ c, evalOf f (.const c) = c := fun _ => rfl
          refine relUpon_value ?_ hC trivial rfl
          go_simp
         ·intro w L f hC hLi hLd hLn hF
          obtain ⟨d102, d89, _⟩ := hF
          have d102 : f 102 = .bool true := d102
          have d89 : f 89 = .bool true := d89
          refine Step2.live (show wantedBy _ (f 89) = true by rw [d89]; rfl) ?_
          exact relUpon_value (v := f 102) rfl (hC) (trivial) d102
         ·intro w L f hC hLi hLd hLn hF
          obtain ⟨d0, d103, _⟩ := hF
          have d103 : f 103 = .bool true := d103
          refine StepL2.dead (show wantedBy _ (f 103) = false by rw [d103]; rfl) (hC) ?_ (trivial)
          exact rfl
         ·intro w L f hC hLi hLd hLn hF
          obtain ⟨d104, d103, _⟩ := hF
          have d103 : f 103 = .bool true := d103
          refine StepL2.dead (show wantedBy _ (f 103) = false by rw [d103]; rfl) (hC) ?_ (trivial)
          exact rfl
         ·intro w L f hC hLi hLd hLn hF
          obtain ⟨d105, d103, _⟩ := hF
          have d103 : f 103 = .bool true := d103
          refine StepL2.dead (show wantedBy _ (f 103) = false by rw [d103]; rfl) (hC) ?_ (trivial)
          exact rfl
         ·intro w L f hC hLi hLd hLn hF
          obtain ⟨d106, d103, _⟩ := hF
          have d103 : f 103 = .bool true := d103
          refine StepL2.dead (show wantedBy _ (f 103) = false by rw [d103]; rfl) (hC) ?_ (trivial)
          exact rfl
         ·intro w L f hC hLi hLd hLn hF
          obtain ⟨d0, d103, _⟩ := hF
          have d103 : f 103 = .bool true := d103
          refine StepL2.dead (show wantedBy _ (f 103) = false by rw [d103]; rfl) (hC) ?_ (trivial)
          exact rfl
         ·intro w L f hC hLi hLd hLn hF
          obtain ⟨d108, d103, _⟩ := hF
          have d103 : f 103 = .bool true := d103
          refine StepL2.dead (show wantedBy _ (f 103) = false by rw [d103]; rfl) (hC) ?_ (trivial)
          exact rfl
         ·intro w L f hC hLi hLd hLn hF
          obtain ⟨d109, d103, _⟩ := hF
          have d103 : f 103 = .bool true := d103
          refine StepL2.dead (show wantedBy _ (f 103) = false by rw [d103]; rfl) (hC) ?_ (trivial)
          exact rfl
         ·intro w L f hC hLi hLd hLn hF
          obtain ⟨d110, d103, _⟩ := hF
          have d103 : f 103 = .bool true := d103
          refine StepL2.dead (show wantedBy _ (f 103) = false by rw [d103]; rfl) (hC) ?_ (trivial)
          exact rfl
         ·intro w L f hC hLi hLd hLn hF
          obtain ⟨d111, d103, _⟩ := hF
          have d103 : f 103 = .bool true := d103
          refine StepL2.dead (show wantedBy _ (f 103) = false by rw [d103]; rfl) (hC) ?_ (trivial)
          exact rfl
         ·intro w L f hC hLi hLd hLn hF
          obtain ⟨d107, d112, d103, _⟩ := hF
          have d103 : f 103 = .bool true := d103
          refine StepL2.dead (show wantedBy _ (f 103) = false by rw [d103]; rfl) (hC) ?_ (trivial)
          exact rfl
         ·intro w L f hC hLi hLd hLn hF
          obtain ⟨d113, d103, _⟩ := hF
          have d103 : f 103 = .bool true := d103
          refine StepL2.dead (show wantedBy _ (f 103) = false by rw [d103]; rfl) (hC) ?_ (trivial)
          exact rfl
         ·intro w L f hC hLi hLd hLn hF
          obtain ⟨d114, d103, _⟩ := hF
          have d103 : f 103 = .bool true := d103
          refine StepL2.dead (show wantedBy _ (f 103) = false by rw [d103]; rfl) (hC) ?_ (trivial)
          exact rfl
         ·intro w L f hC hLi hLd hLn hF
          obtain ⟨d115, d103, _⟩ := hF
          have d103 : f 103 = .bool true := d103
          refine StepL2.dead (show wantedBy _ (f 103) = false by rw [d103]; rfl) (hC) ?_ (trivial)
          exact rfl
         ·intro w L f hC hLi hLd hLn hF
          obtain ⟨d103, d116, d89, _⟩ := hF
          have d103 : f 103 = .bool true := d103
          have d116 : f 116 = undef := d116
          have d89 : f 89 = .bool true := d89
          refine Step2.live (show wantedBy _ (f 89) = true by rw [d89]; rfl) ?_
          obtain ⟨u0, u1, u2, u3, u4, u5, u6, u7, ufz⟩ := hC.facts
          have ev : ∀ t, evalOf f (.tmp t) = f t := fun _ => rfl
          have ec : ∀ c, evalOf f (.const c) = c := fun _ => rfl
          refine relUpon_value ?_ hC trivial rfl
          go_simp
         ·intro w L f hC hLi hLd hLn hF
          obtain ⟨d89, d117, _⟩ := hF
          have d89 : f 89 = .bool true := d89
          have d117 : f 117 = .bool true := d117
          refine Step2.live rfl ?_
          obtain ⟨u0, u1, u2, u3, u4, u5, u6, u7, ufz⟩ := hC.facts
          have ev : ∀ t, evalOf f (.tmp t) = f t := fun _ => rfl
          have ec : ∀ c, evalOf f (.const c) = c := fun _ => rfl
          refine relUpon_value ?_ hC trivial rfl
          go_simp
        intro x w' hC hV

        have e0 : x 59 = .bool nf := (hV 59 _ rfl rfl).trans (by rw [hN2.out])
        clear hV
        simp only [framed]
        rw [e0]
        have hC := Lib.hid hC
        go_wp2_with fail
        go_meet
        case rel => exact ⟨rfl, hC⟩
       case neg =>
        have k1 : ((strV x1.t).toList == [61, 61]) = false := by rw [strV_toList]; simpa using q1
        by_cases q3 : x1.t = [33, 61]
        case pos =>
         have k3 : ((strV x1.t).toList == [33, 61]) = true := by rw [strV_toList, q3]; rfl
         have hN2 : Hid (nf = true) := Lib.hid (by rw [hN, q3, q2]; rfl)
         clear hN q2 q1 q3
         refine wp_region_tabL ((fun _ _ v => v = .pointer (some ⟨Z.g, 0, none⟩)) ::
          (fun _ _ v => v = .bool true) ::
          (fun _ _ v => v = .bool true) ::
          (fun _ _ v => v = .pointer (some ⟨Z.g, 0, none⟩)) ::
          (fun _ _ v => v = .pointer (some ⟨Z.g, 0, none⟩)) ::
          (fun _ _ v => v = .pointer (some ⟨Z.g, 1, none⟩)) ::
          (fun _ _ v => v = .int .i64 ((s.i : Int))) ::
          (fun _ _ v => v = .int .i64 ((s.i : Int) + 2)) ::
          (fun _ _ v => v = .pointer (some ⟨Z.g, 0, none⟩)) ::
          (fun _ _ v => v = .pointer (some ⟨Z.g, 0, none⟩)) ::
          (fun _ _ v => v = .pointer (some ⟨Z.g, 0, none⟩)) ::
          (fun _ _ v => v = .slice (some ⟨b, off, none⟩) C.tk.length Z.c) ::
          (fun _ _ v => v = .int .i64 ((C.tk.length : Int))) ::
          (fun _ _ v => v = .bool true) ::
          (fun _ _ v => v = .bool true) ::
          (fun _ _ v => v = .bool true) ::
          (fun _ _ v => v = .pointer (some ⟨Z.g, 0, none⟩)) ::
          (fun _ _ v => v = .pointer (some ⟨Z.g, 0, none⟩)) ::
          (fun _ _ v => v = .pointer (some ⟨Z.g, 0, none⟩)) ::
          (fun _ _ v => v = .slice (some ⟨b, off, none⟩) C.tk.length Z.c) ::
          (fun _ _ v => v = .pointer (some ⟨Z.g, 0, none⟩)) ::
          (fun _ _ v => v = .pointer (some ⟨Z.g, 0, none⟩)) ::
          (fun _ _ v => v = .pointer (some ⟨Z.g, 1, none⟩)) ::
          (fun _ _ v => v = .int .i64 ((s.i : Int))) ::
          (fun _ _ v => v = .int .i64 ((s.i : Int) + 2)) ::
          (fun _ _ v => v = .pointer (some ⟨b, off + (s.i + 2) * 3, none⟩)) ::
          (fun _ _ v => v = .pointer (some ⟨b, off + (s.i + 2) * 3 + 1, none⟩)) ::
          (fun _ _ v => v = .string (strV x2.t)) ::
          (fun _ _ v => v = .bool true) ::
          (fun _ _ v => v = .bool true) ::
          (fun _ _ v => v = .bool true) ::
          (fun _ _ v => v = .pointer (some ⟨Z.g, 0, none⟩)) ::
          (fun _ _ v => v = .pointer (some ⟨Z.g, 0, none⟩)) ::
          (fun _ _ v => v = .pointer (some ⟨Z.g, 0, none⟩)) ::
          (fun _ _ v => v = .slice (some ⟨b, off, none⟩) C.tk.length Z.c) ::
          (fun _ _ v => v = .pointer (some ⟨Z.g, 0, none⟩)) ::
          (fun _ _ v => v = .pointer (some ⟨Z.g, 0, none⟩)) ::
          (fun _ _ v => v = .pointer (some ⟨Z.g, 1, none⟩)) ::
          (fun _ _ v => v = .int .i64 ((s.i : Int))) ::
          (fun _ _ v => v = .int .i64 ((s.i : Int) + 1)) ::
          (fun _ _ v => v = .pointer (some ⟨b, off + (s.i + 1) * 3, none⟩)) ::
          (fun _ _ v => v = .pointer (some ⟨b, off + (s.i + 1) * 3 + 1, none⟩)) ::
          (fun _ _ v => v = .string (strV x1.t)) ::
          (fun _ _ v => v = .bool false) ::
          (fun _ _ v => v = .bool false) ::
          (fun _ _ v => v = .pointer (some ⟨Z.g, 0, none⟩)) ::
          (fun _ _ v => v = .pointer (some ⟨Z.g, 0, none⟩)) ::
          (fun _ _ v => v = .pointer (some ⟨Z.g, 0, none⟩)) ::
          (fun _ _ v => v = .slice (some ⟨b, off, none⟩) C.tk.length Z.c) ::
          (fun _ _ v => v = .pointer (some ⟨Z.g, 0, none⟩)) ::
          (fun _ _ v => v = .pointer (some ⟨Z.g, 0, none⟩)) ::
          (fun _ _ v => v = .pointer (some ⟨Z.g, 1, none⟩)) ::
          (fun _ _ v => v = .int .i64 ((s.i : Int))) ::
          (fun _ _ v => v = .int .i64 ((s.i : Int) + 1)) ::
          (fun _ _ v => v = .pointer (some ⟨b, off + (s.i + 1) * 3, none⟩)) ::
          (fun _ _ v => v = .pointer (some ⟨b, off + (s.i + 1) * 3 + 1, none⟩)) ::
          (fun _ _ v => v = .string (strV x1.t)) ::
          (fun _ _ v => v = .bool true) ::
          (fun _ _ v => v = .bool true) ::
          (fun _ _ v => v = .bool true) :: [])
          (⟨[(0, none)], 0, []⟩ :: ⟨[(59, some 0)], 0, []⟩ :: ⟨[(60, some 1)], 0, []⟩ :: ⟨[(0, none), (61, some 2)], 61, []⟩ :: ⟨[(62, some 3), (61, some 2)], 61, []⟩ :: ⟨[(63, some 4), (61, some 2)], 61, []⟩ :: ⟨[(64, some 5), (61, some 2)], 61, []⟩ :: ⟨[(65, some 6), (61, some 2)], 61, []⟩ :: ⟨[(0, none), (61, some 2)], 61, []⟩ :: ⟨[(67, some 8), (61, some 2)], 61, []⟩ :: ⟨[(68, some 9), (61, some 2)], 61, []⟩ :: ⟨[(69, some 10), (61, some 2)], 61, []⟩ :: ⟨[(70, some 11), (61, some 2)], 61, []⟩ :: ⟨[(66, some 7), (71, some 12), (61, some 2)], 61, []⟩ :: ⟨[(61, some 2), (72, some 13)], 0, []⟩ :: ⟨[(73, some 14)], 0, []⟩ :: ⟨[(0, none), (74, some 15)], 74, []⟩ :: ⟨[(75, some 16), (74, some 15)], 74, []⟩ :: ⟨[(76, some 17), (74, some 15)], 74, []⟩ :: ⟨[(77, some 18), (74, some 15)], 74, []⟩ :: ⟨[(0, none), (74, some 15)], 74, []⟩ :: ⟨[(79, some 20), (74, some 15)], 74, []⟩ :: ⟨[(80, some 21), (74, some 15)], 74, []⟩ :: ⟨[(81, some 22), (74, some 15)], 74, []⟩ :: ⟨[(82, some 23), (74, some 15)], 74, []⟩ :: ⟨[(78, some 19), (83, some 24), (74, some 15)], 74, []⟩ :: ⟨[(84, some 25), (74, some 15)], 74, []⟩ :: ⟨[(85, some 26), (74, some 15)], 74, []⟩ :: ⟨[(86, some 27), (74, some 15)], 74, []⟩ :: ⟨[(74, some 15), (87, some 28)], 0, []⟩ :: ⟨[(88, some 29)], 0, []⟩ :: ⟨[(0, none), (89, some 30)], 89, []⟩ :: ⟨[(90, some 31), (89, some 30)], 89, []⟩ :: ⟨[(91, some 32), (89, some 30)], 89, []⟩ :: ⟨[(92, some 33), (89, some 30)], 89, []⟩ :: ⟨[(0, none), (89, some 30)], 89, []⟩ :: ⟨[(94, some 35), (89, some 30)], 89, []⟩ :: ⟨[(95, some 36), (89, some 30)], 89, []⟩ :: ⟨[(96, some 37), (89, some 30)], 89, []⟩ :: ⟨[(97, some 38), (89, some 30)], 89, []⟩ :: ⟨[(93, some 34), (98, some 39), (89, some 30)], 89, []⟩ :: ⟨[(99, some 40), (89, some 30)], 89, []⟩ :: ⟨[(100, some 41), (89, some 30)], 89, []⟩ :: ⟨[(101, some 42), (89, some 30)], 89, []⟩ :: ⟨[(102, some 43), (89, some 30)], 89, []⟩ :: ⟨[(0, none), (103, some 44)], 103, []⟩ :: ⟨[(104, some 45), (103, some 44)], 103, []⟩ :: ⟨[(105, some 46), (103, some 44)], 103, []⟩ :: ⟨[(106, some 47), (103, some 44)], 103, []⟩ :: ⟨[(0, none), (103, some 44)], 103, []⟩ :: ⟨[(108, some 49), (103, some 44)], 103, []⟩ :: ⟨[(109, some 50), (103, some 44)], 103, []⟩ :: ⟨[(110, some 51), (103, some 44)], 103, []⟩ :: ⟨[(111, some 52), (103, some 44)], 103, []⟩ :: ⟨[(107, some 48), (112, some 53), (103, some 44)], 103, []⟩ :: ⟨[(113, some 54), (103, some 44)], 103, []⟩ :: ⟨[(114, some 55), (103, some 44)], 103, []⟩ :: ⟨[(115, some 56), (103, some 44)], 103, []⟩ :: ⟨[(103, some 44), (116, some 57), (89, some 30)], 89, []⟩ :: ⟨[(89, some 30), (117, some 58)], 0, []⟩ :: [])
          (none :: none :: none :: none :: none :: none :: none :: none :: none :: none :: none :: none :: none :: none :: none :: none :: none :: none :: none :: none :: none :: none :: none :: none :: none :: none :: none :: none :: none :: none :: none :: none :: none :: none :: none :: none :: none :: none :: none :: none :: none :: none :: none :: none :: none :: none :: none :: none :: none :: none :: none :: none :: none :: none :: none :: none :: none :: none :: none :: some 0 :: some 1 :: some 2 :: some 3 :: some 4 :: some 5 :: some 6 :: some 7 :: some 8 :: some 9 :: some 10 :: some 11 :: some 12 :: some 13 :: some 14 :: some 15 :: some 16 :: some 17 :: some 18 :: some 19 :: some 20 :: some 21 :: some 22 :: some 23 :: some 24 :: some 25 :: some 26 :: some 27 :: some 28 :: some 29 :: some 30 :: some 31 :: some 32 :: some 33 :: some 34 :: some 35 :: some 36 :: some 37 :: some 38 :: some 39 :: some 40 :: some 41 :: some 42 :: some 43 :: some 44 :: some 45 :: some 46 :: some 47 :: some 48 :: some 49 :: some 50 :: some 51 :: some 52 :: some 53 :: some 54 :: some 55 :: some 56 :: some 57 :: some 58 :: some 59 :: [])
          (fun _ w' => Moved C Z s w w') (fun _ _ _ => True) ?mixK16tttft ?okK16tttft ?tabK16tttft ?frK16tttft ?inK16tttft ?keptK16tttft ?startK16tttft ?eachK16tttft ?finK16tttft
         case mixK16tttft => kernel_rfl
         case okK16tttft => kernel_rfl
         case tabK16tttft => kernel_rfl
         case frK16tttft => kernel_rfl
         case inK16tttft => rfl
         case keptK16tttft => exact ⟨fun _ _ _ _ _ _ _ _ _ _ _ h => h, fun _ _ _ _ _ _ _ _ _ _ _ h => h, fun _ _ _ _ _ _ _ _ _ _ _ h => h, fun _ _ _ _ _ _ _ _ _ _ _ h => h, fun _ _ _ _ _ _ _ _ _ _ _ h => h, fun _ _ _ _ _ _ _ _ _ _ _ h => h, fun _ _ _ _ _ _ _ _ _ _ _ h => h, fun _ _ _ _ _ _ _ _ _ _ _ h => h, fun _ _ _ _ _ _ _ _ _ _ _ h => h, fun _ _ _ _ _ _ _ _ _ _ _ h => h, fun _ _ _ _ _ _ _ _ _ _ _ h => h, fun _ _ _ _ _ _ _ _ _ _ _ h => h, fun _ _ _ _ _ _ _ _ _ _ _ h => h, fun _ _ _ _ _ _ _ _ _ _ _ h => h, fun _ _ _ _ _ _ _ _ _ _ _ h => h, fun _ _ _ _ _ _ _ _ _ _ _ h => h, fun _ _ _ _ _ _ _ _ _ _ _ h => h, fun _ _ _ _ _ _ _ _ _ _ _ h => h, fun _ _ _ _ _ _ _ _ _ _ _ h => h, fun _ _ _ _ _ _ _ _ _ _ _ h => h, fun _ _ _ _ _ _ _ _ _ _ _ h => h, fun _ _ _ _ _ _ _ _ _ _ _ h => h, fun _ _ _ _ _ _ _ _ _ _ _ h => h, fun _ _ _ _ _ _ _ _ _ _ _ h => h, fun _ _ _ _ _ _ _ _ _ _ _ h => h, fun _ _ _ _ _ _ _ _ _ _ _ h => h, fun _ _ _ _ _ _ _ _ _ _ _ h => h, fun _ _ _ _ _ _ _ _ _ _ _ h => h, fun _ _ _ _ _ _ _ _ _ _ _ h => h, fun _ _ _ _ _ _ _ _ _ _ _ h => h, fun _ _ _ _ _ _ _ _ _ _ _ h => h, fun _ _ _ _ _ _ _ _ _ _ _ h => h, fun _ _ _ _ _ _ _ _ _ _ _ h => h, fun _ _ _ _ _ _ _ _ _ _ _ h => h, fun _ _ _ _ _ _ _ _ _ _ _ h => h, fun _ _ _ _ _ _ _ _ _ _ _ h => h, fun _ _ _ _ _ _ _ _ _ _ _ h => h, fun _ _ _ _ _ _ _ _ _ _ _ h => h, fun _ _ _ _ _ _ _ _ _ _ _ h => h, fun _ _ _ _ _ _ _ _ _ _ _ h => h, fun _ _ _ _ _ _ _ _ _ _ _ h => h, fun _ _ _ _ _ _ _ _ _ _ _ h => h, fun _ _ _ _ _ _ _ _ _ _ _ h => h, fun _ _ _ _ _ _ _ _ _ _ _ h => h, fun _ _ _ _ _ _ _ _ _ _ _ h => h, fun _ _ _ _ _ _ _ _ _ _ _ h => h, fun _ _ _ _ _ _ _ _ _ _ _ h => h, fun _ _ _ _ _ _ _ _ _ _ _ h => h, fun _ _ _ _ _ _ _ _ _ _ _ h => h, fun _ _ _ _ _ _ _ _ _ _ _ h => h, fun _ _ _ _ _ _ _ _ _ _ _ h => h, fun _ _ _ _ _ _ _ _ _ _ _ h => h, fun _ _ _ _ _ _ _ _ _ _ _ h => h, fun _ _ _ _ _ _ _ _ _ _ _ h => h, fun _ _ _ _ _ _ _ _ _ _ _ h => h, fun _ _ _ _ _ _ _ _ _ _ _ h => h, fun _ _ _ _ _ _ _ _ _ _ _ h => h, fun _ _ _ _ _ _ _ _ _ _ _ h => h, fun _ _ _ _ _ _ _ _ _ _ _ h => h, fun _ _ _ _ _ _ _ _ _ _ _ h => h, trivial⟩
         case startK16tttft => exact hgo.out.below (Below.refl _ _).drew
         case eachK16tttft =>
          refine ⟨?_, ?_, ?_, ?_, ?_, ?_, ?_, ?_, ?_, ?_, ?_, ?_, ?_, ?_, ?_, ?_, ?_, ?_, ?_, ?_, ?_, ?_, ?_, ?_, ?_, ?_, ?_, ?_, ?_, ?_, ?_, ?_, ?_, ?_, ?_, ?_, ?_, ?_, ?_, ?_, ?_, ?_, ?_, ?_, ?_, ?_, ?_, ?_, ?_, ?_, ?_, ?_, ?_, ?_, ?_, ?_, ?_, ?_, ?_, ?_, trivial⟩
          ·intro w L f hC hLi hLd hLn hF
           obtain ⟨d0, _⟩ := hF
           have d0 : f 0 = .pointer (some ⟨Z.g, 0, none⟩) := d0
           refine Step2.live rfl ?_
           exact relUpon_value (v := f 0) rfl (hC) (trivial) d0
          ·intro w L f hC hLi hLd hLn hF
           obtain ⟨d59, _⟩ := hF
           have d59 : f 59 = .pointer (some ⟨Z.g, 0, none⟩) := d59
           refine Step2.live rfl ?_
           have ev : ∀ t, evalOf f (.tmp t) = f t := fun _ => rfl
           have ec : ∀ c, evalOf f (.const c) = c := fun _ => rfl
           have ef : ∀ g, evalOf f (.func g) = .func (.func g) #[] #[] := fun _ => rfl
           refine relUpon_call (f := 41) (args := #[.pointer (some ⟨Z.g, 0, none⟩)]) (w := w) (by go_simp) (named_from hC hn.out) ?_
           rintro e w1 ⟨he, h1, -⟩
           exact ⟨_, he, h1, trivial, rfl⟩
          ·intro w L f hC hLi hLd hLn hF
           obtain ⟨d60, _⟩ := hF
           have d60 : f 60 = .bool true := d60
           refine Step2.live rfl ?_
           exact relUpon_value (v := f 60) rfl (hC) (trivial) d60
          ·intro w L f hC hLi hLd hLn hF
           obtain ⟨d0, d61, _⟩ := hF
           have d0 : f 0 = .pointer (some ⟨Z.g, 0, none⟩) := d0
           have d61 : f 61 = .bool true := d61
           refine Step2.live (show wantedBy _ (f 61) = true by rw [d61]; rfl) ?_
           exact relUpon_value (v := f 0) rfl (hC) (trivial) d0
          ·intro w L f hC hLi hLd hLn hF
           obtain ⟨d62, d61, _⟩ := hF
           have d62 : f 62 = .pointer (some ⟨Z.g, 0, none⟩) := d62
           have d61 : f 61 = .bool true := d61
           refine Step2.live (show wantedBy _ (f 61) = true by rw [d61]; rfl) ?_
           obtain ⟨u0, u1, u2, u3, u4, u5, u6, u7, ufz⟩ := hC.facts
           have ev : ∀ t, evalOf f (.tmp t) = f t := fun _ => rfl
           have ec : ∀ c, evalOf f (.const c) = c := fun _ => rfl
           refine relUpon_value ?_ hC trivial rfl
           go_simp
          ·intro w L f hC hLi hLd hLn hF
           obtain ⟨d63, d61, _⟩ := hF
           have d63 : f 63 = .pointer (some ⟨Z.g, 0, none⟩) := d63
           have d61 : f 61 = .bool true := d61
           refine Step2.live (show wantedBy _ (f 61) = true by rw [d61]; rfl) ?_
           obtain ⟨u0, u1, u2, u3, u4, u5, u6, u7, ufz⟩ := hC.facts
           have ev : ∀ t, evalOf f (.tmp t) = f t := fun _ => rfl
           have ec : ∀ c, evalOf f (.const c) = c := fun _ => rfl
           refine relUpon_value ?_ hC trivial rfl
           go_simp
          ·intro w L f hC hLi hLd hLn hF
           obtain ⟨d64, d61, _⟩ := hF
           have d64 : f 64 = .pointer (some ⟨Z.g, 1, none⟩) := d64
           have d61 : f 61 = .bool true := d61
           refine Step2.live (show wantedBy _ (f 61) = true by rw [d61]; rfl) ?_
           obtain ⟨u0, u1, u2, u3, u4, u5, u6, u7, ufz⟩ := hC.facts
           have ev : ∀ t, evalOf f (.tmp t) = f t := fun _ => rfl
           have ec : ∀ c, evalOf f (.const c) = c := fun _ => rfl
           refine relUpon_value ?_ hC trivial rfl
           go_simp
          ·intro w L f hC hLi hLd hLn hF
           obtain ⟨d65, d61, _⟩ := hF
           have d65 : f 65 = .int .i64 ((s.i : Int)) := d65
           have d61 : f 61 = .bool true := d61
           refine Step2.live (show wantedBy _ (f 61) = true by rw [d61]; rfl) ?_
           obtain ⟨u0, u1, u2, u3, u4, u5, u6, u7, ufz⟩ := hC.facts
           have ev : ∀ t, evalOf f (.tmp t) = f t := fun _ => rfl
           have ec : ∀ c, evalOf f (.const c) = c := fun _ => rfl
           refine relUpon_value ?_ hC trivial rfl
           go_simp
          ·intro w L f hC hLi hLd hLn hF
           obtain ⟨d0, d61, _⟩ := hF
           have d0 : f 0 = .pointer (some ⟨Z.g, 0, none⟩) := d0
           have d61 : f 61 = .bool true := d61
           refine Step2.live (show wantedBy _ (f 61) = true by rw [d61]; rfl) ?_
           exact relUpon_value (v := f 0) rfl (hC) (trivial) d0
          ·intro w L f hC hLi hLd hLn hF
           obtain ⟨d67, d61, _⟩ := hF
           have d67 : f 67 = .pointer (some ⟨Z.g, 0, none⟩) := d67
           have d61 : f 61 = .bool true := d61
           refine Step2.live (show wantedBy _ (f 61) = true by rw [d61]; rfl) ?_
           obtain ⟨u0, u1, u2, u3, u4, u5, u6, u7, ufz⟩ := hC.facts
           have ev : ∀ t, evalOf f (.tmp t) = f t := fun _ => rfl
           have ec : ∀ c, evalOf f (.const c) = c := fun _ => rfl
           refine relUpon_value ?_ hC trivial rfl
           go_simp
          ·intro w L f hC hLi hLd hLn hF
           obtain ⟨d68, d61, _⟩ := hF
           have d68 : f 68 = .pointer (some ⟨Z.g, 0, none⟩) := d68
           have d61 : f 61 = .bool true := d61
           refine Step2.live (show wantedBy _ (f 61) = true by rw [d61]; rfl) ?_
           obtain ⟨u0, u1, u2, u3, u4, u5, u6, u7, ufz⟩ := hC.facts
           have ev : ∀ t, evalOf f (.tmp t) = f t := fun _ => rfl
           have ec : ∀ c, evalOf f (.const c) = c := fun _ => rfl
           refine relUpon_value ?_ hC trivial rfl
           go_simp
          ·intro w L f hC hLi hLd hLn hF
           obtain ⟨d69, d61, _⟩ := hF
           have d69 : f 69 = .pointer (some ⟨Z.g, 0, none⟩) := d69
           have d61 : f 61 = .bool true := d61
           refine Step2.live (show wantedBy _ (f 61) = true by rw [d61]; rfl) ?_
           obtain ⟨u0, u1, u2, u3, u4, u5, u6, u7, ufz⟩ := hC.facts
           have ev : ∀ t, evalOf f (.tmp t) = f t := fun _ => rfl
           have ec : ∀ c, evalOf f (.const c) = c := fun _ => rfl
           refine relUpon_value ?_ hC trivial rfl
           go_simp
          ·intro w L f hC hLi hLd hLn hF
           obtain ⟨d70, d61, _⟩ := hF
           have d70 : f 70 = .slice (some ⟨b, off, none⟩) C.tk.length Z.c := d70
           have d61 : f 61 = .bool true := d61
           refine Step2.live (show wantedBy _ (f 61) = true by rw [d61]; rfl) ?_
           obtain ⟨u0, u1, u2, u3, u4, u5, u6, u7, ufz⟩ := hC.facts
           have ev : ∀ t, evalOf f (.tmp t) = f t := fun _ => rfl
           have ec : ∀ c, evalOf f (.const c) = c := fun _ => rfl
           refine relUpon_value ?_ hC trivial rfl
           go_simp
          ·intro w L f hC hLi hLd hLn hF
           obtain ⟨d66, d71, d61, _⟩ := hF
           have d66 : f 66 = .int .i64 ((s.i : Int) + 2) := d66
           have d71 : f 71 = .int .i64 ((C.tk.length : Int)) := d71
           have d61 : f 61 = .bool true := d61
           refine Step2.live (show wantedBy _ (f 61) = true by rw [d61]; rfl) ?_
           obtain ⟨u0, u1, u2, u3, u4, u5, u6, u7, ufz⟩ := hC.facts
           have ev : ∀ t, evalOf f (.tmp t) = f t := fun _ => rfl
           have ec : ∀ c, evalOf f (.const c) = c := fun _ => rfl
           refine relUpon_value ?_ hC trivial rfl
           go_simp
          ·intro w L f hC hLi hLd hLn hF
           obtain ⟨d61, d72, _⟩ := hF
           have d61 : f 61 = .bool true := d61
           have d72 : f 72 = .bool true := d72
           refine Step2.live rfl ?_
           obtain ⟨u0, u1, u2, u3, u4, u5, u6, u7, ufz⟩ := hC.facts
           have ev : ∀ t, evalOf f (.tmp t) = f t := fun _ => rfl
           have ec : ∀ c, evalOf f (.const c) = c := fun _ => rfl
           refine relUpon_value ?_ hC trivial rfl
           go_simp
          ·intro w L f hC hLi hLd hLn hF
           obtain ⟨d73, _⟩ := hF
           have d73 : f 73 = .bool true := d73
           refine Step2.live rfl ?_
           exact relUpon_value (v := f 73) rfl (hC) (trivial) d73
          ·intro w L f hC hLi hLd hLn hF
           obtain ⟨d0, d74, _⟩ := hF
           have d0 : f 0 = .pointer (some ⟨Z.g, 0, none⟩) := d0
           have d74 : f 74 = .bool true := d74
           refine Step2.live (show wantedBy _ (f 74) = true by rw [d74]; rfl) ?_
           exact relUpon_value (v := f 0) rfl (hC) (trivial) d0
          ·intro w L f hC hLi hLd hLn hF
           obtain ⟨d75, d74, _⟩ := hF
           have d75 : f 75 = .pointer (some ⟨Z.g, 0, none⟩) := d75
           have d74 : f 74 = .bool true := d74
           refine Step2.live (show wantedBy _ (f 74) = true by rw [d74]; rfl) ?_
           obtain ⟨u0, u1, u2, u3, u4, u5, u6, u7, ufz⟩ := hC.facts
           have ev : ∀ t, evalOf f (.tmp t) = f t := fun _ => rfl
           have ec : ∀ c, evalOf f (.const c) = c := fun _ => rfl
           refine relUpon_value ?_ hC trivial rfl
           go_simp
          ·intro w L f hC hLi hLd hLn hF
           obtain ⟨d76, d74, _⟩ := hF
           have d76 : f 76 = .pointer (some ⟨Z.g, 0, none⟩) := d76
           have d74 : f 74 = .bool true := d74
           refine Step2.live (show wantedBy _ (f 74) = true by rw [d74]; rfl) ?_
           obtain ⟨u0, u1, u2, u3, u4, u5, u6, u7, ufz⟩ := hC.facts
           have ev : ∀ t, evalOf f (.tmp t) = f t := fun _ => rfl
           have ec : ∀ c, evalOf f (.const c) = c := fun _ => rfl
           refine relUpon_value ?_ hC trivial rfl
           go_simp
          ·intro w L f hC hLi hLd hLn hF
           obtain ⟨d77, d74, _⟩ := hF
           have d77 : f 77 = .pointer (some ⟨Z.g, 0, none⟩) := d77
           have d74 : f 74 = .bool true := d74
           refine Step2.live (show wantedBy _ (f 74) = true by rw [d74]; rfl) ?_
           obtain ⟨u0, u1, u2, u3, u4, u5, u6, u7, ufz⟩ := hC.facts
           have ev : ∀ t, evalOf f (.tmp t) = f t := fun _ => rfl
           have ec : ∀ c, evalOf f (.const c) = c := fun _ => rfl
           refine relUpon_value ?_ hC trivial rfl
           go_simp
          ·intro w L f hC hLi hLd hLn hF
           obtain ⟨d0, d74, _⟩ := hF
           have d0 : f 0 = .pointer (some ⟨Z.g, 0, none⟩) := d0
           have d74 : f 74 = .bool true := d74
           refine Step2.live (show wantedBy _ (f 74) = true by rw [d74]; rfl) ?_
           exact relUpon_value (v := f 0) rfl (hC) (trivial) d0
          ·intro w L f hC hLi hLd hLn hF
           obtain ⟨d79, d74, _⟩ := hF
           have d79 : f 79 = .pointer (some ⟨Z.g, 0, none⟩) := d79
           have d74 : f 74 = .bool true := d74
           refine Step2.live (show wantedBy _ (f 74) = true by rw [d74]; rfl) ?_
           obtain ⟨u0, u1, u2, u3, u4, u5, u6, u7, ufz⟩ := hC.facts
           have ev : ∀ t, evalOf f (.tmp t) = f t := fun _ => rfl
           have ec : ∀ c, evalOf f (.const c) = c := fun _ => rfl
           refine relUpon_value ?_ hC trivial rfl
           go_simp
          ·intro w L f hC hLi hLd hLn hF
           obtain ⟨d80, d74, _⟩ := hF
           have d80 : f 80 = .pointer (some ⟨Z.g, 0, none⟩) := d80
           have d74 : f 74 = .bool true := d74
           refine Step2.live (show wantedBy _ (f 74) = true by rw [d74]; rfl) ?_
           obtain ⟨u0, u1, u2, u3, u4, u5, u6, u7, ufz⟩ := hC.facts
           have ev : ∀ t, evalOf f (.tmp t) = f t := fun _ => rfl
           have ec : ∀ c, evalOf f (.const c) = c := fun _ => rfl
           refine relUpon_value ?_ hC trivial rfl
           go_simp
          ·intro w L f hC hLi hLd hLn hF
           obtain ⟨d81, d74, _⟩ := hF
           have d81 : f 81 = .pointer (some ⟨Z.g, 1, none⟩) := d81
           have d74 : f 74 = .bool true := d74
           refine Step2.live (show wantedBy _ (f 74) = true by rw [d74]; rfl) ?_
           obtain ⟨u0, u1, u2, u3, u4, u5, u6, u7, ufz⟩ := hC.facts
           have ev : ∀ t, evalOf f (.tmp t) = f t := fun _ => rfl
           have ec : ∀ c, evalOf f (.const c) = c := fun _ => rfl
           refine relUpon_value ?_ hC trivial rfl
           go_simp
          ·intro w L f hC hLi hLd hLn hF
           obtain ⟨d82, d74, _⟩ := hF
           have d82 : f 82 = .int .i64 ((s.i : Int)) := d82
           have d74 : f 74 = .bool true := d74
           refine Step2.live (show wantedBy _ (f 74) = true by rw [d74]; rfl) ?_
           obtain ⟨u0, u1, u2, u3, u4, u5, u6, u7, ufz⟩ := hC.facts
           have ev : ∀ t, evalOf f (.tmp t) = f t := fun _ => rfl
           have ec : ∀ c, evalOf f (.const c) = c := fun _ => rfl
           refine relUpon_value ?_ hC trivial rfl
           go_simp
          ·intro w L f hC hLi hLd hLn hF
           obtain ⟨d78, d83, d74, _⟩ := hF
           have d78 : f 78 = .slice (some ⟨b, off, none⟩) C.tk.length Z.c := d78
           have d83 : f 83 = .int .i64 ((s.i : Int) + 2) := d83
           have d74 : f 74 = .bool true := d74
           refine Step2.live (show wantedBy _ (f 74) = true by rw [d74]; rfl) ?_
           obtain ⟨u0, u1, u2, u3, u4, u5, u6, u7, ufz⟩ := hC.facts
           have ev : ∀ t, evalOf f (.tmp t) = f t := fun _ => rfl
           have ec : ∀ c, evalOf f (.const c) = c := fun _ => rfl
           refine relUpon_value ?_ hC trivial rfl
           go_simp
          ·intro w L f hC hLi hLd hLn hF
           obtain ⟨d84, d74, _⟩ := hF
           have d84 : f 84 = .pointer (some ⟨b, off + (s.i + 2) * 3, none⟩) := d84
           have d74 : f 74 = .bool true := d74
           refine Step2.live (show wantedBy _ (f 74) = true by rw [d74]; rfl) ?_
           obtain ⟨u0, u1, u2, u3, u4, u5, u6, u7, ufz⟩ := hC.facts
           have ev : ∀ t, evalOf f (.tmp t) = f t := fun _ => rfl
           have ec : ∀ c, evalOf f (.const c) = c := fun _ => rfl
           refine relUpon_value ?_ hC trivial rfl
           go_simp
          ·intro w L f hC hLi hLd hLn hF
           obtain ⟨d85, d74, _⟩ := hF
           have d85 : f 85 = .pointer (some ⟨b, off + (s.i + 2) * 3 + 1, none⟩) := d85
           have d74 : f 74 = .bool true := d74
           refine Step2.live (show wantedBy _ (f 74) = true by rw [d74]; rfl) ?_
           obtain ⟨u0, u1, u2⟩ := hC.tok hx2.out hA
           have ev : ∀ t, evalOf f (.tmp t) = f t := fun _ => rfl
           have ec : ∀ c, evalOf f (.const c) = c := fun _ => rfl
           refine relUpon_value ?_ hC trivial rfl
           go_simp
          ·intro w L f hC hLi hLd hLn hF
           obtain ⟨d86, d74, _⟩ := hF
           have d86 : f 86 = .string (strV x2.t) := d86
           have d74 : f 74 = .bool true := d74
           refine Step2.live (show wantedBy _ (f 74) = true by rw [d74]; rfl) ?_
           obtain ⟨u0, u1, u2, u3, u4, u5, u6, u7, ufz⟩ := hC.facts
           have ev : ∀ t, evalOf f (.tmp t) = f t := fun _ => rfl
           have ec : ∀ c, evalOf f (.const c) = c := fun _ => rfl
           refine relUpon_value ?_ hC trivial rfl
           go_simp
          ·intro w L f hC hLi hLd hLn hF
           obtain ⟨d74, d87, _⟩ := hF
           have d74 : f 74 = .bool true := d74
           have d87 : f 87 = .bool true := d87
           refine Step2.live rfl ?_
           obtain ⟨u0, u1, u2, u3, u4, u5, u6, u7, ufz⟩ := hC.facts
           have ev : ∀ t, evalOf f (.tmp t) = f t := fun _ => rfl
           have ec : ∀ c, evalOf f (.const c) = c := fun _ => rfl
           refine relUpon_value ?_ hC trivial rfl
           go_simp
          ·intro w L f hC hLi hLd hLn hF
           obtain ⟨d88, _⟩ := hF
           have d88 : f 88 = .bool true := d88
           refine Step2.live rfl ?_
           exact relUpon_value (v := f 88) rfl (hC) (trivial) d88
          ·intro w L f hC hLi hLd hLn hF
           obtain ⟨d0, d89, _⟩ := hF
           have d0 : f 0 = .pointer (some ⟨Z.g, 0, none⟩) := d0
           have d89 : f 89 = .bool true := d89
           refine Step2.live (show wantedBy _ (f 89) = true by rw [d89]; rfl) ?_
           exact relUpon_value (v := f 0) rfl (hC) (trivial) d0
          ·intro w L f hC hLi hLd hLn hF
           obtain ⟨d90, d89, _⟩ := hF
           have d90 : f 90 = .pointer (some ⟨Z.g, 0, none⟩) := d90
           have d89 : f 89 = .bool true := d89
           refine Step2.live (show wantedBy _ (f 89) = true by rw [d89]; rfl) ?_
           obtain ⟨u0, u1, u2, u3, u4, u5, u6, u7, ufz⟩ := hC.facts
           have ev : ∀ t, evalOf f (.tmp t) = f t := fun _ => rfl
           have ec : ∀ c, evalOf f (.const c) = c := fun _ => rfl
           refine relUpon_value ?_ hC trivial rfl
           go_simp
          ·intro w L f hC hLi hLd hLn hF
           obtain ⟨d91, d89, _⟩ := hF
           have d91 : f 91 = .pointer (some ⟨Z.g, 0, none⟩) := d91
           have d89 : f 89 = .bool true := d89
           refine Step2.live (show wantedBy _ (f 89) = true by rw [d89]; rfl) ?_
           obtain ⟨u0, u1, u2, u3, u4, u5, u6, u7, ufz⟩ := hC.facts
           have ev : ∀ t, evalOf f (.tmp t) = f t := fun _ => rfl
           have ec : ∀ c, evalOf f (.const c) = c := fun _ => rfl
           refine relUpon_value ?_ hC trivial rfl
           go_simp
          ·intro w L f hC hLi hLd hLn hF
           obtain ⟨d92, d89, _⟩ := hF
           have d92 : f 92 = .pointer (some ⟨Z.g, 0, none⟩) := d92
           have d89 : f 89 = .bool true := d89
           refine Step2.live (show wantedBy _ (f 89) = true by rw [d89]; rfl) ?_
           obtain ⟨u0, u1, u2, u3, u4, u5, u6, u7, ufz⟩ := hC.facts
           have ev : ∀ t, evalOf f (.tmp t) = f t := fun _ => rfl
           have ec : ∀ c, evalOf f (.const c) = c := fun _ => rfl
           refine relUpon_value ?_ hC trivial rfl
           go_simp
          ·intro w L f hC hLi hLd hLn hF
           obtain ⟨d0, d89, _⟩ := hF
           have d0 : f 0 = .pointer (some ⟨Z.g, 0, none⟩) := d0
           have d89 : f 89 = .bool true := d89
           refine Step2.live (show wantedBy _ (f 89) = true by rw [d89]; rfl) ?_
           exact relUpon_value (v := f 0) rfl (hC) (trivial) d0
          ·intro w L f hC hLi hLd hLn hF
           obtain ⟨d94, d89, _⟩ := hF
           have d94 : f 94 = .pointer (some ⟨Z.g, 0, none⟩) := d94
           have d89 : f 89 = .bool true := d89
           refine Step2.live (show wantedBy _ (f 89) = true by rw [d89]; rfl) ?_
           obtain ⟨u0, u1, u2, u3, u4, u5, u6, u7, ufz⟩ := hC.facts
           have ev : ∀ t, evalOf f (.tmp t) = f t := fun _ => rfl
           have ec : ∀ c, evalOf f (.const c) = c := fun _ => rfl
           refine relUpon_value ?_ hC trivial rfl
           go_simp
          ·intro w L f hC hLi hLd hLn hF
           obtain ⟨d95, d89, _⟩ := hF
           have d95 : f 95 = .pointer (some ⟨Z.g, 0, none⟩) := d95
           have d89 : f 89 = .bool true := d89
           refine Step2.live (show wantedBy _ (f 89) = true by rw [d89]; rfl) ?_
           obtain ⟨u0, u1, u2, u3, u4, u5, u6, u7, ufz⟩ := hC.facts
           have ev : ∀ t, evalOf f (.tmp t) = f t := fun _ => rfl
           have ec : ∀ c, evalOf f (.const c) = c := fun _ => rfl
           refine relUpon_value ?_ hC trivial rfl
           go_simp
          ·intro w L f hC hLi hLd hLn hF
           obtain ⟨d96, d89, _⟩ := hF
           have d96 : f 96 = .pointer (some ⟨Z.g, 1, none⟩) := d96
           have d89 : f 89 = .bool true := d89
           refine Step2.live (show wantedBy _ (f 89) = true by rw [d89]; rfl) ?_
           obtain ⟨u0, u1, u2, u3, u4, u5, u6, u7, ufz⟩ := hC.facts
           have ev : ∀ t, evalOf f (.tmp t) = f t := fun _ => rfl
           have ec : ∀ c, evalOf f (.const c) = c := fun _ => rfl
           refine relUpon_value ?_ hC trivial rfl
           go_simp
          ·intro w L f hC hLi hLd hLn hF
           obtain ⟨d97, d89, _⟩ := hF
           have d97 : f 97 = .int .i64 ((s.i : Int)) := d97
           have d89 : f 89 = .bool true := d89
           refine Step2.live (show wantedBy _ (f 89) = true by rw [d89]; rfl) ?_
           obtain ⟨u0, u1, u2, u3, u4, u5, u6, u7, ufz⟩ := hC.facts
           have ev : ∀ t, evalOf f (.tmp t) = f t := fun _ => rfl
           have ec : ∀ c, evalOf f (.const c) = c := fun _ => rfl
           refine relUpon_value ?_ hC trivial rfl
           go_simp
          ·intro w L f hC hLi hLd hLn hF
           obtain ⟨d93, d98, d89, _⟩ := hF
           have d93 : f 93 = .slice (some ⟨b, off, none⟩) C.tk.length Z.c := d93
           have d98 : f 98 = .int .i64 ((s.i : Int) + 1) := d98
           have d89 : f 89 = .bool true := d89
           refine Step2.live (show wantedBy _ (f 89) = true by rw [d89]; rfl) ?_
           obtain ⟨u0, u1, u2, u3, u4, u5, u6, u7, ufz⟩ := hC.facts
           have ev : ∀ t, evalOf f (.tmp t) = f t := fun _ => rfl
           have ec : ∀ c, evalOf f (.const c) = c := fun _ => rfl
           refine relUpon_value ?_ hC trivial rfl
           go_simp
          ·intro w L f hC hLi hLd hLn hF
           obtain ⟨d99, d89, _⟩ := hF
           have d99 : f 99 = .pointer (some ⟨b, off + (s.i + 1) * 3, none⟩) := d99
           have d89 : f 89 = .bool true := d89
           refine Step2.live (show wantedBy _ (f 89) = true by rw [d89]; rfl) ?_
           obtain ⟨u0, u1, u2, u3, u4, u5, u6, u7, ufz⟩ := hC.facts
           have ev : ∀ t, evalOf f (.tmp t) = f t := fun _ => rfl
           have ec : ∀ c, evalOf f (.const c) = c := fun _ => rfl
           refine relUpon_value ?_ hC trivial rfl
           go_simp
          ·intro w L f hC hLi hLd hLn hF
           obtain ⟨d100, d89, _⟩ := hF
           have d100 : f 100 = .pointer (some ⟨b, off + (s.i + 1) * 3 + 1, none⟩) := d100
           have d89 : f 89 = .bool true := d89
           refine Step2.live (show wantedBy _ (f 89) = true by rw [d89]; rfl) ?_
           obtain ⟨u0, u1, u2⟩ := hC.tok hx1.out hA
           have ev : ∀ t, evalOf f (.tmp t) = f t := fun _ => rfl
           have ec : ∀ c, evalOf f (.const c) = c := fun _ => rfl
           refine relUpon_value ?_ hC trivial rfl
           go_simp
          ·intro w L f hC hLi hLd hLn hF
           obtain ⟨d101, d89, _⟩ := hF
           have d101 : f 101 = .string (strV x1.t) := d101
           have d89 : f 89 = .bool true := d89
           refine Step2.live (show wantedBy _ (f 89) = true by rw [d89]; rfl) ?_
           obtain ⟨u0, u1, u2, u3, u4, u5, u6, u7, ufz⟩ := hC.facts
           have ev : ∀ t, evalOf f (.tmp t) = f t := fun _ => rfl
           have ec : ∀ c, evalOf f (.const c) = c := fun _ => rfl
           refine relUpon_value ?_ hC trivial rfl
           go_simp
          ·intro w L f hC hLi hLd hLn hF
           obtain ⟨d102, d89, _⟩ := hF
           have d102 : f 102 = .bool false := d102
           have d89 : f 89 = .bool true := d89
           refine Step2.live (show wantedBy _ (f 89) = true by rw [d89]; rfl) ?_
           exact relUpon_value (v := f 102) rfl (hC) (trivial) d102
          ·intro w L f hC hLi hLd hLn hF
           obtain ⟨d0, d103, _⟩ := hF
           have d0 : f 0 = .pointer (some ⟨Z.g, 0, none⟩) := d0
           have d103 : f 103 = .bool false := d103
           refine Step2.live (show wantedBy _ (f 103) = true by rw [d103]; rfl) ?_
           exact relUpon_value (v := f 0) rfl (hC) (trivial) d0
          ·intro w L f hC hLi hLd hLn hF
           obtain ⟨d104, d103, _⟩ := hF
           have d104 : f 104 = .pointer (some ⟨Z.g, 0, none⟩) := d104
           have d103 : f 103 = .bool false := d103
           refine Step2.live (show wantedBy _ (f 103) = true by rw [d103]; rfl) ?_
           obtain ⟨u0, u1, u2, u3, u4, u5, u6, u7, ufz⟩ := hC.facts
           have ev : ∀ t, evalOf f (.tmp t) = f t := fun _ => rfl
           have ec : ∀ c, evalOf f (.const c) = c := fun _ => rfl
           refine relUpon_value ?_ hC trivial rfl
           go_simp
          ·intro w L f hC hLi hLd hLn hF
           obtain ⟨d105, d103, _⟩ := hF
           have d105 : f 105 = .pointer (some ⟨Z.g, 0, none⟩) := d105
           have d103 : f 103 = .bool false := d103
           refine Step2.live (show wantedBy _ (f 103) = true by rw [d103]; rfl) ?_
           obtain ⟨u0, u1, u2, u3, u4, u5, u6, u7, ufz⟩ := hC.facts
           have ev : ∀ t, evalOf f (.tmp t) = f t := fun _ => rfl
           have ec : ∀ c, evalOf f (.const c) = c := fun _ => rfl
           refine relUpon_value ?_ hC trivial rfl
           go_simp
          ·intro w L f hC hLi hLd hLn hF
           obtain ⟨d106, d103, _⟩ := hF
           have d106 : f 106 = .pointer (some ⟨Z.g, 0, none⟩) := d106
           have d103 : f 103 = .bool false := d103
           refine Step2.live (show wantedBy _ (f 103) = true by rw [d103]; rfl) ?_
           obtain ⟨u0, u1, u2, u3, u4, u5, u6, u7, ufz⟩ := hC.facts
           have ev : ∀ t, evalOf f (.tmp t) = f t := fun _ => rfl
           have ec : ∀ c, evalOf f (.const c) = c := fun _ => rfl
           refine relUpon_value ?_ hC trivial rfl
           go_simp
          ·intro w L f hC hLi hLd hLn hF
           obtain ⟨d0, d103, _⟩ := hF
           have d0 : f 0 = .pointer (some ⟨Z.g, 0, none⟩) := d0
           have d103 : f 103 = .bool false := d103
           refine Step2.live (show wantedBy _ (f 103) = true by rw [d103]; rfl) ?_
           exact relUpon_value (v := f 0) rfl (hC) (trivial) d0
          ·intro w L f hC hLi hLd hLn hF
           obtain ⟨d108, d103, _⟩ := hF
           have d108 : f 108 = .pointer (some ⟨Z.g, 0, none⟩) := d108
           have d103 : f 103 = .bool false := d103
           refine Step2.live (show wantedBy _ (f 103) = true by rw [d103]; rfl) ?_
           obtain ⟨u0, u1, u2, u3, u4, u5, u6, u7, ufz⟩ := hC.facts
           have ev : ∀ t, evalOf f (.tmp t) = f t := fun _ => rfl
           have ec : ∀ c, evalOf f (.const c) = c := fun _ => rfl
           refine relUpon_value ?_ hC trivial rfl
           go_simp
          ·intro w L f hC hLi hLd hLn hF
           obtain ⟨d109, d103, _⟩ := hF
           have d109 : f 109 = .pointer (some ⟨Z.g, 0, none⟩) := d109
           have d103 : f 103 = .bool false := d103
           refine Step2.live (show wantedBy _ (f 103) = true by rw [d103]; rfl) ?_
           obtain ⟨u0, u1, u2, u3, u4, u5, u6, u7, ufz⟩ := hC.facts
           have ev : ∀ t, evalOf f (.tmp t) = f t := fun _ => rfl
           have ec : ∀ c, evalOf f (.const c) = c := fun _ => rfl
           refine relUpon_value ?_ hC trivial rfl
           go_simp
          ·intro w L f hC hLi hLd hLn hF
           obtain ⟨d110, d103, _⟩ := hF
           have d110 : f 110 = .pointer (some ⟨Z.g, 1, none⟩) := d110
           have d103 : f 103 = .bool false := d103
           refine Step2.live (show wantedBy _ (f 103) = true by rw [d103]; rfl) ?_
           obtain ⟨u0, u1, u2, u3, u4, u5, u6, u7, ufz⟩ := hC.facts
           have ev : ∀ t, evalOf f (.tmp t) = f t := fun _ => rfl
           have ec : ∀ c, evalOf f (.const c) = c := fun _ => rfl
           refine relUpon_value ?_ hC trivial rfl
           go_simp
          ·intro w L f hC hLi hLd hLn hF
           obtain ⟨d111, d103, _⟩ := hF
           have d111 : f 111 = .int .i64 ((s.i : Int)) := d111
           have d103 : f 103 = .bool false := d103
           refine Step2.live (show wantedBy _ (f 103) = true by rw [d103]; rfl) ?_
           obtain ⟨u0, u1, u2, u3, u4, u5, u6, u7, ufz⟩ := hC.facts
           have ev : ∀ t, evalOf f (.tmp t) = f t := fun _ => rfl
           have ec : ∀ c, evalOf f (.const c) = c := fun _ => rfl
           refine relUpon_value ?_ hC trivial rfl
           go_simp
          ·intro w L f hC hLi hLd hLn hF
           obtain ⟨d107, d112, d103, _⟩ := hF
           have d107 : f 107 = .slice (some ⟨b, off, none⟩) C.tk.length Z.c := d107
           have d112 : f 112 = .int .i64 ((s.i : Int) + 1) := d112
           have d103 : f 103 = .bool false := d103
           refine Step2.live (show wantedBy _ (f 103) = true by rw [d103]; rfl) ?_
           obtain ⟨u0, u1, u2, u3, u4, u5, u6, u7, ufz⟩ := hC.facts
           have ev : ∀ t, evalOf f (.tmp t) = f t := fun _ => rfl
           have ec : ∀ c, evalOf f (.const c) = c := fun _ => rfl
           refine relUpon_value ?_ hC trivial rfl
           go_simp
          ·intro w L f hC hLi hLd hLn hF
           obtain ⟨d113, d103, _⟩ := hF
           have d113 : f 113 = .pointer (some ⟨b, off + (s.i + 1) * 3, none⟩) := d113
           have d103 : f 103 = .bool false := d103
           refine Step2.live (show wantedBy _ (f 103) = true by rw [d103]; rfl) ?_
           obtain ⟨u0, u1, u2, u3, u4, u5, u6, u7, ufz⟩ := hC.facts
           have ev : ∀ t, evalOf f (.tmp t) = f t := fun _ => rfl
           have ec : ∀ c, evalOf f (.const c) = c := fun _ => rfl
           refine relUpon_value ?_ hC trivial rfl
           go_simp
          ·intro w L f hC hLi hLd hLn hF
           obtain ⟨d114, d103, _⟩ := hF
           have d114 : f 114 = .pointer (some ⟨b, off + (s.i + 1) * 3 + 1, none⟩) := d114
           have d103 : f 103 = .bool false := d103
           refine Step2.live (show wantedBy _ (f 103) = true by rw [d103]; rfl) ?_
           obtain ⟨u0, u1, u2⟩ := hC.tok hx1.out hA
           have ev : ∀ t, evalOf f (.tmp t) = f t := fun _ => rfl
           have ec : ∀ c, evalOf f (.const c) = c := fun _ => rfl
           refine relUpon_value ?_ hC trivial rfl
           go_simp
          ·intro w L f hC hLi hLd hLn hF
           obtain ⟨d115, d103, _⟩ := hF
           have d115 : f 115 = .string (strV x1.t) := d115
           have d103 : f 103 = .bool false := d103
           refine Step2.live (show wantedBy _ (f 103) = true by rw [d103]; rfl) ?_
           obtain ⟨u0, u1, u2, u3, u4, u5, u6, u7, ufz⟩ := hC.facts
           have ev : ∀ t, evalOf f (.tmp t) = f t := fun _ => rfl
           have ec : ∀ c, evalOf f (.const c) = c := fun _ => rfl
           refine relUpon_value ?_ hC trivial rfl
           go_simp
          ·intro w L f hC hLi hLd hLn hF
           obtain ⟨d103, d116, d89, _⟩ := hF
           have d103 : f 103 = .bool false := d103
           have d116 : f 116 = .bool true := d116
           have d89 : f 89 = .bool true := d89
           refine Step2.live (show wantedBy _ (f 89) = true by rw [d89]; rfl) ?_
           obtain ⟨u0, u1, u2, u3, u4, u5, u6, u7, ufz⟩ := hC.facts
           have ev : ∀ t, evalOf f (.tmp t) = f t := fun _ => rfl
           have ec : ∀ c, evalOf f (.const c) = c := fun _ => rfl
           refine relUpon_value ?_ hC trivial rfl
           go_simp
          ·intro w L f hC hLi hLd hLn hF
           obtain ⟨d89, d117, _⟩ := hF
           have d89 : f 89 = .bool true := d89
           have d117 : f 117 = .bool true := d117
           refine Step2.live rfl ?_
           obtain ⟨u0, u1, u2, u3, u4, u5, u6, u7, ufz⟩ := hC.facts
           have ev : ∀ t, evalOf f (.tmp t) = f t := fun _ => rfl
           have ec : ∀ c, evalOf f (.const c) = c := fun _ => rfl
           refine relUpon_value ?_ hC trivial rfl
           go_simp
         intro x w' hC hV

         have e0 : x 59 = .bool nf := (hV 59 _ rfl rfl).trans (by rw [hN2.out])
         clear hV
         simp only [framed]
         rw [e0]
         have hC := Lib.hid hC
         go_wp2_with fail
         go_meet
         case rel => exact ⟨rfl, hC⟩
        case neg =>
         have k3 : ((strV x1.t).toList == [33, 61]) = false := by rw [strV_toList]; simpa using q3
         have hN2 : Hid (nf = false) := Lib.hid (by rw [hN, show (x1.t == [61, 61]) = false by simpa using q1, show (x1.t == [33, 61]) = false by simpa using q3]; simp)
         clear hN q2 q1 q3
         refine wp_region_tabL ((fun _ _ v => v = .pointer (some ⟨Z.g, 0, none⟩)) ::
          (fun _ _ v => v = .bool true) ::
          (fun _ _ v => v = .bool true) ::
          (fun _ _ v => v = .pointer (some ⟨Z.g, 0, none⟩)) ::
          (fun _ _ v => v = .pointer (some ⟨Z.g, 0, none⟩)) ::
          (fun _ _ v => v = .pointer (some ⟨Z.g, 1, none⟩)) ::
          (fun _ _ v => v = .int .i64 ((s.i : Int))) ::
          (fun _ _ v => v = .int .i64 ((s.i : Int) + 2)) ::
          (fun _ _ v => v = .pointer (some ⟨Z.g, 0, none⟩)) ::
          (fun _ _ v => v = .pointer (some ⟨Z.g, 0, none⟩)) ::
          (fun _ _ v => v = .pointer (some ⟨Z.g, 0, none⟩)) ::
          (fun _ _ v => v = .slice (some ⟨b, off, none⟩) C.tk.length Z.c) ::
          (fun _ _ v => v = .int .i64 ((C.tk.length : Int))) ::
          (fun _ _ v => v = .bool true) ::
          (fun _ _ v => v = .bool true) ::
          (fun _ _ v => v = .bool true) ::
          (fun _ _ v => v = .pointer (some ⟨Z.g, 0, none⟩)) ::
          (fun _ _ v => v = .pointer (some ⟨Z.g, 0, none⟩)) ::
          (fun _ _ v => v = .pointer (some ⟨Z.g, 0, none⟩)) ::
          (fun _ _ v => v = .slice (some ⟨b, off, none⟩) C.tk.length Z.c) ::
          (fun _ _ v => v = .pointer (some ⟨Z.g, 0, none⟩)) ::
          (fun _ _ v => v = .pointer (some ⟨Z.g, 0, none⟩)) ::
          (fun _ _ v => v = .pointer (some ⟨Z.g, 1, none⟩)) ::
          (fun _ _ v => v = .int .i64 ((s.i : Int))) ::
          (fun _ _ v => v = .int .i64 ((s.i : Int) + 2)) ::
          (fun _ _ v => v = .pointer (some ⟨b, off + (s.i + 2) * 3, none⟩)) ::
          (fun _ _ v => v = .pointer (some ⟨b, off + (s.i + 2) * 3 + 1, none⟩)) ::
          (fun _ _ v => v = .string (strV x2.t)) ::
          (fun _ _ v => v = .bool true) ::
          (fun _ _ v => v = .bool true) ::
          (fun _ _ v => v = .bool true) ::
          (fun _ _ v => v = .pointer (some ⟨Z.g, 0, none⟩)) ::
          (fun _ _ v => v = .pointer (some ⟨Z.g, 0, none⟩)) ::
          (fun _ _ v => v = .pointer (some ⟨Z.g, 0, none⟩)) ::
          (fun _ _ v => v = .slice (some ⟨b, off, none⟩) C.tk.length Z.c) ::
          (fun _ _ v => v = .pointer (some ⟨Z.g, 0, none⟩)) ::
          (fun _ _ v => v = .pointer (some ⟨Z.g, 0, none⟩)) ::
          (fun _ _ v => v = .pointer (some ⟨Z.g, 1, none⟩)) ::
          (fun _ _ v => v = .int .i64 ((s.i : Int))) ::
          (fun _ _ v => v = .int .i64 ((s.i : Int) + 1)) ::
          (fun _ _ v => v = .pointer (some ⟨b, off + (s.i + 1) * 3, none⟩)) ::
          (fun _ _ v => v = .pointer (some ⟨b, off + (s.i + 1) * 3 + 1, none⟩)) ::
          (fun _ _ v => v = .string (strV x1.t)) ::
          (fun _ _ v => v = .bool false) ::
          (fun _ _ v => v = .bool false) ::
          (fun _ _ v => v = .pointer (some ⟨Z.g, 0, none⟩)) ::
          (fun _ _ v => v = .pointer (some ⟨Z.g, 0, none⟩)) ::
          (fun _ _ v => v = .pointer (some ⟨Z.g, 0, none⟩)) ::
          (fun _ _ v => v = .slice (some ⟨b, off, none⟩) C.tk.length Z.c) ::
          (fun _ _ v => v = .pointer (some ⟨Z.g, 0, none⟩)) ::
          (fun _ _ v => v = .pointer (some ⟨Z.g, 0, none⟩)) ::
          (fun _ _ v => v = .pointer (some ⟨Z.g, 1, none⟩)) ::
          (fun _ _ v => v = .int .i64 ((s.i : Int))) ::
          (fun _ _ v => v = .int .i64 ((s.i : Int) + 1)) ::
          (fun _ _ v => v = .pointer (some ⟨b, off + (s.i + 1) * 3, none⟩)) ::
          (fun _ _ v => v = .pointer (some ⟨b, off + (s.i + 1) * 3 + 1, none⟩)) ::
          (fun _ _ v => v = .string (strV x1.t)) ::
          (fun _ _ v => v = .bool false) ::
          (fun _ _ v => v = .bool false) ::
          (fun _ _ v => v = .bool false) :: [])
          (⟨[(0, none)], 0, []⟩ :: ⟨[(59, some 0)], 0, []⟩ :: ⟨[(60, some 1)], 0, []⟩ :: ⟨[(0, none), (61, some 2)], 61, []⟩ :: ⟨[(62, some 3), (61, some 2)], 61, []⟩ :: ⟨[(63, some 4), (61, some 2)], 61, []⟩ :: ⟨[(64, some 5), (61, some 2)], 61, []⟩ :: ⟨[(65, some 6), (61, some 2)], 61, []⟩ :: ⟨[(0, none), (61, some 2)], 61, []⟩ :: ⟨[(67, some 8), (61, some 2)], 61, []⟩ :: ⟨[(68, some 9), (61, some 2)], 61, []⟩ :: ⟨[(69, some 10), (61, some 2)], 61, []⟩ :: ⟨[(70, some 11), (61, some 2)], 61, []⟩ :: ⟨[(66, some 7), (71, some 12), (61, some 2)], 61, []⟩ :: ⟨[(61, some 2), (72, some 13)], 0, []⟩ :: ⟨[(73, some 14)], 0, []⟩ :: ⟨[(0, none), (74, some 15)], 74, []⟩ :: ⟨[(75, some 16), (74, some 15)], 74, []⟩ :: ⟨[(76, some 17), (74, some 15)], 74, []⟩ :: ⟨[(77, some 18), (74, some 15)], 74, []⟩ :: ⟨[(0, none), (74, some 15)], 74, []⟩ :: ⟨[(79, some 20), (74, some 15)], 74, []⟩ :: ⟨[(80, some 21), (74, some 15)], 74, []⟩ :: ⟨[(81, some 22), (74, some 15)], 74, []⟩ :: ⟨[(82, some 23), (74, some 15)], 74, []⟩ :: ⟨[(78, some 19), (83, some 24), (74, some 15)], 74, []⟩ :: ⟨[(84, some 25), (74, some 15)], 74, []⟩ :: ⟨[(85, some 26), (74, some 15)], 74, []⟩ :: ⟨[(86, some 27), (74, some 15)], 74, []⟩ :: ⟨[(74, some 15), (87, some 28)], 0, []⟩ :: ⟨[(88, some 29)], 0, []⟩ :: ⟨[(0, none), (89, some 30)], 89, []⟩ :: ⟨[(90, some 31), (89, some 30)], 89, []⟩ :: ⟨[(91, some 32), (89, some 30)], 89, []⟩ :: ⟨[(92, some 33), (89, some 30)], 89, []⟩ :: ⟨[(0, none), (89, some 30)], 89, []⟩ :: ⟨[(94, some 35), (89, some 30)], 89, []⟩ :: ⟨[(95, some 36), (89, some 30)], 89, []⟩ :: ⟨[(96, some 37), (89, some 30)], 89, []⟩ :: ⟨[(97, some 38), (89, some 30)], 89, []⟩ :: ⟨[(93, some 34), (98, some 39), (89, some 30)], 89, []⟩ :: ⟨[(99, some 40), (89, some 30)], 89, []⟩ :: ⟨[(100, some 41), (89, some 30)], 89, []⟩ :: ⟨[(101, some 42), (89, some 30)], 89, []⟩ :: ⟨[(102, some 43), (89, some 30)], 89, []⟩ :: ⟨[(0, none), (103, some 44)], 103, []⟩ :: ⟨[(104, some 45), (103, some 44)], 103, []⟩ :: ⟨[(105, some 46), (103, some 44)], 103, []⟩ :: ⟨[(106, some 47), (103, some 44)], 103, []⟩ :: ⟨[(0, none), (103, some 44)], 103, []⟩ :: ⟨[(108, some 49), (103, some 44)], 103, []⟩ :: ⟨[(109, some 50), (103, some 44)], 103, []⟩ :: ⟨[(110, some 51), (103, some 44)], 103, []⟩ :: ⟨[(111, some 52), (103, some 44)], 103, []⟩ :: ⟨[(107, some 48), (112, some 53), (103, some 44)], 103, []⟩ :: ⟨[(113, some 54), (103, some 44)], 103, []⟩ :: ⟨[(114, some 55), (103, some 44)], 103, []⟩ :: ⟨[(115, some 56), (103, some 44)], 103, []⟩ :: ⟨[(103, some 44), (116, some 57), (89, some 30)], 89, []⟩ :: ⟨[(89, some 30), (117, some 58)], 0, []⟩ :: [])
          (none :: none :: none :: none :: none :: none :: none :: none :: none :: none :: none :: none :: none :: none :: none :: none :: none :: none :: none :: none :: none :: none :: none :: none :: none :: none :: none :: none :: none :: none :: none :: none :: none :: none :: none :: none :: none :: none :: none :: none :: none :: none :: none :: none :: none :: none :: none :: none :: none :: none :: none :: none :: none :: none :: none :: none :: none :: none :: none :: some 0 :: some 1 :: some 2 :: some 3 :: some 4 :: some 5 :: some 6 :: some 7 :: some 8 :: some 9 :: some 10 :: some 11 :: some 12 :: some 13 :: some 14 :: some 15 :: some 16 :: some 17 :: some 18 :: some 19 :: some 20 :: some 21 :: some 22 :: some 23 :: some 24 :: some 25 :: some 26 :: some 27 :: some 28 :: some 29 :: some 30 :: some 31 :: some 32 :: some 33 :: some 34 :: some 35 :: some 36 :: some 37 :: some 38 :: some 39 :: some 40 :: some 41 :: some 42 :: some 43 :: some 44 :: some 45 :: some 46 :: some 47 :: some 48 :: some 49 :: some 50 :: some 51 :: some 52 :: some 53 :: some 54 :: some 55 :: some 56 :: some 57 :: some 58 :: some 59 :: [])
          (fun _ w' => Moved C Z s w w') (fun _ _ _ => True) ?mixK16tttff ?okK16tttff ?tabK16tttff ?frK16tttff ?inK16tttff ?keptK16tttff ?startK16tttff ?eachK16tttff ?finK16tttff
         case mixK16tttff => kernel_rfl
         case okK16tttff => kernel_rfl
         case tabK16tttff => kernel_rfl
         case frK16tttff => kernel_rfl
         case inK16tttff => rfl
         case keptK16tttff => exact ⟨fun _ _ _ _ _ _ _ _ _ _ _ h => h, fun _ _ _ _ _ _ _ _ _ _ _ h => h, fun _ _ _ _ _ _ _ _ _ _ _ h => h, fun _ _ _ _ _ _ _ _ _ _ _ h => h, fun _ _ _ _ _ _ _ _ _ _ _ h => h, fun _ _ _ _ _ _ _ _ _ _ _ h => h, fun _ _ _ _ _ _ _ _ _ _ _ h => h, fun _ _ _ _ _ _ _ _ _ _ _ h => h, fun _ _ _ _ _ _ _ _ _ _ _ h => h, fun _ _ _ _ _ _ _ _ _ _ _ h => h, fun _ _ _ _ _ _ _ _ _ _ _ h => h, fun _ _ _ _ _ _ _ _ _ _ _ h => h, fun _ _ _ _ _ _ _ _ _ _ _ h => h, fun _ _ _ _ _ _ _ _ _ _ _ h => h, fun _ _ _ _ _ _ _ _ _ _ _ h => h, fun _ _ _ _ _ _ _ _ _ _ _ h => h, fun _ _ _ _ _ _ _ _ _ _ _ h => h, fun _ _ _ _ _ _ _ _ _ _ _ h => h, fun _ _ _ _ _ _ _ _ _ _ _ h => h, fun _ _ _ _ _ _ _ _ _ _ _ h => h, fun _ _ _ _ _ _ _ _ _ _ _ h => h, fun _ _ _ _ _ _ _ _ _ _ _ h => h, fun _ _ _ _ _ _ _ _ _ _ _ h => h, fun _ _ _ _ _ _ _ _ _ _ _ h => h, fun _ _ _ _ _ _ _ _ _ _ _ h => h, fun _ _ _ _ _ _ _ _ _ _ _ h => h, fun _ _ _ _ _ _ _ _ _ _ _ h => h, fun _ _ _ _ _ _ _ _ _ _ _ h => h, fun _ _ _ _ _ _ _ _ _ _ _ h => h, fun _ _ _ _ _ _ _ _ _ _ _ h => h, fun _ _ _ _ _ _ _ _ _ _ _ h => h, fun _ _ _ _ _ _ _ _ _ _ _ h => h, fun _ _ _ _ _ _ _ _ _ _ _ h => h, fun _ _ _ _ _ _ _ _ _ _ _ h => h, fun _ _ _ _ _ _ _ _ _ _ _ h => h, fun _ _ _ _ _ _ _ _ _ _ _ h => h, fun _ _ _ _ _ _ _ _ _ _ _ h => h, fun _ _ _ _ _ _ _ _ _ _ _ h => h, fun _ _ _ _ _ _ _ _ _ _ _ h => h, fun _ _ _ _ _ _ _ _ _ _ _ h => h, fun _ _ _ _ _ _ _ _ _ _ _ h => h, fun _ _ _ _ _ _ _ _ _ _ _ h => h, fun _ _ _ _ _ _ _ _ _ _ _ h => h, fun _ _ _ _ _ _ _ _ _ _ _ h => h, fun _ _ _ _ _ _ _ _ _ _ _ h => h, fun _ _ _ _ _ _ _ _ _ _ _ h => h, fun _ _ _ _ _ _ _ _ _ _ _ h => h, fun _ _ _ _ _ _ _ _ _ _ _ h => h, fun _ _ _ _ _ _ _ _ _ _ _ h => h, fun _ _ _ _ _ _ _ _ _ _ _ h => h, fun _ _ _ _ _ _ _ _ _ _ _ h => h, fun _ _ _ _ _ _ _ _ _ _ _ h => h, fun _ _ _ _ _ _ _ _ _ _ _ h => h, fun _ _ _ _ _ _ _ _ _ _ _ h => h, fun _ _ _ _ _ _ _ _ _ _ _ h => h, fun _ _ _ _ _ _ _ _ _ _ _ h => h, fun _ _ _ _ _ _ _ _ _ _ _ h => h, fun _ _ _ _ _ _ _ _ _ _ _ h => h, fun _ _ _ _ _ _ _ _ _ _ _ h => h, fun _ _ _ _ _ _ _ _ _ _ _ h => h, trivial⟩
         case startK16tttff => exact hgo.out.below (Below.refl _ _).drew
         case eachK16tttff =>
          refine ⟨?_, ?_, ?_, ?_, ?_, ?_, ?_, ?_, ?_, ?_, ?_, ?_, ?_, ?_, ?_, ?_, ?_, ?_, ?_, ?_, ?_, ?_, ?_, ?_, ?_, ?_, ?_, ?_, ?_, ?_, ?_, ?_, ?_, ?_, ?_, ?_, ?_, ?_, ?_, ?_, ?_, ?_, ?_, ?_, ?_, ?_, ?_, ?_, ?_, ?_, ?_, ?_, ?_, ?_, ?_, ?_, ?_, ?_, ?_, ?_, trivial⟩
          ·intro w L f hC hLi hLd hLn hF
           obtain ⟨d0, _⟩ := hF
           have d0 : f 0 = .pointer (some ⟨Z.g, 0, none⟩) := d0
           refine Step2.live rfl ?_
           exact relUpon_value (v := f 0) rfl (hC) (trivial) d0
          ·intro w L f hC hLi hLd hLn hF
           obtain ⟨d59, _⟩ := hF
           have d59 : f 59 = .pointer (some ⟨Z.g, 0, none⟩) := d59
           refine Step2.live rfl ?_
           have ev : ∀ t, evalOf f (.tmp t) = f t := fun _ => rfl
           have ec : ∀ c, evalOf f (.const c) = c := fun _ => rfl
           have ef : ∀ g, evalOf f (.func g) = .func (.func g) #[] #[] := fun _ => rfl
           refine relUpon_call (f := 41) (args := #[.pointer (some ⟨Z.g, 0, none⟩)]) (w := w) (by go_simp) (named_from hC hn.out) ?_
           rintro e w1 ⟨he, h1, -⟩
           exact ⟨_, he, h1, trivial, rfl⟩
          ·intro w L f hC hLi hLd hLn hF
           obtain ⟨d60, _⟩ := hF
           have d60 : f 60 = .bool true := d60
           refine Step2.live rfl ?_
           exact relUpon_value (v := f 60) rfl (hC) (trivial) d60
          ·intro w L f hC hLi hLd hLn hF
           obtain ⟨d0, d61, _⟩ := hF
           have d0 : f 0 = .pointer (some ⟨Z.g, 0, none⟩) := d0
           have d61 : f 61 = .bool true := d61
           refine Step2.live (show wantedBy _ (f 61) = true by rw [d61]; rfl) ?_
           exact relUpon_value (v := f 0) rfl (hC) (trivial) d0
          ·intro w L f hC hLi hLd hLn hF
           obtain ⟨d62, d61, _⟩ := hF
           have d62 : f 62 = .pointer (some ⟨Z.g, 0, none⟩) := d62
           have d61 : f 61 = .bool true := d61
           refine Step2.live (show wantedBy _ (f 61) = true by rw [d61]; rfl) ?_
           obtain ⟨u0, u1, u2, u3, u4, u5, u6, u7, ufz⟩ := hC.facts
           have ev : ∀ t, evalOf f (.tmp t) = f t := fun _ => rfl
           have ec : ∀ c, evalOf f (.const c) = c := fun _ => rfl
           refine relUpon_value ?_ hC trivial rfl
           go_simp
          ·intro w L f hC hLi hLd hLn hF
           obtain ⟨d63, d61, _⟩ := hF
           have d63 : f 63 = .pointer (some ⟨Z.g, 0, none⟩) := d63
           have d61 : f 61 = .bool true := d61
           refine Step2.live (show wantedBy _ (f 61) = true by rw [d61]; rfl) ?_
           obtain ⟨u0, u1, u2, u3, u4, u5, u6, u7, ufz⟩ := hC.facts
           have ev : ∀ t, evalOf f (.tmp t) = f t := fun _ => rfl
           have ec : ∀ c, evalOf f (.const c) = c := fun _ => rfl
           refine relUpon_value ?_ hC trivial rfl
           go_simp
          ·intro w L f hC hLi hLd hLn hF
           obtain ⟨d64, d61, _⟩ := hF
           have d64 : f 64 = .pointer (some ⟨Z.g, 1, none⟩) := d64
           have d61 : f 61 = .bool true := d61
           refine Step2.live (show wantedBy _ (f 61) = true by rw [d61]; rfl) ?_
           obtain ⟨u0, u1, u2, u3, u4, u5, u6, u7, ufz⟩ := hC.facts
           have ev : ∀ t, evalOf f (.tmp t) = f t := fun _ => rfl
           have ec : ∀ c, evalOf f (.const c) = c := fun _ => rfl
           refine relUpon_value ?_ hC trivial rfl
           go_simp
          ·intro w L f hC hLi hLd hLn hF
           obtain ⟨d65, d61, _⟩ := hF
           have d65 : f 65 = .int .i64 ((s.i : Int)) := d65
           have d61 : f 61 = .bool true := d61
           refine Step2.live (show wantedBy _ (f 61) = true by rw [d61]; rfl) ?_
           obtain ⟨u0, u1, u2, u3, u4, u5, u6, u7, ufz⟩ := hC.facts
           have ev : ∀ t, evalOf f (.tmp t) = f t := fun _ => rfl
           have ec : ∀ c, evalOf f (.const c) = c := fun _ => rfl
           refine relUpon_value ?_ hC trivial rfl
           go_simp
          ·intro w L f hC hLi hLd hLn hF
           obtain ⟨d0, d61, _⟩ := hF
           have d0 : f 0 = .pointer (some ⟨Z.g, 0, none⟩) := d0
           have d61 : f 61 = .bool true := d61
           refine Step2.live (show wantedBy _ (f 61) = true by rw [d61]; rfl) ?_
           exact relUpon_value (v := f 0) rfl (hC) (trivial) d0
          ·intro w L f hC hLi hLd hLn hF
           obtain ⟨d67, d61, _⟩ := hF
           have d67 : f 67 = .pointer (some ⟨Z.g, 0, none⟩) := d67
           have d61 : f 61 = .bool true := d61
           refine Step2.live (show wantedBy _ (f 61) = true by rw [d61]; rfl) ?_
           obtain ⟨u0, u1, u2, u3, u4, u5, u6, u7, ufz⟩ := hC.facts
           have ev : ∀ t, evalOf f (.tmp t) = f t := fun _ => rfl
           have ec : ∀ c, evalOf f (.const c) = c := fun _ => rfl
           refine relUpon_value ?_ hC trivial rfl
           go_simp
          ·intro w L f hC hLi hLd hLn hF
           obtain ⟨d68, d61, _⟩ := hF
           have d68 : f 68 = .pointer (some ⟨Z.g, 0, none⟩) := d68
           have d61 : f 61 = .bool true := d61
           refine Step2.live (show wantedBy _ (f 61) = true by rw [d61]; rfl) ?_
           obtain ⟨u0, u1, u2, u3, u4, u5, u6, u7, ufz⟩ := hC.facts
           have ev : ∀ t, evalOf f (.tmp t) = f t := fun _ => rfl
           have ec : ∀ c, evalOf f (.const c) = c := fun _ => rfl
           refine relUpon_value ?_ hC trivial rfl
           go_simp
          ·intro w L f hC hLi hLd hLn hF
           obtain ⟨d69, d61, _⟩ := hF
           have d69 : f 69 = .pointer (some ⟨Z.g, 0, none⟩) := d69
           have d61 : f 61 = .bool true := d61
           refine Step2.live (show wantedBy _ (f 61) = true by rw [d61]; rfl) ?_
           obtain ⟨u0, u1, u2, u3, u4, u5, u6, u7, ufz⟩ := hC.facts
           have ev : ∀ t, evalOf f (.tmp t) = f t := fun _ => rfl
           have ec : ∀ c, evalOf f (.const c) = c := fun _ => rfl
           refine relUpon_value ?_ hC trivial rfl
           go_simp
          ·intro w L f hC hLi hLd hLn hF
           obtain ⟨d70, d61, _⟩ := hF
           have d70 : f 70 = .slice (some ⟨b, off, none⟩) C.tk.length Z.c := d70
           have d61 : f 61 = .bool true := d61
           refine Step2.live (show wantedBy _ (f 61) = true by rw [d61]; rfl) ?_
           obtain ⟨u0, u1, u2, u3, u4, u5, u6, u7, ufz⟩ := hC.facts
           have ev : ∀ t, evalOf f (.tmp t) = f t := fun _ => rfl
           have ec : ∀ c, evalOf f (.const c) = c := fun _ => rfl
           refine relUpon_value ?_ hC trivial rfl
           go_simp
          ·intro w L f hC hLi hLd hLn hF
           obtain ⟨d66, d71, d61, _⟩ := hF
           have d66 : f 66 = .int .i64 ((s.i : Int) + 2) := d66
           have d71 : f 71 = .int .i64 ((C.tk.length : Int)) := d71
           have d61 : f 61 = .bool true := d61
           refine Step2.live (show wantedBy _ (f 61) = true by rw [d61]; rfl) ?_
           obtain ⟨u0, u1, u2, u3, u4, u5, u6, u7, ufz⟩ := hC.facts
           have ev : ∀ t, evalOf f (.tmp t) = f t := fun _ => rfl
           have ec : ∀ c, evalOf f (.const c) = c := fun _ => rfl
           refine relUpon_value ?_ hC trivial rfl
           go_simp
          ·intro w L f hC hLi hLd hLn hF
           obtain ⟨d61, d72, _⟩ := hF
           have d61 : f 61 = .bool true := d61
           have d72 : f 72 = .bool true := d72
           refine Step2.live rfl ?_
           obtain ⟨u0, u1, u2, u3, u4, u5, u6, u7, ufz⟩ := hC.facts
           have ev : ∀ t, evalOf f (.tmp t) = f t := fun _ => rfl
           have ec : ∀ c, evalOf f (.const c) = c := fun _ => rfl
           refine relUpon_value ?_ hC trivial rfl
           go_simp
          ·intro w L f hC hLi hLd hLn hF
           obtain ⟨d73, _⟩ := hF
           have d73 : f 73 = .bool true := d73
           refine Step2.live rfl ?_
           exact relUpon_value (v := f 73) rfl (hC) (trivial) d73
          ·intro w L f hC hLi hLd hLn hF
           obtain ⟨d0, d74, _⟩ := hF
           have d0 : f 0 = .pointer (some ⟨Z.g, 0, none⟩) := d0
           have d74 : f 74 = .bool true := d74
           refine Step2.live (show wantedBy _ (f 74) = true by rw [d74]; rfl) ?_
           exact relUpon_value (v := f 0) rfl (hC) (trivial) d0
          ·intro w L f hC hLi hLd hLn hF
           obtain ⟨d75, d74, _⟩ := hF
           have d75 : f 75 = .pointer (some ⟨Z.g, 0, none⟩) := d75
           have d74 : f 74 = .bool true := d74
           refine Step2.live (show wantedBy _ (f 74) = true by rw [d74]; rfl) ?_
           obtain ⟨u0, u1, u2, u3, u4, u5, u6, u7, ufz⟩ := hC.facts
           have ev : ∀ t, evalOf f (.tmp t) = f t := fun _ => rfl
           have ec : ∀ c, evalOf f (.const c) = c := fun _ => rfl
           refine relUpon_value ?_ hC trivial rfl
           go_simp
          ·intro w L f hC hLi hLd hLn hF
           obtain ⟨d76, d74, _⟩ := hF
           have d76 : f 76 = .pointer (some ⟨Z.g, 0, none⟩) := d76
           have d74 : f 74 = .bool true := d74
           refine Step2.live (show wantedBy _ (f 74) = true by rw [d74]; rfl) ?_
           obtain ⟨u0, u1, u2, u3, u4, u5, u6, u7, ufz⟩ := hC.facts
           have ev : ∀ t, evalOf f (.tmp t) = f t := fun _ => rfl
           have ec : ∀ c, evalOf f (.const c) = c := fun _ => rfl
           refine relUpon_value ?_ hC trivial rfl
           go_simp
          ·intro w L f hC hLi hLd hLn hF
           obtain ⟨d77, d74, _⟩ := hF
           have d77 : f 77 = .pointer (some ⟨Z.g, 0, none⟩) := d77
           have d74 : f 74 = .bool true := d74
           refine Step2.live (show wantedBy _ (f 74) = true by rw [d74]; rfl) ?_
           obtain ⟨u0, u1, u2, u3, u4, u5, u6, u7, ufz⟩ := hC.facts
           have ev : ∀ t, evalOf f (.tmp t) = f t := fun _ => rfl
           have ec : ∀ c, evalOf f (.const c) = c := fun _ => rfl
           refine relUpon_value ?_ hC trivial rfl
           go_simp
          ·intro w L f hC hLi hLd hLn hF
           obtain ⟨d0, d74, _⟩ := hF
           have d0 : f 0 = .pointer (some ⟨Z.g, 0, none⟩) := d0
           have d74 : f 74 = .bool true := d74
           refine Step2.live (show wantedBy _ (f 74) = true by rw [d74]; rfl) ?_
           exact relUpon_value (v := f 0) rfl (hC) (trivial) d0
          ·intro w L f hC hLi hLd hLn hF
           obtain ⟨d79, d74, _⟩ := hF
           have d79 : f 79 = .pointer (some ⟨Z.g, 0, none⟩) := d79
           have d74 : f 74 = .bool true := d74
           refine Step2.live (show wantedBy _ (f 74) = true by rw [d74]; rfl) ?_
           obtain ⟨u0, u1, u2, u3, u4, u5, u6, u7, ufz⟩ := hC.facts
           have ev : ∀ t, evalOf f (.tmp t) = f t := fun _ => rfl
           have ec : ∀ c, evalOf f (.const c) = c := fun _ => rfl
           refine relUpon_value ?_ hC trivial rfl
           go_simp
          ·intro w L f hC hLi hLd hLn hF
           obtain ⟨d80, d74, _⟩ := hF
           have d80 : f 80 = .pointer (some ⟨Z.g, 0, none⟩) := d80
           have d74 : f 74 = .bool true := d74
           refine Step2.live (show wantedBy _ (f 74) = true by rw [d74]; rfl) ?_
           obtain ⟨u0, u1, u2, u3, u4, u5, u6, u7, ufz⟩ := hC.facts
           have ev : ∀ t, evalOf f (.tmp t) = f t := fun _ => rfl
           have ec : ∀ c, evalOf f (.const c) = c := fun _ => rfl
           refine relUpon_value ?_ hC trivial rfl
           go_simp
          ·intro w L f hC hLi hLd hLn hF
           obtain ⟨d81, d74, _⟩ := hF
           have d81 : f 81 = .pointer (some ⟨Z.g, 1, none⟩) := d81
           have d74 : f 74 = .bool true := d74
           refine Step2.live (show wantedBy _ (f 74) = true by rw [d74]; rfl) ?_
           obtain ⟨u0, u1, u2, u3, u4, u5, u6, u7, ufz⟩ := hC.facts
           have ev : ∀ t, evalOf f (.tmp t) = f t := fun _ => rfl
           have ec : ∀ c, evalOf f (.const c) = c := fun _ => rfl
           refine relUpon_value ?_ hC trivial rfl
           go_simp
          ·intro w L f hC hLi hLd hLn hF
           obtain ⟨d82, d74, _⟩ := hF
           have d82 : f 82 = .int .i64 ((s.i : Int)) := d82
           have d74 : f 74 = .bool true := d74
           refine Step2.live (show wantedBy _ (f 74) = true by rw [d74]; rfl) ?_
           obtain ⟨u0, u1, u2, u3, u4, u5, u6, u7, ufz⟩ := hC.facts
           have ev : ∀ t, evalOf f (.tmp t) = f t := fun _ => rfl
           have ec : ∀ c, evalOf f (.const c) = c := fun _ => rfl
           refine relUpon_value ?_ hC trivial rfl
           go_simp
          ·intro w L f hC hLi hLd hLn hF
           obtain ⟨d78, d83, d74, _⟩ := hF
           have d78 : f 78 = .slice (some ⟨b, off, none⟩) C.tk.length Z.c := d78
           have d83 : f 83 = .int .i64 ((s.i : Int) + 2) := d83
           have d74 : f 74 = .bool true := d74
           refine Step2.live (show wantedBy _ (f 74) = true by rw [d74]; rfl) ?_
           obtain ⟨u0, u1, u2, u3, u4, u5, u6, u7, ufz⟩ := hC.facts
           have ev : ∀ t, evalOf f (.tmp t) = f t := fun _ => rfl
           have ec : ∀ c, evalOf f (.const c) = c := fun _ => rfl
           refine relUpon_value ?_ hC trivial rfl
           go_simp
          ·intro w L f hC hLi hLd hLn hF
           obtain ⟨d84, d74, _⟩ := hF
           have d84 : f 84 = .pointer (some ⟨b, off + (s.i + 2) * 3, none⟩) := d84
           have d74 : f 74 = .bool true := d74
           refine Step2.live (show wantedBy _ (f 74) = true by rw [d74]; rfl) ?_
           obtain ⟨u0, u1, u2, u3, u4, u5, u6, u7, ufz⟩ := hC.facts
           have ev : ∀ t, evalOf f (.tmp t) = f t := fun _ => rfl
           have ec : ∀ c, evalOf f (.const c) = c := fun _ => rfl
           refine relUpon_value ?_ hC trivial rfl
           go_simp
          ·intro w L f hC hLi hLd hLn hF
           obtain ⟨d85, d74, _⟩ := hF
           have d85 : f 85 = .pointer (some ⟨b, off + (s.i + 2) * 3 + 1, none⟩) := d85
           have d74 : f 74 = .bool true := d74
           refine Step2.live (show wantedBy _ (f 74) = true by rw [d74]; rfl) ?_
           obtain ⟨u0, u1, u2⟩ := hC.tok hx2.out hA
           have ev : ∀ t, evalOf f (.tmp t) = f t := fun _ => rfl
           have ec : ∀ c, evalOf f (.const c) = c := fun _ => rfl
           refine relUpon_value ?_ hC trivial rfl
           go_simp
          ·intro w L f hC hLi hLd hLn hF
           obtain ⟨d86, d74, _⟩ := hF
           have d86 : f 86 = .string (strV x2.t) := d86
           have d74 : f 74 = .bool true := d74
           refine Step2.live (show wantedBy _ (f 74) = true by rw [d74]; rfl) ?_
           obtain ⟨u0, u1, u2, u3, u4, u5, u6, u7, ufz⟩ := hC.facts
           have ev : ∀ t, evalOf f (.tmp t) = f t := fun _ => rfl
           have ec : ∀ c, evalOf f (.const c) = c := fun _ => rfl
           refine relUpon_value ?_ hC trivial rfl
           go_simp
          ·intro w L f hC hLi hLd hLn hF
           obtain ⟨d74, d87, _⟩ := hF
           have d74 : f 74 = .bool true := d74
           have d87 : f 87 = .bool true := d87
           refine Step2.live rfl ?_
           obtain ⟨u0, u1, u2, u3, u4, u5, u6, u7, ufz⟩ := hC.facts
           have ev : ∀ t, evalOf f (.tmp t) = f t := fun _ => rfl
           have ec : ∀ c, evalOf f (.const c) = c := fun _ => rfl
           refine relUpon_value ?_ hC trivial rfl
           go_simp
          ·intro w L f hC hLi hLd hLn hF
           obtain ⟨d88, _⟩ := hF
           have d88 : f 88 = .bool true := d88
           refine Step2.live rfl ?_
           exact relUpon_value (v := f 88) rfl (hC) (trivial) d88
          ·intro w L f hC hLi hLd hLn hF
           obtain ⟨d0, d89, _⟩ := hF
           have d0 : f 0 = .pointer (some ⟨Z.g, 0, none⟩) := d0
           have d89 : f 89 = .bool true := d89
           refine Step2.live (show wantedBy _ (f 89) = true by rw [d89]; rfl) ?_
           exact relUpon_value (v := f 0) rfl (hC) (trivial) d0
          ·intro w L f hC hLi hLd hLn hF
           obtain ⟨d90, d89, _⟩ := hF
           have d90 : f 90 = .pointer (some ⟨Z.g, 0, none⟩) := d90
           have d89 : f 89 = .bool true := d89
           refine Step2.live (show wantedBy _ (f 89) = true by rw [d89]; rfl) ?_
           obtain ⟨u0, u1, u2, u3, u4, u5, u6, u7, ufz⟩ := hC.facts
           have ev : ∀ t, evalOf f (.tmp t) = f t := fun _ => rfl
           have ec : ∀ c, evalOf f (.const c) = c := fun _ => rfl
           refine relUpon_value ?_ hC trivial rfl
           go_simp
          ·intro w L f hC hLi hLd hLn hF
           obtain ⟨d91, d89, _⟩ := hF
           have d91 : f 91 = .pointer (some ⟨Z.g, 0, none⟩) := d91
           have d89 : f 89 = .bool true := d89
           refine Step2.live (show wantedBy _ (f 89) = true by rw [d89]; rfl) ?_
           obtain ⟨u0, u1, u2, u3, u4, u5, u6, u7, ufz⟩ := hC.facts
           have ev : ∀ t, evalOf f (.tmp t) = f t := fun _ => rfl
           have ec : ∀ c, evalOf f (.const c) = c := fun _ => rfl
           refine relUpon_value ?_ hC trivial rfl
           go_simp
          ·intro w L f hC hLi hLd hLn hF
           obtain ⟨d92, d89, _⟩ := hF
           have d92 : f 92 = .pointer (some ⟨Z.g, 0, none⟩) := d92
           have d89 : f 89 = .bool true := d89
           refine Step2.live (show wantedBy _ (f 89) = true by rw [d89]; rfl) ?_
           obtain ⟨u0, u1, u2, u3, u4, u5, u6, u7, ufz⟩ := hC.facts
           have ev : ∀ t, evalOf f (.tmp t) = f t := fun _ => rfl
           have ec : ∀ c, evalOf f (.const c) = c := fun _ => rfl
           refine relUpon_value ?_ hC trivial rfl
           go_simp
          ·intro w L f hC hLi hLd hLn hF
           obtain ⟨d0, d89, _⟩ := hF
           have d0 : f 0 = .pointer (some ⟨Z.g, 0, none⟩) := d0
           have d89 : f 89 = .bool true := d89
           refine Step2.live (show wantedBy _ (f 89) = true by rw [d89]; rfl) ?_
           exact relUpon_value (v := f 0) rfl (hC) (trivial) d0
          ·intro w L f hC hLi hLd hLn hF
           obtain ⟨d94, d89, _⟩ := hF
           have d94 : f 94 = .pointer (some ⟨Z.g, 0, none⟩) := d94
           have d89 : f 89 = .bool true := d89
           refine Step2.live (show wantedBy _ (f 89) = true by rw [d89]; rfl) ?_
           obtain ⟨u0, u1, u2, u3, u4, u5, u6, u7, ufz⟩ := hC.facts
           have ev : ∀ t, evalOf f (.tmp t) = f t := fun _ => rfl
           have ec : ∀ c, evalOf f (.const c) = c := fun _ => rfl
           refine relUpon_value ?_ hC trivial rfl
           go_simp
          ·intro w L f hC hLi hLd hLn hF
           obtain ⟨d95, d89, _⟩ := hF
           have d95 : f 95 = .pointer (some ⟨Z.g, 0, none⟩) := d95
           have d89 : f 89 = .bool true := d89
           refine Step2.live (show wantedBy _ (f 89) = true by rw [d89]; rfl) ?_
           obtain ⟨u0, u1, u2, u3, u4, u5, u6, u7, ufz⟩ := hC.facts
           have ev : ∀ t, evalOf f (.tmp t) = f t := fun _ => rfl
           have ec : ∀ c, evalOf f (.const c) = c := fun _ => rfl
           refine relUpon_value ?_ hC trivial rfl
           go_simp
          ·intro w L f hC hLi hLd hLn hF
           obtain ⟨d96, d89, _⟩ := hF
           have d96 : f 96 = .pointer (some ⟨Z.g, 1, none⟩) := d96
           have d89 : f 89 = .bool true := d89
           refine Step2.live (show wantedBy _ (f 89) = true by rw [d89]; rfl) ?_
           obtain ⟨u0, u1, u2, u3, u4, u5, u6, u7, ufz⟩ := hC.facts
           have ev : ∀ t, evalOf f (.tmp t) = f t := fun _ => rfl
           have ec : ∀ c, evalOf f (.const c) = c := fun _ => rfl
           refine relUpon_value ?_ hC trivial rfl
           go_simp
          ·intro w L f hC hLi hLd hLn hF
           obtain ⟨d97, d89, _⟩ := hF
           have d97 : f 97 = .int .i64 ((s.i : Int)) := d97
           have d89 : f 89 = .bool true := d89
           refine Step2.live (show wantedBy _ (f 89) = true by rw [d89]; rfl) ?_
           obtain ⟨u0, u1, u2, u3, u4, u5, u6, u7, ufz⟩ := hC.facts
           have ev : ∀ t, evalOf f (.tmp t) = f t := fun _ => rfl
           have ec : ∀ c, evalOf f (.const c) = c := fun _ => rfl
           refine relUpon_value ?_ hC trivial rfl
           go_simp
          ·intro w L f hC hLi hLd hLn hF
           obtain ⟨d93, d98, d89, _⟩ := hF
           have d93 : f 93 = .slice (some ⟨b, off, none⟩) C.tk.length Z.c := d93
           have d98 : f 98 = .int .i64 ((s.i : Int) + 1) := d98
           have d89 : f 89 = .bool true := d89
           refine Step2.live (show wantedBy _ (f 89) = true by rw [d89]; rfl) ?_
           obtain ⟨u0, u1, u2, u3, u4, u5, u6, u7, ufz⟩ := hC.facts
           have ev : ∀ t, evalOf f (.tmp t) = f t := fun _ => rfl
           have ec : ∀ c, evalOf f (.const c) = c := fun _ => rfl
           refine relUpon_value ?_ hC trivial rfl
           go_simp
          ·intro w L f hC hLi hLd hLn hF
           obtain ⟨d99, d89, _⟩ := hF
           have d99 : f 99 = .pointer (some ⟨b, off + (s.i + 1) * 3, none⟩) := d99
           have d89 : f 89 = .bool true := d89
           refine Step2.live (show wantedBy _ (f 89) = true by rw [d89]; rfl) ?_
           obtain ⟨u0, u1, u2, u3, u4, u5, u6, u7, ufz⟩ := hC.facts
           have ev : ∀ t, evalOf f (.tmp t) = f t := fun _ => rfl
           have ec : ∀ c, evalOf f (.const c) = c := fun _ => rfl
           refine relUpon_value ?_ hC trivial rfl
           go_simp
          ·intro w L f hC hLi hLd hLn hF
           obtain ⟨d100, d89, _⟩ := hF
           have d100 : f 100 = .pointer (some ⟨b, off + (s.i + 1) * 3 + 1, none⟩) := d100
           have d89 : f 89 = .bool true := d89
           refine Step2.live (show wantedBy _ (f 89) = true by rw [d89]; rfl) ?_
           obtain ⟨u0, u1, u2⟩ := hC.tok hx1.out hA
           have ev : ∀ t, evalOf f (.tmp t) = f t := fun _ => rfl
           have ec : ∀ c, evalOf f (.const c) = c := fun _ => rfl
           refine relUpon_value ?_ hC trivial rfl
           go_simp
          ·intro w L f hC hLi hLd hLn hF
           obtain ⟨d101, d89, _⟩ := hF
           have d101 : f 101 = .string (strV x1.t) := d101
           have d89 : f 89 = .bool true := d89
           refine Step2.live (show wantedBy _ (f 89) = true by rw [d89]; rfl) ?_
           obtain ⟨u0, u1, u2, u3, u4, u5, u6, u7, ufz⟩ := hC.facts
           have ev : ∀ t, evalOf f (.tmp t) = f t := fun _ => rfl
           have ec : ∀ c, evalOf f (.const c) = c := fun _ => rfl
           refine relUpon_value ?_ hC trivial rfl
           go_simp
          ·intro w L f hC hLi hLd hLn hF
           obtain ⟨d102, d89, _⟩ := hF
           have d102 : f 102 = .bool false := d102
           have d89 : f 89 = .bool true := d89
           refine Step2.live (show wantedBy _ (f 89) = true by rw [d89]; rfl) ?_
           exact relUpon_value (v := f 102) rfl (hC) (trivial) d102
          ·intro w L f hC hLi hLd hLn hF
           obtain ⟨d0, d103, _⟩ := hF
           have d0 : f 0 = .pointer (some ⟨Z.g, 0, none⟩) := d0
           have d103 : f 103 = .bool false := d103
           refine Step2.live (show wantedBy _ (f 103) = true by rw [d103]; rfl) ?_
           exact relUpon_value (v := f 0) rfl (hC) (trivial) d0
          ·intro w L f hC hLi hLd hLn hF
           obtain ⟨d104, d103, _⟩ := hF
           have d104 : f 104 = .pointer (some ⟨Z.g, 0, none⟩) := d104
           have d103 : f 103 = .bool false := d103
           refine Step2.live (show wantedBy _ (f 103) = true by rw [d103]; rfl) ?_
           obtain ⟨u0, u1, u2, u3, u4, u5, u6, u7, ufz⟩ := hC.facts
           have ev : ∀ t, evalOf f (.tmp t) = f t := fun _ => rfl
           have ec : ∀ c, evalOf f (.const c) = c := fun _ => rfl
           refine relUpon_value ?_ hC trivial rfl
           go_simp
          ·intro w L f hC hLi hLd hLn hF
           obtain ⟨d105, d103, _⟩ := hF
           have d105 : f 105 = .pointer (some ⟨Z.g, 0, none⟩) := d105
           have d103 : f 103 = .bool false := d103
           refine Step2.live (show wantedBy _ (f 103) = true by rw [d103]; rfl) ?_
           obtain ⟨u0, u1, u2, u3, u4, u5, u6, u7, ufz⟩ := hC.facts
           have ev : ∀ t, evalOf f (.tmp t) = f t := fun _ => rfl
           have ec : ∀ c, evalOf f (.const c) = c := fun _ => rfl
           refine relUpon_value ?_ hC trivial rfl
           go_simp
          ·intro w L f hC hLi hLd hLn hF
           obtain ⟨d106, d103, _⟩ := hF
           have d106 : f 106 = .pointer (some ⟨Z.g, 0, none⟩) := d106
           have d103 : f 103 = .bool false := d103
           refine Step2.live (show wantedBy _ (f 103) = true by rw [d103]; rfl) ?_
           obtain ⟨u0, u1, u2, u3, u4, u5, u6, u7, ufz⟩ := hC.facts
           have ev : ∀ t, evalOf f (.tmp t) = f t := fun _ => rfl
           have ec : ∀ c, evalOf f (.const c) = c := fun _ => rfl
           refine relUpon_value ?_ hC trivial rfl
           go_simp
          ·intro w L f hC hLi hLd hLn hF
           obtain ⟨d0, d103, _⟩ := hF
           have d0 : f 0 = .pointer (some ⟨Z.g, 0, none⟩) := d0
           have d103 : f 103 = .bool false := d103
           refine Step2.live (show wantedBy _ (f 103) = true by rw [d103]; rfl) ?_
           exact relUpon_value (v := f 0) rfl (hC) (trivial) d0
          ·intro w L f hC hLi hLd hLn hF
           obtain ⟨d108, d103, _⟩ := hF
           have d108 : f 108 = .pointer (some ⟨Z.g, 0, none⟩) := d108
           have d103 : f 103 = .bool false := d103
           refine Step2.live (show wantedBy _ (f 103) = true by rw [d103]; rfl) ?_
           obtain ⟨u0, u1, u2, u3, u4, u5, u6, u7, ufz⟩ := hC.facts
           have ev : ∀ t, evalOf f (.tmp t) = f t := fun _ => rfl
           have ec : ∀ c, evalOf f (.const c) = c := fun _ => rfl
           refine relUpon_value ?_ hC trivial rfl
           go_simp
          ·intro w L f hC hLi hLd hLn hF
           obtain ⟨d109, d103, _⟩ := hF
           have d109 : f 109 = .pointer (some ⟨Z.g, 0, none⟩) := d109
           have d103 : f 103 = .bool false := d103
           refine Step2.live (show wantedBy _ (f 103) = true by rw [d103]; rfl) ?_
           obtain ⟨u0, u1, u2, u3, u4, u5, u6, u7, ufz⟩ := hC.facts
           have ev : ∀ t, evalOf f (.tmp t) = f t := fun _ => rfl
           have ec : ∀ c, evalOf f (.const c) = c := fun _ => rfl
           refine relUpon_value ?_ hC trivial rfl
           go_simp
          ·intro w L f hC hLi hLd hLn hF
           obtain ⟨d110, d103, _⟩ := hF
           have d110 : f 110 = .pointer (some ⟨Z.g, 1, none⟩) := d110
           have d103 : f 103 = .bool false := d103
           refine Step2.live (show wantedBy _ (f 103) = true by rw [d103]; rfl) ?_
           obtain ⟨u0, u1, u2, u3, u4, u5, u6, u7, ufz⟩ := hC.facts
           have ev : ∀ t, evalOf f (.tmp t) = f t := fun _ => rfl
           have ec : ∀ c, evalOf f (.const c) = c := fun _ => rfl
           refine relUpon_value ?_ hC trivial rfl
           go_simp
          ·intro w L f hC hLi hLd hLn hF
           obtain ⟨d111, d103, _⟩ := hF
           have d111 : f 111 = .int .i64 ((s.i : Int)) := d111
           have d103 : f 103 = .bool false := d103
           refine Step2.live (show wantedBy _ (f 103) = true by rw [d103]; rfl) ?_
           obtain ⟨u0, u1, u2, u3, u4, u5, u6, u7, ufz⟩ := hC.facts
           have ev : ∀ t, evalOf f (.tmp t) = f t := fun _ => rfl
           have ec : ∀ c, evalOf f (.const c) = c := fun _ => rfl
           refine relUpon_value ?_ hC trivial rfl
           go_simp
          ·intro w L f hC hLi hLd hLn hF
           obtain ⟨d107, d112, d103, _⟩ := hF
           have d107 : f 107 = .slice (some ⟨b, off, none⟩) C.tk.length Z.c := d107
           have d112 : f 112 = .int .i64 ((s.i : Int) + 1) := d112
           have d103 : f 103 = .bool false := d103
           refine Step2.live (show wantedBy _ (f 103) = true by rw [d103]; rfl) ?_
           obtain ⟨u0, u1, u2, u3, u4, u5, u6, u7, ufz⟩ := hC.facts
           have ev : ∀ t, evalOf f (.tmp t) = f t := fun _ => rfl
           have ec : ∀ c, evalOf f (.const c) = c := fun _ => rfl
           refine relUpon_value ?_ hC trivial rfl
           go_simp
          ·intro w L f hC hLi hLd hLn hF
           obtain ⟨d113, d103, _⟩ := hF
           have d113 : f 113 = .pointer (some ⟨b, off + (s.i + 1) * 3, none⟩) := d113
           have d103 : f 103 = .bool false := d103
           refine Step2.live (show wantedBy _ (f 103) = true by rw [d103]; rfl) ?_
           obtain ⟨u0, u1, u2, u3, u4, u5, u6, u7, ufz⟩ := hC.facts
           have ev : ∀ t, evalOf f (.tmp t) = f t := fun _ => rfl
           have ec : ∀ c, evalOf f (.const c) = c := fun _ => rfl
           refine relUpon_value ?_ hC trivial rfl
           go_simp
          ·intro w L f hC hLi hLd hLn hF
           obtain ⟨d114, d103, _⟩ := hF
           have d114 : f 114 = .pointer (some ⟨b, off + (s.i + 1) * 3 + 1, none⟩) := d114
           have d103 : f 103 = .bool false := d103
           refine Step2.live (show wantedBy _ (f 103) = true by rw [d103]; rfl) ?_
           obtain ⟨u0, u1, u2⟩ := hC.tok hx1.out hA
           have ev : ∀ t, evalOf f (.tmp t) = f t := fun _ => rfl
           have ec : ∀ c, evalOf f (.const c) = c := fun _ => rfl
           refine relUpon_value ?_ hC trivial rfl
           go_simp
          ·intro w L f hC hLi hLd hLn hF
           obtain ⟨d115, d103, _⟩ := hF
           have d115 : f 115 = .string (strV x1.t) := d115
           have d103 : f 103 = .bool false := d103
           refine Step2.live (show wantedBy _ (f 103) = true by rw [d103]; rfl) ?_
           obtain ⟨u0, u1, u2, u3, u4, u5, u6, u7, ufz⟩ := hC.facts
           have ev : ∀ t, evalOf f (.tmp t) = f t := fun _ => rfl
           have ec : ∀ c, evalOf f (.const c) = c := fun _ => rfl
           refine relUpon_value ?_ hC trivial rfl
           go_simp
          ·intro w L f hC hLi hLd hLn hF
           obtain ⟨d103, d116, d89, _⟩ := hF
           have d103 : f 103 = .bool false := d103
           have d116 : f 116 = .bool false := d116
           have d89 : f 89 = .bool true := d89
           refine Step2.live (show wantedBy _ (f 89) = true by rw [d89]; rfl) ?_
           obtain ⟨u0, u1, u2, u3, u4, u5, u6, u7, ufz⟩ := hC.facts
           have ev : ∀ t, evalOf f (.tmp t) = f t := fun _ => rfl
           have ec : ∀ c, evalOf f (.const c) = c := fun _ => rfl
           refine relUpon_value ?_ hC trivial rfl
           go_simp
          ·intro w L f hC hLi hLd hLn hF
           obtain ⟨d89, d117, _⟩ := hF
           have d89 : f 89 = .bool true := d89
           have d117 : f 117 = .bool false := d117
           refine Step2.live rfl ?_
           obtain ⟨u0, u1, u2, u3, u4, u5, u6, u7, ufz⟩ := hC.facts
           have ev : ∀ t, evalOf f (.tmp t) = f t := fun _ => rfl
           have ec : ∀ c, evalOf f (.const c) = c := fun _ => rfl
           refine relUpon_value ?_ hC trivial rfl
           go_simp
         intro x w' hC hV

         have e0 : x 59 = .bool nf := (hV 59 _ rfl rfl).trans (by rw [hN2.out])
         clear hV
         simp only [framed]
         rw [e0]
         have hC := Lib.hid hC
         go_wp2_with fail
         go_meet
         case rel => exact ⟨rfl, hC⟩
   case rest =>
    obtain ⟨rfl, h3⟩ := hcut
    clear hgo
    cases hnv : nf with
    | true =>
     rw [hnv] at hNull hnf
     have hNv := hNull.out
     simp only [Bool.true_eq, Bool.and_eq_true, decide_eq_true_eq] at hNv
     obtain ⟨hn, hi2, q2, q1⟩ := hNv
     obtain ⟨x1, hx1⟩ : ∃ x, C.tk[s.i + 1]? = some x := ⟨_, List.getElem?_eq_getElem (by omega)⟩
     obtain ⟨x0, hx0⟩ : ∃ x, C.tk[s.i]? = some x := ⟨_, List.getElem?_eq_getElem (by omega)⟩
     obtain ⟨b, off, hA, hbg, _⟩ := hTok.out.tok (k := s.i) (by omega)
     have hT0 : txtAt C s.i = x0.t := by unfold txtAt; rw [hx0]
     have hT1 : txtAt C (s.i + 1) = x1.t := by unfold txtAt; rw [hx1]
     have hl0 := (hTok.out.fit.txt x0 (List.mem_of_getElem? hx0)).1
     have hF : R = ((if x1.t == [33, 61] then .mk 8 .nil .nil (.mk 9 .nil .nil .nil .nil x0.t) .nil [] else .mk 9 .nil .nil .nil .nil x0.t), { s with i := s.i + 3 }) := by
      rw [hR.out]; unfold notF; rw [h33.out, h40.out, ← hnf.out, hT0, hT1]; rfl
     have hok3 : PS.Ok C { s with i := s.i + 3 } := ⟨by simp only; omega, hTok.out.ok.n, hTok.out.ok.at_, hTok.out.ok.e, hTok.out.ok.deep⟩
     replace hok3 := Lib.hid hok3
     replace hx1 := Lib.hid hx1
     replace hx0 := Lib.hid hx0
     replace hn := Lib.hid hn
     replace h3 := Lib.hid h3.out
     clear hNull hnf hnv hT0 hT1 q1 q2 hR hTok
     have hw2 := i64_next (i := s.i) (by omega)
     have hw3 : IntKind.i64.wrap ((s.i : Int) + 3) = (s.i : Int) + 3 := IntWalk.i64_in _ (by omega)
     have p1 : (0 : Int) ≤ (s.i : Int) + 1 := by omega
     have p3 : ((s.i : Int) + 1).toNat = s.i + 1 := by omega
     have p5 : (s.i : Int) + 1 < (C.tk.length : Int) := by omega
     obtain ⟨a0, d0, d1, d2, d3, d4, d5, d6, dfz⟩ := h3.out.facts
     obtain ⟨t0, t1, t2⟩ := h3.out.tok hx0.out hA
     have hlt : s.i < C.tk.length := by omega
     go_wp2_with fail
     go_still_tail 11, (by kernel_rfl)
     have h4 := Lib.hid (h3.out.below (Below.refl _ wc).drew)
     change wpList _ _ _ _ _ wc.drew
     obtain ⟨w5, hw5⟩ : ∃ x, x = wc.drew := ⟨_, rfl⟩
     rw [← hw5] at h4 ⊢
     clear hw5 a0 d0 d1 d2 d3 d4 d5 d6 dfz t0 t1 t2 h3
     have h5 := h4.out.below (below_new w5 (.cells #[.int .i64 9, .pointer none, .pointer none, .pointer none, .pointer none, .string (strV x0.t)] 122))
     have hT5 : CnAt (w5.alloc (.cells #[.int .i64 9, .pointer none, .pointer none, .pointer none, .pointer none, .string (strV x0.t)] 122)) (Ge w.heap.size) (.mk 9 .nil .nil .nil .nil x0.t) (.pointer (some ⟨w5.heap.size, 0, none⟩)) :=
      CnAt.new 9 x0.t (by decide) hl0 h4.out.wr.size rfl (ExAt.nil_ _ _) (ExAt.nil_ _ _) (CnAt.nil_ _ _) (CnAt.nil_ _ _)
     obtain ⟨w6, hw6⟩ : ∃ x, x = w5.alloc (.cells #[.int .i64 9, .pointer none, .pointer none, .pointer none, .pointer none, .string (strV x0.t)] 122) := ⟨_, rfl⟩
     rw [← hw6] at h5 hT5
     obtain ⟨g5, hg5⟩ : ∃ x, x = w5.heap.size := ⟨_, rfl⟩
     rw [← hg5] at hT5
     go_wp2_with fail
     rw [← hw6, ← hg5]
     clear hw6 hg5 h4
     obtain ⟨a0, d0, d1, d2, d3, d4, d5, d6, dfz⟩ := h5.facts
     obtain ⟨t0, t1, t2⟩ := h5.tok hx1.out hA
     replace h5 := Lib.hid h5
     replace hT5 := Lib.hid hT5
     by_cases q1 : x1.t = [33, 61]
     ·have k1 : ((strV x1.t).toList == [33, 61]) = true := by rw [strV_toList, q1]; rfl
      replace hF : Hid (R = (.mk 8 .nil .nil (.mk 9 .nil .nil .nil .nil x0.t) .nil [], { s with i := s.i + 3 })) := Lib.hid (by rw [hF, q1]; rfl)
      clear q1
      go_quiet (fail)
      have h6 := h5.out.below (below_drewN (Below.refl _ w6) nq)
      have hT6 := hT5.out.below (below_drewN (Below.refl _ w6) nq)
      obtain ⟨w7, hw7⟩ : ∃ x, x = w6.drewN nq := ⟨_, rfl⟩
      rw [← hw7] at h6 hT6 ⊢
      clear hw7 a0 d0 d1 d2 d3 d4 d5 d6 dfz t0 t1 t2 h5 hT5
      obtain ⟨a0, d0, d1, d2, d3, d4, d5, d6, dfz⟩ := h6.facts
      replace h6 := Lib.hid h6
      replace hT6 := Lib.hid hT6
      go_wp2_with fail
      go_ret
      have hS := h6.out.store (s2 := { s with i := s.i + 3 }) 1 (.int .i64 ((s.i : Int) + 3)) (by simp [PS.cells]) hok3.out
      have hst : Writes [some Z.g] w7 (w7.setCell ⟨Z.g, 1, none⟩ (.int .i64 ((s.i : Int) + 3))) := Writes.store w7 (by simp) _
      rw [hF.out]
      exact CnPost.of (hS.below (below_new _ _)) (CnAt.new 8 [] (by decide) (by simp) (Nat.le_trans h6.out.wr.size hst.size) (setCell_size _ _ _).symm (ExAt.nil_ _ _) (ExAt.nil_ _ _) (hT6.out.pw hst hlt0) (CnAt.nil_ _ _))
     ·have k1 : ((strV x1.t).toList == [33, 61]) = false := by rw [strV_toList]; simpa using q1
      replace hF : Hid (R = (.mk 9 .nil .nil .nil .nil x0.t, { s with i := s.i + 3 })) := Lib.hid (by rw [hF, show (x1.t == [33, 61]) = false by simpa using q1]; rfl)
      clear q1
      go_quiet (fail)
      have h8 := h5.out.below (below_drewN (Below.refl _ w6) nq)
      have hT8 := hT5.out.below (below_drewN (Below.refl _ w6) nq)
      obtain ⟨w8, hw8⟩ : ∃ x, x = w6.drewN nq := ⟨_, rfl⟩
      rw [← hw8] at h8 hT8 ⊢
      clear hw8 a0 d0 d1 d2 d3 d4 d5 d6 dfz t0 t1 t2 h5 hT5
      obtain ⟨a0, d0, d1, d2, d3, d4, d5, d6, dfz⟩ := h8.facts
      replace h8 := Lib.hid h8
      replace hT8 := Lib.hid hT8
      go_wp2_with fail
      go_ret
      have hS := h8.out.store (s2 := { s with i := s.i + 3 }) 1 (.int .i64 ((s.i : Int) + 3)) (by simp [PS.cells]) hok3.out
      have hst : Writes [some Z.g] w8 (w8.setCell ⟨Z.g, 1, none⟩ (.int .i64 ((s.i : Int) + 3))) := Writes.store w8 (by simp) _
      rw [hF.out]
      exact CnPost.of hS (hT8.out.pw hst hlt0)
    | false =>
     rw [hnv] at hnf
     obtain ⟨r, hr⟩ : ∃ x, x = sum C s := ⟨_, rfl⟩
     have hd := (hs0 C s).dp
     rw [← hr] at hd
     have hF : Hid (cmpF C (sum C) r.1 0 cmpT r.2 = R) := Lib.hid (by rw [hR.out, hr]; unfold notF; rw [h33.out, h40.out, ← hnf.out]; rfl)
     have hdm : m ≤ r.2.deep := by omega
     replace hr := Lib.hid hr
     clear hNull hnf hnv hR hTok hd
     go_wp2_with fail
     refine (hsum.from_ h3.out hm hr.out.symm).mono ?_
     rintro e w4 ⟨p, rfl, h4, hE, -⟩
     have hHn := Holds.new w4 9 #[.string ⟨#[61, 61]⟩, .string ⟨#[33, 61]⟩, .string ⟨#[60]⟩, .string ⟨#[60, 61]⟩, .string ⟨#[62]⟩, .string ⟨#[62, 61]⟩]
     have hbn := below_new w4 (.cells #[.string ⟨#[61, 61]⟩, .string ⟨#[33, 61]⟩, .string ⟨#[60]⟩, .string ⟨#[60, 61]⟩, .string ⟨#[62]⟩, .string ⟨#[62, 61]⟩] 9)
     have h5 := h4.below hbn
     have hE5 := hE.below hbn
     obtain ⟨w5, hw5⟩ : ∃ x, x = w4.alloc (.cells #[.string ⟨#[61, 61]⟩, .string ⟨#[33, 61]⟩, .string ⟨#[60]⟩, .string ⟨#[60, 61]⟩, .string ⟨#[62]⟩, .string ⟨#[62, 61]⟩] 9) := ⟨_, rfl⟩
     obtain ⟨g5, hg5⟩ : ∃ x, x = w4.heap.size := ⟨_, rfl⟩
     have hgz : Hid (Z.g < g5) := Lib.hid (by rw [hg5]; exact h4.at_.lt)
     rw [← hw5] at hHn h5 hE5
     rw [← hg5] at hHn
     have hH5 := Lib.hid hHn
     replace h5 := Lib.hid h5
     replace hE5 := Lib.hid hE5
     clear h4 hE hbn hHn h3 hr
     go_wp2_with fail
     rw [← hw5, ← hg5]
     clear hw5 hg5
     go_loopw [8] (fun kv wr => ∃ k : Nat, k ≤ 6 ∧ kv = .int .i64 k ∧ Hid (cmpF C (sum C) r.1 k (cmpT.drop k) r.2 = R) ∧ Hid (Moved C Z r.2 w wr ∧ ExAt wr (Ge w.heap.size) r.1 (.pointer p) ∧ Holds wr g5 9 #[.string ⟨#[61, 61]⟩, .string ⟨#[33, 61]⟩, .string ⟨#[60]⟩, .string ⟨#[60, 61]⟩, .string ⟨#[62]⟩, .string ⟨#[62, 61]⟩])) (fun kv _ => 6 - (intOf kv).toNat)
     case atStart => exact ⟨0, by omega, rfl, hF, Lib.hid ⟨h5.out, hE5.out, hH5.out⟩⟩
     clear hF h5 hE5 hH5
     obtain ⟨k, hk, rfl, hF, hAll⟩ := hrel
     rename World => wl
     by_cases hk6 : k < 6
     ·have hk6' : (k : Int) < 6 := by omega
      have hlen6 : k < cmpT.length := hk6
      obtain ⟨t, ht⟩ : ∃ x, x = cmpT[k] := ⟨_, rfl⟩
      have hdk : cmpT.drop k = t :: cmpT.drop (k + 1) := by rw [ht]; exact List.drop_eq_getElem_cons hlen6
      have hcell : wl.cell? ⟨g5, k, none⟩ = some (.string ⟨t.toArray⟩) := by
       rw [hAll.out.2.2.cell, ht]
       exact cmp_at k hk6
      have hgl := hAll.out.2.2.lt
      cases hi : isF C t r.2 with
      | true =>
       obtain ⟨r2, hr2⟩ : ∃ x, x = sum C r.2.next := ⟨_, rfl⟩
       have hF2 : Hid (R = (.mk k r.1 r2.1 .nil .nil [], r2.2)) := Lib.hid (by rw [← hF.out, hdk, hr2]; unfold cmpF; rw [if_pos hi])
       replace hr2 := Lib.hid hr2
       replace hi := Lib.hid hi
       clear hF hdk ht
       go_wp2_with fail
       refine (take_yes hAll.out.1 t hi.out rfl).mono ?_
       rintro e w6 ⟨rfl, h6, hW6⟩
       have hE6 := Lib.hid (hAll.out.2.1.pw hW6 hlt0)
       replace h6 := Lib.hid h6
       clear hcell hgl hW6
       go_wp2_with fail
       refine (hsum.from_ h6.out (by simpa [PS.next] using hdm) hr2.out.symm).mono ?_
       rintro e w7 ⟨p2, rfl, h7, hE7, hW7⟩
       have hE8 := Lib.hid (hE6.out.pw hW7 hlt0)
       replace h7 := Lib.hid h7
       replace hE7 := Lib.hid hE7
       clear hW7
       go_wp2_with fail
       go_ret
       rw [hF2.out]
       exact CnPost.of (h7.out.below (below_new _ _)) (CnAt.new k [] (by omega) (by simp) h7.out.wr.size rfl hE8.out hE7.out (CnAt.nil_ _ _) (CnAt.nil_ _ _))
      | false =>
       have hF2 : Hid (cmpF C (sum C) r.1 (k + 1) (cmpT.drop (k + 1)) r.2 = R) := Lib.hid (by rw [← hF.out, hdk]; exact (cmpF_no hi _ _ _ ()).symm)
       replace hi := Lib.hid hi
       clear hF hdk ht
       go_wp2_with fail
       refine (take_no hAll.out.1 t hi.out).mono ?_
       rintro e w6 ⟨rfl, h6, hW6⟩
       have hA6 := Lib.hid (show Moved C Z r.2 w w6 ∧ ExAt w6 (Ge w.heap.size) r.1 (.pointer p) ∧ Holds w6 g5 9 #[.string ⟨#[61, 61]⟩, .string ⟨#[33, 61]⟩, .string ⟨#[60]⟩, .string ⟨#[60, 61]⟩, .string ⟨#[62]⟩, .string ⟨#[62, 61]⟩] from ⟨h6, hAll.out.2.1.pw hW6 hlt0, hW6.holds hAll.out.2.2 (by have := hgz.out; simp; omega)⟩)
       clear hcell hgl hW6 h6
       go_wp2_with fail
       go_roundw
       case rel => exact ⟨k + 1, by omega, by go_num, hF2, hA6⟩
       case measure => simp [intOf]; omega
     ·obtain rfl : k = 6 := by omega
      have hF2 : Hid (R = (.nil, failF C 51 r.2)) := Lib.hid (by rw [← hF.out]; rfl)
      go_wp2_with fail
      refine (fail_from hAll.out.1 51 (by decide) rfl).mono ?_
      rintro e w6 ⟨rfl, h6, -⟩
      replace h6 := Lib.hid h6
      go_wp2_with fail
      go_ret
      rw [hF2.out]
      exact CnPost.of h6.out (CnAt.nil_ _ _)
end Go.Proofs.Ytpndglghpojjkaa
/- Conditions are read as the plain parser reads them; a call's arguments in memory, and their walk. -/
namespace Go.Proofs.Ytpndglghpojjkaa
open Go.RowKit Go.Deep

theorem conds_all : ∀ d, d ≤ 40 → ReadsC 93 (40 - d) (fun C => notD C d) ∧ ReadsC 79 (40 - d) (fun C => andD C d) ∧ ReadsC 63 (40 - d) (fun C => condD C d)
 | 0, _ => by
  have h1 : ReadsC 93 40 (fun C => notD C 0) := not_step 40 (fun C => sumD C 0) (fun _ s => (.nil, s)) (fun _ s => (.nil, s)) (exprs_all 0 (by omega)).2.2 (ReadsC.vac _ _) (ReadsC.vac _ _) (fun C s => sumD_stp 0 s) (fun _ s => Stp.refl s) (fun _ s => Stp.refl s)
  have h2 : ReadsC 79 40 (fun C => andD C 0) := and_step 40 (fun C => notD C 0) h1 (fun C s => notD_stp 0 s)
  exact ⟨h1, h2, cond_step 40 (fun C => andD C 0) h2 (fun C s => andD_stp 0 s)⟩
 | d + 1, hd => by
  obtain ⟨i1, i2, i3⟩ := conds_all d (by omega)
  have e : 40 - d = 40 - (d + 1) + 1 := by omega
  rw [e] at i1 i2 i3
  have h1 : ReadsC 93 (40 - (d + 1)) (fun C => notD C (d + 1)) := not_step _ (fun C => sumD C (d + 1)) (fun C => condD C d) (fun C => notD C d) (exprs_all (d + 1) hd).2.2 i3 i1 (fun C s => sumD_stp (d + 1) s) (fun C s => condD_stp d s) (fun C s => notD_stp d s)
  have h2 : ReadsC 79 (40 - (d + 1)) (fun C => andD C (d + 1)) := and_step _ (fun C => notD C (d + 1)) h1 (fun C s => notD_stp (d + 1) s)
  exact ⟨h1, h2, cond_step _ (fun C => andD C (d + 1)) h2 (fun C s => andD_stp (d + 1) s)⟩

/-- The arguments l as cells, their trees in blocks of S. -/
def AgCells (w : World) (S : Nat → Prop) : List Ag → List Value → Prop
 | [], vs => vs = []
 | a :: l, vs => ∃ ve vs', vs = .bool a.ptr :: .string (strV a.nm) :: ve :: vs' ∧ a.nm.length ≤ 4096 ∧ ExAt w S a.e ve ∧ AgCells w S l vs'
section
variable {w w' : World} {S S' : Nat → Prop}
theorem AgCells.keep (hk : ∀ x, x < w.heap.size → S x → w'.heap[x]? = w.heap[x]?) : ∀ {l : List Ag} {vs : List Value}, AgCells w S l vs → AgCells w' S l vs
 | [], _, h => h
 | _ :: _, _, h => by
  obtain ⟨ve, vs', e, hn, h1, h2⟩ := h
  exact ⟨ve, vs', e, hn, h1.keep hk, AgCells.keep hk h2⟩
theorem AgCells.mono (hk : ∀ x, x < w.heap.size → S x → S' x) : ∀ {l : List Ag} {vs : List Value}, AgCells w S l vs → AgCells w S' l vs
 | [], _, h => h
 | _ :: _, _, h => by
  obtain ⟨ve, vs', e, hn, h1, h2⟩ := h
  exact ⟨ve, vs', e, hn, h1.mono hk, AgCells.mono hk h2⟩
theorem AgCells.length : ∀ {l : List Ag} {vs : List Value}, AgCells w S l vs → vs.length = l.length * 3
 | [], _, h => by rw [show _ = [] from h]; rfl
 | _ :: l, _, h => by
  obtain ⟨ve, vs', rfl, hn, h1, h2⟩ := h
  have := AgCells.length h2
  simp only [List.length_cons, this]
  omega
theorem AgCells.snoc : ∀ {l : List Ag} {vs : List Value}, AgCells w S l vs → ∀ {a : Ag} {ve : Value}, a.nm.length ≤ 4096 → ExAt w S a.e ve → AgCells w S (l ++ [a]) (vs ++ [.bool a.ptr, .string (strV a.nm), ve])
 | [], _, h, a, ve, hn, he => by rw [show _ = [] from h]; exact ⟨ve, [], rfl, hn, he, rfl⟩
 | _ :: _, _, h, a, ve, hn, he => by
  obtain ⟨v1, vs', rfl, hn1, h1, h2⟩ := h
  exact ⟨v1, vs' ++ [.bool a.ptr, .string (strV a.nm), ve], rfl, hn1, h1, AgCells.snoc h2 hn he⟩
end
/-- The cells vs behind A, in a block of S. -/
def RowS (w : World) (S : Nat → Prop) (A : Option Addr) (vs : List Value) : Prop :=
 vs ≠ [] → ∃ b off, A = some ⟨b, off, none⟩ ∧ S b ∧ ∀ j u, vs[j]? = some u → w.cell? ⟨b, off + j, none⟩ = some u
section
variable {w w' : World} {S S' : Nat → Prop} {A : Option Addr} {vs : List Value}
theorem RowS.nil_ (w : World) (S : Nat → Prop) (A : Option Addr) : RowS w S A [] := fun h => absurd rfl h
theorem RowS.lt (h : RowS w S A vs) (hn : vs ≠ []) {b off : Nat} (hA : A = some ⟨b, off, none⟩) : b < w.heap.size := by
 obtain ⟨b', off', e, hS, hc⟩ := h hn
 rw [hA] at e
 injection e with e
 injection e with e1 e2
 subst e1 e2
 rcases vs with _ | ⟨u, r⟩
 ·exact absurd rfl hn
 ·rcases Nat.lt_or_ge b w.heap.size with h1 | h1
  ·exact h1
  ·have := hc 0 u rfl
   simp [World.cell?, Array.getElem?_eq_none h1] at this
theorem RowS.keep (hk : ∀ x, x < w.heap.size → S x → w'.heap[x]? = w.heap[x]?) (h : RowS w S A vs) : RowS w' S A vs := fun hn => by
 obtain ⟨b, off, e, hS, hc⟩ := h hn
 exact ⟨b, off, e, hS, fun j u hu => (World.cell?_of_block (hk b (h.lt hn e) hS)).trans (hc j u hu)⟩
theorem RowS.mono (hk : ∀ x, x < w.heap.size → S x → S' x) (h : RowS w S A vs) : RowS w S' A vs := fun hn => by
 obtain ⟨b, off, e, hS, hc⟩ := h hn
 exact ⟨b, off, e, hk b (h.lt hn e) hS, hc⟩
theorem RowS.row {B : Nat} (h : RowS w (fun x => x < B) A vs) : Row w B A vs := h
/-- An owned row, read. -/
theorem RowS.own {base : Nat} {e : TypeId} {k n : Nat} {v : Value} (h : w.ownsRow base e k v n vs) (hS : ∀ g, v.ownBlock = some g → S g) : ∃ A c, v = .slice A n c ∧ RowS w S A vs ∧ (n ≤ c) := by
 have hl := h.1
 rcases h.2 with ⟨rfl, rfl⟩ | ⟨g, cap, cur, rfl, hg, hh, hn, _⟩
 ·have : vs = [] := List.eq_nil_of_length_eq_zero (by simpa using hl)
  subst this
  exact ⟨none, 0, rfl, RowS.nil_ _ _ _, Nat.le_refl _⟩
 ·refine ⟨_, cap, rfl, fun _ => ⟨g, 0, rfl, hS g (by simp [Value.ownBlock]), fun j u hu => ?_⟩, hn⟩
  have := h.cells (g := g) rfl j u hu
  have hadd : (⟨g, 0, none⟩ : Addr).add j = ⟨g, 0 + j, none⟩ := by unfold Addr.add; split <;> simp_all
  rw [← hadd]
  exact this
end
/-- The arguments l stand at v, in blocks of S. -/
def AgsAt (w : World) (S : Nat → Prop) (l : List Ag) (v : Value) : Prop := ∃ A c vs, v = .slice A l.length c ∧ l.length ≤ 100000 ∧ l.length ≤ c ∧ RowS w S A vs ∧ AgCells w S l vs
section
variable {w w' : World} {S S' : Nat → Prop} {l : List Ag} {v : Value}
theorem AgsAt.keep (hk : ∀ x, x < w.heap.size → S x → w'.heap[x]? = w.heap[x]?) (h : AgsAt w S l v) : AgsAt w' S l v := by
 obtain ⟨A, c, vs, e, h1, hc, h2, h3⟩ := h
 exact ⟨A, c, vs, e, h1, hc, h2.keep hk, h3.keep hk⟩
theorem AgsAt.mono (hk : ∀ x, x < w.heap.size → S x → S' x) (h : AgsAt w S l v) : AgsAt w S' l v := by
 obtain ⟨A, c, vs, e, h1, hc, h2, h3⟩ := h
 exact ⟨A, c, vs, e, h1, hc, h2.mono hk, h3.mono hk⟩
theorem AgsAt.below (h : AgsAt w S l v) (hb : Below w.heap.size w w') : AgsAt w' S l v := h.keep fun x hx _ => hb.block x hx
theorem AgsAt.pw {B g : Nat} (h : AgsAt w (Ge B) l v) (hW : Writes [some g] w w') (hg : g < B) : AgsAt w' (Ge B) l v :=
 h.keep fun x hx hS => hW.block x hx (fun e => by simp at e; subst e; exact absurd hS (Nat.not_le_of_lt hg))
theorem AgsAt.ge {B B' : Nat} (h : AgsAt w (Ge B') l v) (hB : B ≤ B') : AgsAt w (Ge B) l v := h.mono fun _ _ h => Nat.le_trans hB h
theorem AgsAt.nil_ (w : World) (S : Nat → Prop) : AgsAt w S [] (.slice none 0 0) := ⟨none, 0, [], rfl, by simp, by simp, RowS.nil_ _ _ _, rfl⟩
end
/-- What a call that reads arguments leaves. -/
def AgPost (C : PC) (L : PL) (r : List Ag × PS) (w : World) (e : Ending) (w' : World) : Prop := ∃ v, e = .returned v ∧ Moved C L r.2 w w' ∧ AgsAt w' (Ge w.heap.size) r.1 v
/-- Blocks from B on, but the one that v owns. -/
def GeBut (B : Nat) (v : Value) (x : Nat) : Prop := B ≤ x ∧ v.ownBlock ≠ some x
/-- The loop over arguments: how it stands. -/
structure ArgsL (C : PC) (L : PL) (sum : PS → Ex × PS) (m : Nat) (R : List Ag × PS) (f : Nat) (l : List Ag) (s : PS) (v : Value) (w0 w : World) : Prop where
 eq : argsL C sum f l s = R
 fuel : s.e = 0 → C.tk.length < s.i + f ∧ l.length ≤ s.i
 dp : m ≤ s.deep
 mv : Moved C L s w0 w
 own : ∃ vs, w.ownsRow w0.heap.size 106 3 v l.length vs ∧ AgCells w (GeBut w0.heap.size v) l vs
theorem ownK_ge {w : World} {base : Nat} {e : TypeId} {sz : Nat} {v : Value} {n : Nat} {xs : List Value} (h : w.ownsRow base e sz v n xs) {k : Nat} (hk : v.ownBlock = some k) : base ≤ k := by
 rcases h.2 with ⟨rfl, _⟩ | ⟨g, cap, cur, rfl, hb, _⟩
 ·cases hk
 ·simp [Value.ownBlock] at hk
  omega
theorem Try.infoArg : (Try.prog.info? 106).map (fun i => (i.zero, i.size, i.bytes)) = some (some (.agg #[.bool false, .string ⟨#[]⟩, .pointer none]), 3, 32) := by kernel_rfl
section
variable {C : PC} {L : PL} {sum : PS → Ex × PS} {m : Nat} {R : List Ag × PS} {f : Nat} {l : List Ag} {s : PS} {v : Value} {w0 w : World}
theorem ArgsL.stop (h : ArgsL C L sum m R f l s v w0 w) (hs : s.e ≠ 0) : R = ([], s) := by
 rw [← h.eq]
 cases f with
 | zero => rfl
 | succ f => unfold argsL; rw [if_pos hs]
theorem ArgsL.go_ (h : ArgsL C L sum m R f l s v w0 w) (he : s.e = 0) (hi : s.i ≤ C.tk.length) :
  ∃ f', f = f' + 1 ∧ R = if isF C [41] (sum s).2 then (l ++ [⟨false, [], (sum s).1⟩], (sum s).2.next) else argsL C sum f' (l ++ [⟨false, [], (sum s).1⟩]) (wantF C [44] (sum s).2) := by
 have hf := (h.fuel he).1
 cases f with
 | zero => omega
 | succ f =>
  refine ⟨f, rfl, ?_⟩
  rw [← h.eq]
  conv => lhs; unfold argsL
  rw [if_neg (by omega)]
end
/-- What the loop over arguments leaves is what is handed back. -/
theorem AgsAt.own {w : World} {base : Nat} {l : List Ag} {vs : List Value} {v : Value} (h : w.ownsRow base 106 3 v l.length vs) (h2 : AgCells w (GeBut base v) l vs) (hl : l.length ≤ 100000) : AgsAt w (Ge base) l v := by
 obtain ⟨A, c, e, hr, hc⟩ := RowS.own (S := Ge base) h (fun g hg => ownK_ge h hg)
 exact ⟨A, c, vs, e, hl, hc, hr, h2.mono fun x _ hx => hx.1⟩
/-- How much a parser may yet go on: less behind an error. -/
def left2 (L : PL) (w : World) : Nat := 2 * left6 L w + (if intOf ((w.cell? ⟨L.g, 3, none⟩).getD undef) = 0 then 1 else 0)
theorem Moved.left2 {C : PC} {L : PL} {s : PS} {w0 w : World} (h : Moved C L s w0 w) : left2 L w = 2 * (5000 - s.i) + (if s.e = 0 then 1 else 0) := by
 obtain ⟨a0, d0, d1, d2, d3, d4, d5, d6, dfz⟩ := h.facts
 unfold Go.Proofs.Ytpndglghpojjkaa.left2
 rw [h.left, d3]
 simp [intOf]
theorem left2_less {i i' e e' : Nat} (h0 : e = 0) (hi : i' ≤ 4096) (h1 : i ≤ i') (h2 : e' = 0 → i + 1 ≤ i') : 2 * (5000 - i') + (if e' = 0 then 1 else 0) < 2 * (5000 - i) + (if e = 0 then 1 else 0) := by
 rw [if_pos h0]
 split
 ·have := h2 ‹_›; omega
 ·omega
/-- A sum that can be read goes on, or fails. -/
theorem want_next {C : PC} {t : List UInt8} {s : PS} (h : (wantF C t s).e = 0) : s.i + 1 ≤ (wantF C t s).i := by
 unfold wantF at h ⊢
 split
 ·exact Nat.le_refl _
 ·rename_i hi
  rw [if_neg hi] at h
  exact absurd h (failF_e 51 (by decide) s)
theorem Reads6.near {f m : Nat} {F : PC → PS → Ex × PS} (h : Reads6 f m F) {C : PC} {L : PL} {s : PS} {w0 w : World} {r : Ex × PS} (hM : Moved C L s w0 w) (hm : m ≤ s.deep) (hr : F C s = r) :
  Calls Try.prog f #[.pointer (some ⟨L.g, 0, none⟩)] w fun e w' => ∃ p, e = .returned (.pointer p) ∧ Moved C L r.2 w0 w' ∧ ExAt w' (Ge w.heap.size) r.1 (.pointer p) ∧ Writes [some L.g] w w' := by
 subst hr
 refine (h C L w s hM.at_ hm).mono ?_
 rintro e w' ⟨p, rfl, h1, h2⟩
 exact ⟨p, rfl, hM.trans h1, h2, h1.wr⟩
theorem own_pw {w w' : World} {base g : Nat} {e : TypeId} {k n : Nat} {v : Value} {xs : List Value} (h : w.ownsRow base e k v n xs) (hW : Writes [some g] w w') (hg : g < base) : w'.ownsRow base e k v n xs :=
 hW.own h (by
  cases hq : v.ownBlock with
  | none => exact .inl rfl
  | some k => right; have := ownK_ge h hq; simp; omega)
theorem AgCells.pw {w w' : World} {base g : Nat} {v : Value} {l : List Ag} {vs : List Value} (h : AgCells w (GeBut base v) l vs) (hW : Writes [some g] w w') (hg : g < base) : AgCells w' (GeBut base v) l vs :=
 h.keep fun x hx hS => hW.block x hx fun e => by simp at e; subst e; exact absurd hS.1 (Nat.not_le_of_lt hg)
theorem own_len {w : World} {base : Nat} {e : TypeId} {k n n' : Nat} {v : Value} {xs : List Value} (h : w.ownsRow base e k v n xs) (hn : n = n') : w.ownsRow base e k v n' xs := hn ▸ h
theorem GeBut.step {w3 : World} {base : Nat} {v v' : Value} (hv : v'.ownBlock = v.ownBlock ∨ v'.ownBlock = some w3.heap.size) (x : Nat) (hx : x < w3.heap.size) (h : GeBut base v x) : GeBut base v' x := by
 refine ⟨h.1, ?_⟩
 rcases hv with hv | hv
 ·rw [hv]; exact h.2
 ·rw [hv]; simp; omega
theorem AgCells.push {w2 w3 w4 : World} {base : Nat} {v v' : Value} {l : List Ag} {vs : List Value} {a : Ag} {ve : Value} (h : AgCells w2 (GeBut base v) l vs) (ht : ExAt w2 (GeBut base v) a.e ve) (hn : a.nm.length ≤ 4096)
  (hb : Below w2.heap.size w2 w3) (hg : w3.grownBy w4 v.ownBlock) (hv : v'.ownBlock = v.ownBlock ∨ v'.ownBlock = some w3.heap.size) : AgCells w4 (GeBut base v') (l ++ [a]) (vs ++ [.bool a.ptr, .string (strV a.nm), ve]) := by
 have h3 : AgCells w3 (GeBut base v) (l ++ [a]) (vs ++ [.bool a.ptr, .string (strV a.nm), ve]) := (h.snoc hn ht).keep fun x hx _ => hb.block x hx
 have h4 : AgCells w4 (GeBut base v) (l ++ [a]) (vs ++ [.bool a.ptr, .string (strV a.nm), ve]) := h3.keep fun x hx hS => hg.block x hx fun e => hS.2 e.symm
 have h5 : AgCells w3 (fun x => GeBut base v x ∧ GeBut base v' x) (l ++ [a]) (vs ++ [.bool a.ptr, .string (strV a.nm), ve]) := h3.mono fun x hx hS => ⟨hS, GeBut.step hv x hx hS⟩
 have h6 : AgCells w4 (fun x => GeBut base v x ∧ GeBut base v' x) (l ++ [a]) (vs ++ [.bool a.ptr, .string (strV a.nm), ve]) := h5.keep fun x hx hS => hg.block x hx fun e => hS.1.2 e.symm
 exact h6.mono fun _ _ hS => hS.2
set_option maxRecDepth 100000 in
set_option maxHeartbeats 4000000 in
theorem args_step (m : Nat) (sum : PC → PS → Ex × PS) (hsum : Reads6 62 m sum) (hs : ∀ C s, Stp C s (sum C s).2) (C : PC) (L : PL) (w : World) (s : PS) (hP : PAt C L s w) (hm : m ≤ s.deep) :
  Calls Try.prog 65 #[.pointer (some ⟨L.g, 0, none⟩)] w (AgPost C L (argsF C (sum C) s) w) := by
 obtain ⟨iA, hiA, hzA0, hzA1, hzA2⟩ := info_parts Try.infoArg
 have hM := Lib.hid (Moved.refl hP)
 have hlt0 := hP.lt
 have hlen := hP.fit.len
 obtain ⟨R, hR⟩ : ∃ x, x = argsF C (sum C) s := ⟨_, rfl⟩
 rw [← hR]
 cases h41 : isF C [41] s with
 | true =>
  have hF : Hid (R = ([], s.next)) := Lib.hid (by rw [hR]; unfold argsF; rw [h41]; rfl)
  replace h41 := Lib.hid h41
  clear hR hP
  go_enter Try.func65, Try.ntmps65
  go_wp2_with fail
  refine (take_yes hM.out [41] h41.out rfl).mono ?_
  rintro e w1 ⟨rfl, h1, -⟩
  replace h1 := Lib.hid h1
  go_wp2_with fail
  go_ret
  rw [hF.out]
  exact ⟨_, rfl, h1.out, AgsAt.nil_ _ _⟩
 | false =>
  have hF : Hid (argsL C (sum C) (C.tk.length + 1) [] s = R) := Lib.hid (by rw [hR]; unfold argsF; rw [h41]; rfl)
  replace h41 := Lib.hid h41
  clear hR hP
  go_enter Try.func65, Try.ntmps65
  go_wp2_with fail
  refine (take_no hM.out [41] h41.out).mono ?_
  rintro e w1 ⟨rfl, h1, -⟩
  have hL1 : Hid (ArgsL C L (sum C) m R (C.tk.length + 1) [] s (.slice none 0 0) w w1) := Lib.hid ⟨hF.out, fun _ => ⟨by omega, by simp⟩, hm, h1, [], ⟨rfl, .inl ⟨rfl, rfl⟩⟩, rfl⟩
  clear h1 hF h41
  go_wp2_with fail
  go_loopw [3] (fun av wr => ∃ (f : Nat) (l : List Ag) (t : PS), Hid (ArgsL C L (sum C) m R f l t av w wr)) (fun _ wr => left2 L wr)
  case atStart => exact ⟨_, _, _, hL1⟩
  clear hL1
  obtain ⟨f, l, t, hL⟩ := hrel
  rename World => wl
  obtain ⟨a0, d0, d1, d2, d3, d4, d5, d6, dfz⟩ := hL.out.mv.facts
  obtain ⟨b1, b2, b3, b4, b5, b6, b7⟩ := hL.out.mv.bounds
  by_cases he : t.e = 0
  case neg =>
   have he' : ((t.e : Int) == 0) = false := by simp; omega
   have hF := Lib.hid (hL.out.stop he)
   go_wp2_with fail
   go_ret
   rw [hF.out]
   exact ⟨_, rfl, hL.out.mv, AgsAt.nil_ _ _⟩
  have he' : ((t.e : Int) == 0) = true := by simp; omega
  obtain ⟨f', hff, hRR⟩ := hL.out.go_ he b3
  have hfu := hL.out.fuel he
  obtain ⟨r, hr⟩ : ∃ x, x = sum C t := ⟨_, rfl⟩
  have hst := hs C t
  rw [← hr] at hRR hst
  have hi1 := hst.i1
  have hdp : m ≤ r.2.deep := by rw [hst.dp]; exact hL.out.dp
  obtain ⟨vs, hown, hcells⟩ := hL.out.own
  replace hr := Lib.hid hr
  replace hown := Lib.hid hown
  replace hcells := Lib.hid hcells
  replace hRR := Lib.hid hRR
  have he0 := Lib.hid he
  clear hst he
  go_wp2_with fail
  refine (hsum.near hL.out.mv hL.out.dp hr.out.symm).mono ?_
  rintro e w2 ⟨p, rfl, h2, hE2, hW2⟩
  clear a0 d0 d1 d2 d3 d4 d5 d6 dfz
  have hoff : ∀ k, some k ∈ [some L.g] → ¬ GeBut w.heap.size u3 k := fun k hk hg => by simp at hk; subst hk; exact absurd hg.1 (Nat.not_le_of_lt hlt0)
  have hown2 : w2.ownsRow w.heap.size 106 3 u3 l.length vs := hW2.own hown.out (by
   cases hq : u3.ownBlock with
   | none => exact .inl rfl
   | some k => right; have := ownK_ge hown.out hq; simp; omega)
  have hcells2 : AgCells w2 (GeBut w.heap.size u3) l vs := hcells.out.keep fun x hx hS => hW2.block x hx fun e => hoff x e hS
  have hE2' : ExAt w2 (GeBut w.heap.size u3) r.1 (.pointer p) := hE2.mono fun x _ hS => ⟨Nat.le_trans hL.out.mv.wr.size hS, fun e => by have := hown.out.lt x e; have : wl.heap.size ≤ x := hS; omega⟩
  have hbn := below_new w2 (.cells #[.bool false, .string ⟨#[]⟩, .pointer p] 106)
  have hO3 := Lib.hid (own_below hown2 hbn)
  have hnews : Hid (∀ (j : Nat) u, ([.bool false, .string ⟨#[]⟩, .pointer p] : List Value)[j]? = some u → (w2.alloc (.cells #[.bool false, .string ⟨#[]⟩, .pointer p] 106)).cell? ((⟨w2.heap.size, 0, none⟩ : Addr).add j) = some u) := Lib.hid (fun j u hu => by
   have hh := Holds.new w2 106 #[.bool false, .string ⟨#[]⟩, .pointer p]
   have hadd : (⟨w2.heap.size, 0, none⟩ : Addr).add j = ⟨w2.heap.size, j, none⟩ := by unfold Addr.add; split <;> simp_all
   rw [hadd, hh.cell]
   simpa using hu)
  have hone : Hid (∀ u ∈ ([.bool false, .string ⟨#[]⟩, .pointer p] : List Value), u.oneCell' = true) := Lib.hid (by simp; exact ⟨rfl, rfl, rfl⟩)
  have hsz : Hid (w.heap.size ≤ (w2.alloc (.cells #[.bool false, .string ⟨#[]⟩, .pointer p] 106)).heap.size) := Lib.hid (Nat.le_trans h2.wr.size hbn.size)
  have h3 := Lib.hid (h2.below hbn)
  have hl1 : Hid ((l ++ [(⟨false, [], r.1⟩ : Ag)]).length = l.length + 1) := Lib.hid (by simp)
  replace hbn := Lib.hid hbn
  replace hcells2 := Lib.hid hcells2
  replace hE2' := Lib.hid hE2'
  clear hE2 hW2 hoff hown2 hcells hown h2
  go_wp2_with
   (at_builtin
    go_loud (refine wpList_append_own_at _ rfl (.tmp 11) (.tmp 15) 36 rfl w.heap.size 106 iA _ 3 32 rfl hiA hzA0 hzA1 hzA2 rfl (by omega) u3 l.length vs rfl hO3.out ⟨w2.heap.size, 0, none⟩ 1 1 [.bool false, .string ⟨#[]⟩, .pointer p] rfl rfl hnews.out hone.out (by unfold maxLen; omega) (by omega) hsz.out ?_)
    go_loud (
     intro v5 w5 ho5 hg5 _ hv5
     have hO5 : Hid (w5.ownsRow w.heap.size 106 3 v5 (l ++ [(⟨false, [], r.1⟩ : Ag)]).length (vs ++ [.bool false, .string ⟨#[]⟩, .pointer p])) := Lib.hid (own_len ho5 hl1.out.symm)
     have hC5 : Hid (AgCells w5 (GeBut w.heap.size v5) (l ++ [(⟨false, [], r.1⟩ : Ag)]) (vs ++ [.bool false, .string ⟨#[]⟩, .pointer p])) := Lib.hid (hcells2.out.push (a := ⟨false, [], r.1⟩) hE2'.out (by simp) hbn.out hg5 hv5)
     have h5 : Hid (Moved C L r.2 w w5) := Lib.hid ⟨h3.out.at_.writes (Writes.of_grown hg5 (M := [u3.ownBlock]) (by simp)) (fun k hk => by have := ownK_ge hO3.out (List.mem_singleton.1 hk).symm; omega), by
      refine h3.out.wr.then_ (Writes.of_grown hg5 (M := [u3.ownBlock]) (by simp)) (fun k hk hm => ?_)
      have := ownK_ge hO3.out (List.mem_singleton.1 hm).symm
      omega⟩
     clear ho5 hg5 hv5))
  cases h41 : isF C [41] r.2 with
  | true =>
   have hF : Hid (R = (l ++ [(⟨false, [], r.1⟩ : Ag)], r.2.next)) := Lib.hid (by rw [hRR.out, if_pos h41])
   replace h41 := Lib.hid h41
   refine (take_yes h5.out [41] h41.out rfl).mono ?_
   rintro e w6 ⟨rfl, h6, hW6⟩
   have hO6 := Lib.hid (own_pw hO5.out hW6 hlt0)
   have hC6 := Lib.hid (hC5.out.pw hW6 hlt0)
   replace h6 := Lib.hid h6
   clear hW6
   go_wp2_with fail
   go_ret
   rw [hF.out]
   exact ⟨_, rfl, h6.out, AgsAt.own hO6.out hC6.out (by rw [hl1.out]; omega)⟩
  | false =>
   have hF : Hid (argsL C (sum C) f' (l ++ [(⟨false, [], r.1⟩ : Ag)]) (wantF C [44] r.2) = R) := Lib.hid (by rw [hRR.out, if_neg (by rw [h41]; simp)])
   replace h41 := Lib.hid h41
   refine (take_no h5.out [41] h41.out).mono ?_
   rintro e w6 ⟨rfl, h6, hW6⟩
   have hO6 := Lib.hid (own_pw hO5.out hW6 hlt0)
   have hC6 := Lib.hid (hC5.out.pw hW6 hlt0)
   replace h6 := Lib.hid h6
   clear hW6 hO5 hC5
   go_wp2_with fail
   refine (want_from h6.out [44] rfl).mono ?_
   rintro e w7 ⟨rfl, h7, hW7⟩
   have hO7 := own_pw hO6.out hW7 hlt0
   have hC7 := hC6.out.pw hW7 hlt0
   have hn := fun h => want_next (C := C) (t := [44]) (s := r.2) h
   have hwi := (Stp.want (C := C) [44] r.2).i1
   have hwd := (Stp.want (C := C) [44] r.2).dp
   have hL7 : Hid (ArgsL C L (sum C) m R f' (l ++ [(⟨false, [], r.1⟩ : Ag)]) (wantF C [44] r.2) v5 w w7) :=
    Lib.hid ⟨hF.out, fun h => by have := hn h; rw [hl1.out]; omega, by rw [hwd]; exact hdp, h7, _, hO7, hC7⟩
   have hm1 := hL.out.mv.left2
   have hm2 := hL7.out.mv.left2
   have hb7 := hL7.out.mv.bounds.2.2.1
   have hless := Lib.hid (left2_less he0.out (Nat.le_trans hb7 hlen) (by omega : t.i ≤ (wantF C [44] r.2).i) (fun h => by have := hn h; omega))
   replace hm1 := Lib.hid hm1
   replace hm2 := Lib.hid hm2
   clear hn hwi hwd hO7 hC7 hW7 h7 hb7
   go_wp2_with fail
   exact ⟨⟨_, _, _, hL7⟩, by rw [hm1.out, hm2.out]; exact hless.out⟩
end Go.Proofs.Ytpndglghpojjkaa
