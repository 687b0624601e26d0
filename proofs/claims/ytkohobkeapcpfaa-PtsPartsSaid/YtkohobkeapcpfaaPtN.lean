/-
  The walk of the law PtsParts.
-/
import Derived.Test.YtkohobkeapcpfaaPtJ
import Derived.Test.YtkohobkeapcpfaaPtK
import Derived.Test.YtkohobkeapcpfaaKp
namespace Go.Proofs.Ytkohobkeapcpfaa
open Go.RowKit

theorem parts_plain (pp : Pz) (l : List S) : ∃ jc, J2 pp ⟨true, canon l⟩ = ⟨true, jc⟩ ∧ leqS pp ⟨true, jc⟩ = true ∧ leqS ⟨true, canon l⟩ ⟨true, jc⟩ = true ∧ jc.length ≤ pp.cells.length + l.length ∧ ∀ x ∈ l, leqS ⟨false, canon [x]⟩ ⟨true, canon l⟩ = true ∧ leqS ⟨false, canon [x]⟩ ⟨true, jc⟩ = true := by
  have e : J2 pp ⟨true, canon l⟩ = ⟨true, (J2 pp ⟨true, canon l⟩).cells⟩ := by simp [J2]
  have hx : ∀ x ∈ l, leqS ⟨false, canon [x]⟩ ⟨true, canon l⟩ = true := by
    intro x hx
    simp only [leqS, Bool.and_eq_true, List.all_eq_true, decide_eq_true_eq, mem_canon]
    exact ⟨rfl, fun y hy => by simp at hy; subst hy; exact hx⟩
  refine ⟨(J2 pp ⟨true, canon l⟩).cells, e, ?_, ?_, ?_, fun x h => ⟨hx x h, ?_⟩⟩
  · rw [← e]; exact leq_left _ _
  · rw [← e]; exact leq_right _ _
  · refine Nat.le_trans (J2_len _ _) ?_
    show _ + (canon l).length ≤ _
    have := canon_len l
    omega
  · simp only [leqS, Bool.and_eq_true, List.all_eq_true, decide_eq_true_eq, mem_canon]
    refine ⟨rfl, fun y hy => ?_⟩
    simp at hy
    subst hy
    simp only [J2, mem_canon, List.mem_append]
    exact .inr h

set_option maxRecDepth 100000 in
set_option maxHeartbeats 8000000 in
theorem parts_any (w0 : World) (l : List S) (n : Nat) (hn : l.length = n) (pp : Pz) (Al Ap : Option Addr) (cl cp : Nat)
    (hrl0 : Row w0 w0.heap.size Al (l.map encStr)) (hcl : n ≤ cl) (hml : n ≤ maxLen)
    (hrp0 : Row w0 w0.heap.size Ap (pp.cells.map encStr)) (hcp : pp.cells.length ≤ cp) (hmp : pp.cells.length ≤ maxLen) :
    Calls Try.prog 6 #[.slice Al n cl, .agg #[.bool pp.nul, .slice Ap pp.cells.length cp]] w0 fun e w' => e = .returned (.bool true) ∧ Below w0.heap.size w0 w' := by
  have k1 := below_new w0 (.cells #[.bool pp.nul, .slice Ap pp.cells.length cp] 25)
  have hgP := Lib.hid (Holds.new w0 25 #[.bool pp.nul, .slice Ap pp.cells.length cp])
  have hrL := Lib.hid ((hrl0.below k1).more k1.size)
  have hrP := Lib.hid ((hrp0.below k1).more k1.size)
  have hk := Lib.hid k1
  clear k1 hrl0 hrp0
  have hn' := Lib.hid hn
  clear hn
  go_enter Try.func6, Try.ntmps6
  go_wp2_with fail
  refine (known_any _).mono ?_
  rintro e w1 ⟨rfl, hb1⟩
  have hk1 := Lib.hid (hk.out.trans (hb1.mono hk.out.size))
  have hgp := Lib.hid (hgP.out.below hb1 hgP.out.lt)
  have hrl := Lib.hid ((hrL.out.below hb1).more hb1.size)
  have hrp := Lib.hid ((hrP.out.below hb1).more hb1.size)
  clear hb1 hgP hrL hrP hk
  have fp0 := (hgp.out.fact 0 rfl).2
  have fp1 := (hgp.out.fact 1 rfl).2
  by_cases h10 : 10 < n
  · go_wp2_with fail
    go_ret
    exact ⟨rfl, hk1.out⟩
  · go_wp2_with fail
    have hL := PtsL.fresh w1 25 [⟨pp, Ap, cp⟩, ⟨⟨false, l⟩, Al, cl⟩] _ rfl (by
      intro q hq
      simp only [List.mem_cons, List.not_mem_nil, or_false] at hq
      rcases hq with rfl | rfl
      · exact ⟨hrp.out, hcp⟩
      · exact ⟨hrl.out, by show l.length ≤ cl; rw [hn'.out]; exact hcl⟩)
    have hli := light_any _ (some ⟨w1.heap.size, 0, none⟩) 2 2 [⟨pp, Ap, cp⟩, ⟨⟨false, l⟩, Al, cl⟩] rfl (by unfold maxLen; decide) hL (by
      intro q hq
      simp only [List.mem_cons, List.not_mem_nil, or_false] at hq
      rcases hq with rfl | rfl
      · assumption
      · show l.length ≤ maxLen
        rw [hn'.out]
        exact hml)
    clear hL
    have k2 := below_new w1 (.cells #[.bool pp.nul, .slice Ap pp.cells.length cp, .bool false, .slice Al n cl] 25)
    obtain ⟨wl, hwl⟩ : ∃ w, w = w1.alloc (.cells #[.bool pp.nul, .slice Ap pp.cells.length cp, .bool false, .slice Al n cl] 25) := ⟨_, rfl⟩
    rw [← hwl] at k2
    have hk2 := Lib.hid (hk1.out.trans (k2.mono hk1.out.size))
    have hgp2 := Lib.hid (hgp.out.below k2 hgp.out.lt)
    have hrl2 := Lib.hid ((hrl.out.below k2).more k2.size)
    have hrp2 := Lib.hid ((hrp.out.below k2).more k2.size)
    have hwl' : Hid (wl = w1.alloc (.cells (List.flatMap Pq.cells [⟨pp, Ap, cp⟩, ⟨⟨false, l⟩, Al, cl⟩]).toArray 25)) := Lib.hid (by rw [hwl, ← hn'.out]; rfl)
    clear hwl k2 hk1 hgp hrl hrp fp0 fp1
    have hn2 := hn'
    have hli2 : Calls Try.prog 8 #[.slice (some ⟨w1.heap.size, 0, none⟩) 2 2] (w1.alloc (.cells #[.bool pp.nul, .slice Ap pp.cells.length cp, .bool false, .slice Al n cl] 25)) (fun e w' => ((e = .returned (.bool true) ∧ 2 ≤ 10 ∧ ∀ q ∈ [⟨pp, Ap, cp⟩, ⟨⟨false, l⟩, Al, cl⟩], Pq.light q) ∨ e = .returned (.bool false)) ∧ w' = wl) := by
      rw [hwl'.out, ← hn'.out]
      exact hli
    clear hli
    refine hli2.mono ?_
    clear hli2
    rintro e w2 ⟨h, hw⟩
    subst hw
    rcases h with ⟨rfl, _, hl⟩ | rfl
    case inr =>
      go_wp2_with fail
      go_ret
      exact ⟨rfl, hk2.out⟩
    have hnp : pp.cells.length ≤ 10 := (hl ⟨pp, Ap, cp⟩ (by simp)).1
    clear hl
    go_wp2_with fail
    refine (any_any w2 Al n cl l hn2.out hrl2.out (by omega)).mono ?_
    rintro e w3 ⟨⟨v3, rfl, Aa, ca, rfl, hra0, hca⟩, hb3⟩
    have k3 := below_new w3 (.cells #[.bool true, .slice Aa (canon l).length ca] 25)
    have k4 := hb3.trans (k3.mono hb3.size)
    have hk3 := Lib.hid (hk2.out.trans (k4.mono hk2.out.size))
    have hgp3 := Lib.hid (hgp2.out.below k4 hgp2.out.lt)
    have hrl3 := Lib.hid ((hrl2.out.below k4).more k4.size)
    have hrp3 := Lib.hid ((hrp2.out.below k4).more k4.size)
    have hra3 := Lib.hid ((hra0.below k3).more k3.size)
    have hga3 := Lib.hid (Holds.new w3 25 #[.bool true, .slice Aa (canon l).length ca])
    clear k3 k4 hb3 hk2 hgp2 hrl2 hrp2 hra0
    go_wp2_with fail
    have K0 : Kp w0 [(w0.heap.size, 25, #[.bool pp.nul, .slice Ap pp.cells.length cp]), (w3.heap.size, 25, #[.bool true, .slice Aa (canon l).length ca])] [(Al, l.map encStr), (Ap, pp.cells.map encStr), (Aa, (canon l).map encStr)] (w3.alloc (.cells #[.bool true, .slice Aa (canon l).length ca] 25)) :=
      (((((Kp.start hk3.out).addH hga3.out).addH hgp3.out).addR hra3.out).addR hrp3.out).addR hrl3.out
    have hcn : (canon l).length ≤ 10 := by
      have := canon_len l
      rw [hn2.out] at this
      omega
    clear hk3 hgp3 hrl3 hrp3 hra3 hga3
    generalize w3.alloc (.cells #[.bool true, .slice Aa (canon l).length ca] 25) = wr at *
    generalize w3.heap.size = ga at *
    generalize hgp0 : w0.heap.size = gp at *
    have hgp1 := Lib.hid hgp0
    clear hgp0
    refine (empty_any _ ⟨true, canon l⟩ _ ⟨Aa, ca, rfl, K0.row 2 _ _ rfl, hca⟩ (by show (canon l).length ≤ _; omega)).mono ?_
    rintro e w4 ⟨he, hb4⟩
    have he' : e = .returned (.bool false) := he
    subst he'
    have K1 := K0.up hb4
    clear K0 hb4 he
    have fa0 := (K1.fact 1 0 rfl rfl).2
    have fa1 := (K1.fact 1 1 rfl rfl).2
    go_wp2_with fail
    refine (noNull_any _ ⟨true, canon l⟩ _ ⟨Aa, ca, rfl, K1.row 2 _ _ rfl, hca⟩ (by show (canon l).length ≤ _; omega)).mono ?_
    rintro e w5 ⟨⟨v5, rfl, hv5⟩, hb5⟩
    have K2 := K1.up hb5
    clear K1 hb5 fa0 fa1
    go_wp2_with fail
    refine (to_any _ Al n cl l hn2.out (K2.row 0 _ _ rfl) (by omega)).mono ?_
    rintro e w6 ⟨⟨v6, rfl, hv6⟩, hb6⟩
    have hv5' := hv5.up hb6
    have K3 := K2.up hb6
    clear K2 hb6 hv5
    go_wp2_with fail
    refine (ptsEq_any _ _ _ _ _ hv5' hv6 (by show (canon (canon l)).length ≤ _; rw [canon_canon]; omega) (by show (canon l).length ≤ _; omega)).mono ?_
    rintro e w7 ⟨he, hb7⟩
    rw [show sameP ⟨false, canon (canon l)⟩ ⟨false, canon l⟩ = true by rw [canon_canon]; exact sameP_rfl _] at he
    subst he
    have K4 := K3.up hb7
    clear K3 hb7 hv5' hv6
    have fa0 := (K4.fact 1 0 rfl rfl).2
    have fa1 := (K4.fact 1 1 rfl rfl).2
    go_wp2_with fail
    refine (onlyNull_any _ ⟨true, canon l⟩ _ ⟨Aa, ca, rfl, K4.row 2 _ _ rfl, hca⟩).mono ?_
    rintro e w8 ⟨⟨v8, rfl, hv8⟩, hb8⟩
    have K5 := K4.up hb8
    clear K4 hb8 fa0 fa1
    go_wp2_with fail
    refine (null_any _).mono ?_
    rintro e w9 ⟨⟨v9, rfl, hv9⟩, hb9⟩
    have hv8' := hv8.up hb9
    have K6 := K5.up hb9
    clear K5 hb9 hv8
    go_wp2_with fail
    refine (ptsEq_any _ _ _ _ _ hv8' hv9 (Nat.zero_le _) (Nat.zero_le _)).mono ?_
    rintro e w10 ⟨he, hb10⟩
    have he' : e = .returned (.bool true) := he
    subst he'
    have K7 := K6.up hb10
    clear K6 hb10 hv8' hv9 he
    have fp0 := (K7.fact 0 0 rfl rfl).2
    have fp1 := (K7.fact 0 1 rfl rfl).2
    have fa0 := (K7.fact 1 0 rfl rfl).2
    have fa1 := (K7.fact 1 1 rfl rfl).2
    go_wp2_with fail
    obtain ⟨jc, hJ, hJ1, hJ2, hJ3, hJ4⟩ := parts_plain pp l
    have hL2 := PtsL.fresh w10 25 [⟨pp, Ap, cp⟩, ⟨⟨true, canon l⟩, Aa, ca⟩] _ rfl (by
      intro q hq
      simp only [List.mem_cons, List.not_mem_nil, or_false] at hq
      rcases hq with rfl | rfl
      · exact ⟨K7.row 1 _ _ rfl, hcp⟩
      · exact ⟨K7.row 2 _ _ rfl, hca⟩)
    have K8 := K7.up (below_new w10 (.cells #[.bool pp.nul, .slice Ap pp.cells.length cp, .bool true, .slice Aa (canon l).length ca] 25))
    have hjo := join_two _ (A := some ⟨w10.heap.size, 0, none⟩) (c := 2) (p := pp) (q := ⟨true, canon l⟩) (L := [⟨pp, Ap, cp⟩, ⟨⟨true, canon l⟩, Aa, ca⟩]) rfl hL2 (by omega) (by show (canon l).length ≤ _; omega)
    rw [hJ] at hjo
    clear fp0 fp1 fa0 fa1 K7 hL2 hJ
    have hjlen : jc.length ≤ pp.cells.length + n := by rw [← hn2.out]; exact hJ3
    have hJ1' := Lib.hid hJ1
    have hJ2' := Lib.hid hJ2
    have hJ4' := Lib.hid hJ4
    clear hJ1 hJ2 hJ4 hJ3
    refine hjo.mono ?_
    clear hjo
    rintro e w11 ⟨⟨v11, rfl, Ax, cx, rfl, hrx0, hcx⟩, hb11⟩
    have K9 := (((K8.up hb11).addR hrx0).up (below_new w11 (.cells #[.bool true, .slice Ax jc.length cx] 25))).addH (Holds.new w11 25 #[.bool true, .slice Ax jc.length cx])
    clear K8 hb11 hrx0
    have hcx' : jc.length ≤ cx := hcx
    clear hcx
    go_wp2_with fail
    obtain ⟨pa, hpa⟩ : ∃ q : Pz, q = ⟨true, canon l⟩ := ⟨_, rfl⟩
    obtain ⟨pj, hpj⟩ : ∃ q : Pz, q = ⟨true, jc⟩ := ⟨_, rfl⟩
    have K : Kp w0 [(w11.heap.size, 25, #[.bool pj.nul, .slice Ax pj.cells.length cx]), (gp, 25, #[.bool pp.nul, .slice Ap pp.cells.length cp]), (ga, 25, #[.bool pa.nul, .slice Aa pa.cells.length ca])] [(Ax, pj.cells.map encStr), (Al, l.map encStr), (Ap, pp.cells.map encStr), (Aa, pa.cells.map encStr)] (w11.alloc (.cells #[.bool true, .slice Ax jc.length cx] 25)) := by
      rw [hpa, hpj]
      exact K9
    have hpa' := Lib.hid hpa
    have hpj' := Lib.hid hpj
    clear K9 hpa hpj
    generalize w11.alloc (.cells #[.bool true, .slice Ax jc.length cx] 25) = wj at *
    generalize w11.heap.size = gx at *
    go_loopw [7] (fun iv wr => ∃ k : Nat, k ≤ n ∧ iv = .int .i64 k ∧ Kp w0 [(gx, 25, #[.bool pj.nul, .slice Ax pj.cells.length cx]), (gp, 25, #[.bool pp.nul, .slice Ap pp.cells.length cp]), (ga, 25, #[.bool pa.nul, .slice Aa pa.cells.length ca])] [(Ax, pj.cells.map encStr), (Al, l.map encStr), (Ap, pp.cells.map encStr), (Aa, pa.cells.map encStr)] wr) (fun iv _ => n - (intOf iv).toNat)
    case atStart => exact ⟨0, by omega, rfl, K⟩
    obtain ⟨k, hk, rfl, KR⟩ := hrel
    clear K
    by_cases hlt : k < n
    · have hlt2 : k < l.length := by rw [hn2.out]; exact hlt
      obtain ⟨b, off, rfl, hbb, hc⟩ := (KR.row 1 _ _ rfl).at_ (k := k) (by simpa using hlt2)
      rw [List.getElem_map] at hc
      have hxl := Lib.hid (hJ4'.out _ (List.getElem_mem hlt2))
      generalize l[k] = x at hc hxl
      have hl1 : Hid (leqS ⟨false, canon [x]⟩ pa = true) := Lib.hid (by rw [hpa'.out]; exact hxl.out.1)
      have hl2 : Hid (leqS ⟨false, canon [x]⟩ pj = true) := Lib.hid (by rw [hpj'.out]; exact hxl.out.2)
      have hc0 := Lib.hid hc
      have hcx1 : (canon [x]).length ≤ 100000 := by have := canon_len [x]; simp at this; omega
      have hpan : pa.cells.length ≤ 100000 := by rw [hpa'.out]; show (canon l).length ≤ _; omega
      have hpjn : pj.cells.length ≤ 100000 := by rw [hpj'.out]; show jc.length ≤ _; omega
      have hga := Lib.hid (KR.hold 2 _ _ _ rfl)
      have hgx := Lib.hid (KR.hold 0 _ _ _ rfl)
      have hra := Lib.hid (KR.row 3 _ _ rfl)
      have hrx := Lib.hid (KR.row 0 _ _ rfl)
      have hca3 : pa.cells.length ≤ ca := by rw [hpa'.out]; exact hca
      have hcx3 : pj.cells.length ≤ cx := by rw [hpj'.out]; exact hcx'
      clear hc hxl
      go_wp2_with fail
      -- THE REGION THAT DRAWS ITS ORDER, BY ONE LEXICAL WALK OVER GENERIC VALUES (written by relgen.py)
      refine wp_region_tab ((fun _ v => v = .slice (some ⟨b, off, none⟩) n cl) ::
        (fun _ v => v = .int .i64 k) ::
        (fun _ v => v = .pointer (some ⟨b, off + k, none⟩)) ::
        (fun _ v => v = encStr x) ::
        (fun w v => ∃ A c, v = .slice A 1 c ∧ 1 ≤ c ∧ Row w w.heap.size A (([x]).map encStr)) ::
        (fun w v => PtsV w ((⟨false, canon [x]⟩ : Pz)) v) ::
        (fun _ v => v = .agg #[.bool (Pz.nul pa), .slice Aa (List.length (Pz.cells pa)) ca]) ::
        (fun _ v => v = .bool true) ::
        (fun _ v => v = .bool false) ::
        (fun _ v => v = .bool false) ::
        (fun _ v => v = .slice (some ⟨b, off, none⟩) n cl) ::
        (fun _ v => v = .int .i64 k) ::
        (fun _ v => v = .pointer (some ⟨b, off + k, none⟩)) ::
        (fun _ v => v = encStr x) ::
        (fun w v => ∃ A c, v = .slice A 1 c ∧ 1 ≤ c ∧ Row w w.heap.size A (([x]).map encStr)) ::
        (fun w v => PtsV w ((⟨false, canon [x]⟩ : Pz)) v) ::
        (fun _ v => v = .agg #[.bool (Pz.nul pj), .slice Ax (List.length (Pz.cells pj)) cx]) ::
        (fun _ v => v = .bool true) ::
        (fun _ v => v = .bool false) ::
        (fun _ v => v = .bool false) :: [])
        (⟨[(0, none)], 0, []⟩ :: ⟨[(7, none)], 0, []⟩ :: ⟨[(55, some 0), (56, some 1)], 0, []⟩ :: ⟨[(57, some 2)], 0, []⟩ :: ⟨[(58, some 3)], 0, []⟩ :: ⟨[(59, some 4)], 0, []⟩ :: ⟨[(5, none)], 0, []⟩ :: ⟨[(60, some 5), (61, some 6)], 0, []⟩ :: ⟨[(62, some 7)], 0, []⟩ :: ⟨[(63, some 8)], 0, []⟩ :: ⟨[(0, none), (64, some 9)], 64, []⟩ :: ⟨[(7, none), (64, some 9)], 64, []⟩ :: ⟨[(65, some 10), (66, some 11), (64, some 9)], 64, []⟩ :: ⟨[(67, some 12), (64, some 9)], 64, []⟩ :: ⟨[(68, some 13), (64, some 9)], 64, []⟩ :: ⟨[(69, some 14), (64, some 9)], 64, []⟩ :: ⟨[(6, none), (64, some 9)], 64, []⟩ :: ⟨[(70, some 15), (71, some 16), (64, some 9)], 64, []⟩ :: ⟨[(72, some 17), (64, some 9)], 64, []⟩ :: ⟨[(64, some 9), (73, some 18)], 0, []⟩ :: [])
        (none :: none :: none :: none :: none :: none :: none :: none :: none :: none :: none :: none :: none :: none :: none :: none :: none :: none :: none :: none :: none :: none :: none :: none :: none :: none :: none :: none :: none :: none :: none :: none :: none :: none :: none :: none :: none :: none :: none :: none :: none :: none :: none :: none :: none :: none :: none :: none :: none :: none :: none :: none :: none :: none :: none :: some 0 :: some 1 :: some 2 :: some 3 :: some 4 :: some 5 :: some 6 :: some 7 :: some 8 :: some 9 :: some 10 :: some 11 :: some 12 :: some 13 :: some 14 :: some 15 :: some 16 :: some 17 :: some 18 :: some 19 :: [])
        (fun _ w' => Below wr.heap.size wr w') (fun _ w w' => Below w.heap.size w w') ?mixK12parts12 ?okK12parts12 ?tabK12parts12 ?frK12parts12 ?inK12parts12 ?keptK12parts12 ?startK12parts12 ?eachK12parts12 ?finK12parts12
      case mixK12parts12 => kernel_rfl
      case okK12parts12 => kernel_rfl
      case tabK12parts12 => kernel_rfl
      case frK12parts12 => kernel_rfl
      case inK12parts12 => rfl
      case keptK12parts12 => exact ⟨fun _ _ _ _ _ _ _ h => h, fun _ _ _ _ _ _ _ h => h, fun _ _ _ _ _ _ _ h => h, fun _ _ _ _ _ _ _ h => h, fun _ _ _ => fun w w' v hG ⟨A, c, e, hc, h⟩ => ⟨A, c, e, hc, (h.below hG).more hG.size⟩, fun _ _ _ => fun w w' v hG h => h.up hG, fun _ _ _ _ _ _ _ h => h, fun _ _ _ _ _ _ _ h => h, fun _ _ _ _ _ _ _ h => h, fun _ _ _ _ _ _ _ h => h, fun _ _ _ _ _ _ _ h => h, fun _ _ _ _ _ _ _ h => h, fun _ _ _ _ _ _ _ h => h, fun _ _ _ _ _ _ _ h => h, fun _ _ _ => fun w w' v hG ⟨A, c, e, hc, h⟩ => ⟨A, c, e, hc, (h.below hG).more hG.size⟩, fun _ _ _ => fun w w' v hG h => h.up hG, fun _ _ _ _ _ _ _ h => h, fun _ _ _ _ _ _ _ h => h, fun _ _ _ _ _ _ _ h => h, fun _ _ _ _ _ _ _ h => h, trivial⟩
      case startK12parts12 => exact (Below.refl _ _).drew
      case eachK12parts12 =>
        refine ⟨?_, ?_, ?_, ?_, ?_, ?_, ?_, ?_, ?_, ?_, ?_, ?_, ?_, ?_, ?_, ?_, ?_, ?_, ?_, ?_, trivial⟩
        -- 0: slot 55 := move t0
        · intro w L f hC hLi hLd hLn hF
          obtain ⟨d0, _⟩ := hF
          have d0 : f 0 = .slice (some ⟨b, off, none⟩) n cl := d0
          refine Step2.live rfl ?_
          exact relUpon_value (v := f 0) rfl (hC) (Below.refl _ _) d0
        -- 1: slot 56 := move t7
        · intro w L f hC hLi hLd hLn hF
          obtain ⟨d7, _⟩ := hF
          have d7 : f 7 = .int .i64 k := d7
          refine Step2.live rfl ?_
          exact relUpon_value (v := f 7) rfl (hC) (Below.refl _ _) d7
        -- 2: slot 57 := indexAddr 23 t55 t56
        · intro w L f hC hLi hLd hLn hF
          obtain ⟨d55, d56, _⟩ := hF
          have d55 : f 55 = .slice (some ⟨b, off, none⟩) n cl := d55
          have d56 : f 56 = .int .i64 k := d56
          refine Step2.live rfl ?_
          have ev : ∀ t, evalOf f (.tmp t) = f t := fun _ => rfl
          have ec : ∀ c, evalOf f (.const c) = c := fun _ => rfl
          have ef : ∀ g, evalOf f (.func g) = .func (.func g) #[] #[] := fun _ => rfl
          refine relUpon_value ?_ hC (Below.refl _ _) rfl
          go_simp
        -- 3: slot 58 := load 9 t57
        · intro w L f hC hLi hLd hLn hF
          obtain ⟨d57, _⟩ := hF
          have d57 : f 57 = .pointer (some ⟨b, off + k, none⟩) := d57
          refine Step2.live rfl ?_
          have hcell := (hC.cell (p := ⟨b, off + k, none⟩) hbb).trans hc0.out
          have ev : ∀ t, evalOf f (.tmp t) = f t := fun _ => rfl
          have ec : ∀ c, evalOf f (.const c) = c := fun _ => rfl
          have ef : ∀ g, evalOf f (.func g) = .func (.func g) #[] #[] := fun _ => rfl
          refine relUpon_value ?_ hC (Below.refl _ _) rfl
          go_simp
        -- 4: slot 59 := buildSlice 23 1 #[(0, t58)]
        · intro w L f hC hLi hLd hLn hF
          obtain ⟨d58, _⟩ := hF
          have d58 : f 58 = encStr x := d58
          refine Step2.live rfl ?_
          have hbn := below_new w (.cells #[encStr x] 9)
          have ev : ∀ t, evalOf f (.tmp t) = f t := fun _ => rfl
          have ec : ∀ c, evalOf f (.const c) = c := fun _ => rfl
          have ef : ∀ g, evalOf f (.func g) = .func (.func g) #[] #[] := fun _ => rfl
          refine relUpon_value (w' := w.alloc (.cells #[encStr x] 9)) (v := .slice (some ⟨w.heap.size, 0, none⟩) 1 1) (by go_simp) (hC.trans (hbn.mono hC.size)) hbn ⟨_, _, rfl, Nat.le_refl _, Row.fresh w 9 [encStr x]⟩
        -- 5: slot 60 := call { value (Operand.func 21), args := #[t59], argTypes := #[23] }
        · intro w L f hC hLi hLd hLn hF
          obtain ⟨d59, _⟩ := hF
          refine Step2.live rfl ?_
          obtain ⟨A59, c59, e59, hc59, hr59⟩ := d59
          have ev : ∀ t, evalOf f (.tmp t) = f t := fun _ => rfl
          have ec : ∀ c, evalOf f (.const c) = c := fun _ => rfl
          have ef : ∀ g, evalOf f (.func g) = .func (.func g) #[] #[] := fun _ => rfl
          refine relUpon_call (f := 21) (args := #[.slice A59 1 c59]) (w := w) (by go_simp) (to_any w A59 1 c59 [x] rfl hr59 (by decide)) ?_
          rintro e w1 ⟨⟨v, he, hv⟩, hB⟩
          exact ⟨_, he, hC.trans (hB.mono hC.size), hB, hv⟩
        -- 6: slot 61 := load 25 t5
        · intro w L f hC hLi hLd hLn hF
          obtain ⟨d5, _⟩ := hF
          have d5 : f 5 = .pointer (some ⟨ga, 0, none⟩) := d5
          refine Step2.live rfl ?_
          have hh := hga.out.below hC hga.out.lt
          have f0 := (hh.fact 0 rfl).2
          have f1 := (hh.fact 1 rfl).2
          have ev : ∀ t, evalOf f (.tmp t) = f t := fun _ => rfl
          have ec : ∀ c, evalOf f (.const c) = c := fun _ => rfl
          have ef : ∀ g, evalOf f (.func g) = .func (.func g) #[] #[] := fun _ => rfl
          refine relUpon_value ?_ hC (Below.refl _ _) rfl
          go_simp
        -- 7: slot 62 := call { value (Operand.func 13), args := #[t60, t61], argTypes := #[25, 25] }
        · intro w L f hC hLi hLd hLn hF
          obtain ⟨d60, d61, _⟩ := hF
          have d61 : f 61 = .agg #[.bool (Pz.nul pa), .slice Aa (List.length (Pz.cells pa)) ca] := d61
          refine Step2.live rfl ?_
          obtain ⟨A60, c60, e60, hr60, hc60⟩ := d60
          have ev : ∀ t, evalOf f (.tmp t) = f t := fun _ => rfl
          have ec : ∀ c, evalOf f (.const c) = c := fun _ => rfl
          have ef : ∀ g, evalOf f (.func g) = .func (.func g) #[] #[] := fun _ => rfl
          refine relUpon_call (f := 13) (args := #[.agg #[.bool (Pz.nul (⟨false, canon [x]⟩ : Pz)), .slice A60 (List.length (Pz.cells (⟨false, canon [x]⟩ : Pz))) c60], .agg #[.bool (Pz.nul pa), .slice Aa (List.length (Pz.cells pa)) ca]]) (w := w) (by go_simp) (leq_any w (⟨false, canon [x]⟩ : Pz) pa _ _ ⟨_, _, rfl, hr60, hc60⟩ ⟨_, _, rfl, ((hra.out.below hC).more hC.size), hca3⟩ (hcx1) (hpan)) ?_
          rintro e w1 ⟨he, hB⟩
          exact ⟨_, he, hC.trans (hB.mono hC.size), hB, congrArg Value.bool hl1.out⟩
        -- 8: slot 63 := unOp UnOp.not 4 t62
        · intro w L f hC hLi hLd hLn hF
          obtain ⟨d62, _⟩ := hF
          have d62 : f 62 = .bool true := d62
          refine Step2.live rfl ?_
          have ev : ∀ t, evalOf f (.tmp t) = f t := fun _ => rfl
          have ec : ∀ c, evalOf f (.const c) = c := fun _ => rfl
          refine relUpon_value ?_ (hC) (Below.refl _ _) rfl
          go_simp
        -- 9: slot 64 := move t63
        · intro w L f hC hLi hLd hLn hF
          obtain ⟨d63, _⟩ := hF
          have d63 : f 63 = .bool false := d63
          refine Step2.live rfl ?_
          exact relUpon_value (v := f 63) rfl (hC) (Below.refl _ _) d63
        -- 10: slot 65 := move t0
        · intro w L f hC hLi hLd hLn hF
          obtain ⟨d0, d64, _⟩ := hF
          have d0 : f 0 = .slice (some ⟨b, off, none⟩) n cl := d0
          have d64 : f 64 = .bool false := d64
          refine Step2.live (show wantedBy _ (f 64) = true by rw [d64]; rfl) ?_
          exact relUpon_value (v := f 0) rfl (hC) (Below.refl _ _) d0
        -- 11: slot 66 := move t7
        · intro w L f hC hLi hLd hLn hF
          obtain ⟨d7, d64, _⟩ := hF
          have d7 : f 7 = .int .i64 k := d7
          have d64 : f 64 = .bool false := d64
          refine Step2.live (show wantedBy _ (f 64) = true by rw [d64]; rfl) ?_
          exact relUpon_value (v := f 7) rfl (hC) (Below.refl _ _) d7
        -- 12: slot 67 := indexAddr 23 t65 t66
        · intro w L f hC hLi hLd hLn hF
          obtain ⟨d65, d66, d64, _⟩ := hF
          have d65 : f 65 = .slice (some ⟨b, off, none⟩) n cl := d65
          have d66 : f 66 = .int .i64 k := d66
          have d64 : f 64 = .bool false := d64
          refine Step2.live (show wantedBy _ (f 64) = true by rw [d64]; rfl) ?_
          have ev : ∀ t, evalOf f (.tmp t) = f t := fun _ => rfl
          have ec : ∀ c, evalOf f (.const c) = c := fun _ => rfl
          have ef : ∀ g, evalOf f (.func g) = .func (.func g) #[] #[] := fun _ => rfl
          refine relUpon_value ?_ hC (Below.refl _ _) rfl
          go_simp
        -- 13: slot 68 := load 9 t67
        · intro w L f hC hLi hLd hLn hF
          obtain ⟨d67, d64, _⟩ := hF
          have d67 : f 67 = .pointer (some ⟨b, off + k, none⟩) := d67
          have d64 : f 64 = .bool false := d64
          refine Step2.live (show wantedBy _ (f 64) = true by rw [d64]; rfl) ?_
          have hcell := (hC.cell (p := ⟨b, off + k, none⟩) hbb).trans hc0.out
          have ev : ∀ t, evalOf f (.tmp t) = f t := fun _ => rfl
          have ec : ∀ c, evalOf f (.const c) = c := fun _ => rfl
          have ef : ∀ g, evalOf f (.func g) = .func (.func g) #[] #[] := fun _ => rfl
          refine relUpon_value ?_ hC (Below.refl _ _) rfl
          go_simp
        -- 14: slot 69 := buildSlice 23 1 #[(0, t68)]
        · intro w L f hC hLi hLd hLn hF
          obtain ⟨d68, d64, _⟩ := hF
          have d68 : f 68 = encStr x := d68
          have d64 : f 64 = .bool false := d64
          refine Step2.live (show wantedBy _ (f 64) = true by rw [d64]; rfl) ?_
          have hbn := below_new w (.cells #[encStr x] 9)
          have ev : ∀ t, evalOf f (.tmp t) = f t := fun _ => rfl
          have ec : ∀ c, evalOf f (.const c) = c := fun _ => rfl
          have ef : ∀ g, evalOf f (.func g) = .func (.func g) #[] #[] := fun _ => rfl
          refine relUpon_value (w' := w.alloc (.cells #[encStr x] 9)) (v := .slice (some ⟨w.heap.size, 0, none⟩) 1 1) (by go_simp) (hC.trans (hbn.mono hC.size)) hbn ⟨_, _, rfl, Nat.le_refl _, Row.fresh w 9 [encStr x]⟩
        -- 15: slot 70 := call { value (Operand.func 21), args := #[t69], argTypes := #[23] }
        · intro w L f hC hLi hLd hLn hF
          obtain ⟨d69, d64, _⟩ := hF
          have d64 : f 64 = .bool false := d64
          refine Step2.live (show wantedBy _ (f 64) = true by rw [d64]; rfl) ?_
          obtain ⟨A69, c69, e69, hc69, hr69⟩ := d69
          have ev : ∀ t, evalOf f (.tmp t) = f t := fun _ => rfl
          have ec : ∀ c, evalOf f (.const c) = c := fun _ => rfl
          have ef : ∀ g, evalOf f (.func g) = .func (.func g) #[] #[] := fun _ => rfl
          refine relUpon_call (f := 21) (args := #[.slice A69 1 c69]) (w := w) (by go_simp) (to_any w A69 1 c69 [x] rfl hr69 (by decide)) ?_
          rintro e w1 ⟨⟨v, he, hv⟩, hB⟩
          exact ⟨_, he, hC.trans (hB.mono hC.size), hB, hv⟩
        -- 16: slot 71 := load 25 t6
        · intro w L f hC hLi hLd hLn hF
          obtain ⟨d6, d64, _⟩ := hF
          have d6 : f 6 = .pointer (some ⟨gx, 0, none⟩) := d6
          have d64 : f 64 = .bool false := d64
          refine Step2.live (show wantedBy _ (f 64) = true by rw [d64]; rfl) ?_
          have hh := hgx.out.below hC hgx.out.lt
          have f0 := (hh.fact 0 rfl).2
          have f1 := (hh.fact 1 rfl).2
          have ev : ∀ t, evalOf f (.tmp t) = f t := fun _ => rfl
          have ec : ∀ c, evalOf f (.const c) = c := fun _ => rfl
          have ef : ∀ g, evalOf f (.func g) = .func (.func g) #[] #[] := fun _ => rfl
          refine relUpon_value ?_ hC (Below.refl _ _) rfl
          go_simp
        -- 17: slot 72 := call { value (Operand.func 13), args := #[t70, t71], argTypes := #[25, 25] }
        · intro w L f hC hLi hLd hLn hF
          obtain ⟨d70, d71, d64, _⟩ := hF
          have d71 : f 71 = .agg #[.bool (Pz.nul pj), .slice Ax (List.length (Pz.cells pj)) cx] := d71
          have d64 : f 64 = .bool false := d64
          refine Step2.live (show wantedBy _ (f 64) = true by rw [d64]; rfl) ?_
          obtain ⟨A70, c70, e70, hr70, hc70⟩ := d70
          have ev : ∀ t, evalOf f (.tmp t) = f t := fun _ => rfl
          have ec : ∀ c, evalOf f (.const c) = c := fun _ => rfl
          have ef : ∀ g, evalOf f (.func g) = .func (.func g) #[] #[] := fun _ => rfl
          refine relUpon_call (f := 13) (args := #[.agg #[.bool (Pz.nul (⟨false, canon [x]⟩ : Pz)), .slice A70 (List.length (Pz.cells (⟨false, canon [x]⟩ : Pz))) c70], .agg #[.bool (Pz.nul pj), .slice Ax (List.length (Pz.cells pj)) cx]]) (w := w) (by go_simp) (leq_any w (⟨false, canon [x]⟩ : Pz) pj _ _ ⟨_, _, rfl, hr70, hc70⟩ ⟨_, _, rfl, ((hrx.out.below hC).more hC.size), hcx3⟩ (hcx1) (hpjn)) ?_
          rintro e w1 ⟨he, hB⟩
          exact ⟨_, he, hC.trans (hB.mono hC.size), hB, congrArg Value.bool hl2.out⟩
        -- 18: slot 73 := unOp UnOp.not 4 t72
        · intro w L f hC hLi hLd hLn hF
          obtain ⟨d72, d64, _⟩ := hF
          have d72 : f 72 = .bool true := d72
          have d64 : f 64 = .bool false := d64
          refine Step2.live (show wantedBy _ (f 64) = true by rw [d64]; rfl) ?_
          have ev : ∀ t, evalOf f (.tmp t) = f t := fun _ => rfl
          have ec : ∀ c, evalOf f (.const c) = c := fun _ => rfl
          refine relUpon_value ?_ (hC) (Below.refl _ _) rfl
          go_simp
        -- 19: slot 74 := pick t64 (const (Value.bool true)) t73
        · intro w L f hC hLi hLd hLn hF
          obtain ⟨d64, d73, _⟩ := hF
          have d64 : f 64 = .bool false := d64
          have d73 : f 73 = .bool false := d73
          refine Step2.live rfl ?_
          have ev : ∀ t, evalOf f (.tmp t) = f t := fun _ => rfl
          have ec : ∀ c, evalOf f (.const c) = c := fun _ => rfl
          refine relUpon_value ?_ (hC) (Below.refl _ _) rfl
          go_simp
      intro x w' hC hV

      have e0 := hV 19 _ rfl rfl
      clear hV
      simp only [framed]
      rw [e0]
      clear e0
      have KR2 := KR.up hC
      clear hC KR
      go_wp2_with fail
      go_roundw
      case rel => exact ⟨k + 1, by omega, by go_num, KR2⟩
      case measure => simp [intOf]; omega
    · obtain rfl : k = n := by omega
      have KE : Kp w0 [(gx, 25, #[.bool true, .slice Ax jc.length cx]), (gp, 25, #[.bool pp.nul, .slice Ap pp.cells.length cp]), (ga, 25, #[.bool pa.nul, .slice Aa pa.cells.length ca])] [(Ax, jc.map encStr), (Al, l.map encStr), (Ap, pp.cells.map encStr), (Aa, pa.cells.map encStr)] wr := by
        have := hpj'.out
        subst this
        exact KR
      have hca3 : pa.cells.length ≤ ca := by rw [hpa'.out]; exact hca
      have hpan : pa.cells.length ≤ 100000 := by rw [hpa'.out]; show (canon l).length ≤ _; omega
      have hJ3' : Hid (leqS pa ⟨true, jc⟩ = true) := Lib.hid (by rw [hpa'.out]; exact hJ2'.out)
      clear KR
      have fx0 := (KE.fact 0 0 rfl rfl).2
      have fx1 := (KE.fact 0 1 rfl rfl).2
      have fp0 := (KE.fact 1 0 rfl rfl).2
      have fp1 := (KE.fact 1 1 rfl rfl).2
      go_wp2_with fail
      refine (leq_any _ pp ⟨true, jc⟩ _ _ ⟨Ap, cp, rfl, KE.row 2 _ _ rfl, hcp⟩ ⟨Ax, cx, rfl, KE.row 0 _ _ rfl, hcx'⟩ (by omega) (by show jc.length ≤ _; omega)).mono ?_
      rintro e w12 ⟨he, hb12⟩
      rw [hJ1'.out] at he
      subst he
      have KF := KE.up hb12
      clear KE hb12 fx0 fx1 fp0 fp1
      have fx0 := (KF.fact 0 0 rfl rfl).2
      have fx1 := (KF.fact 0 1 rfl rfl).2
      have fa0 := (KF.fact 2 0 rfl rfl).2
      have fa1 := (KF.fact 2 1 rfl rfl).2
      go_wp2_with fail
      refine (leq_any _ pa ⟨true, jc⟩ _ _ ⟨Aa, ca, rfl, KF.row 3 _ _ rfl, hca3⟩ ⟨Ax, cx, rfl, KF.row 0 _ _ rfl, hcx'⟩ hpan (by show jc.length ≤ _; omega)).mono ?_
      rintro e w13 ⟨he, hb13⟩
      rw [hJ3'.out] at he
      subst he
      have KG := KF.up hb13
      clear KF hb13 fx0 fx1 fa0 fa1
      have fx0 := (KG.fact 0 0 rfl rfl).2
      have fx1 := (KG.fact 0 1 rfl rfl).2
      have fp0 := (KG.fact 1 0 rfl rfl).2
      have fp1 := (KG.fact 1 1 rfl rfl).2
      have hle : decide ((jc.length : Int) ≤ k + pp.cells.length) = true := by simp; omega
      go_wp2_with fail
      go_ret
      exact ⟨rfl, KG.bel⟩

theorem parts_walk (w : World) (v1 v2 : Value) (h1 : ArgOk 23 w v1) (h2 : ArgOk 25 w v2) :
    Calls Try.prog 6 #[v1, v2] w fun e w' => e = .returned (.bool true) ∧ Below w.heap.size w w' := by
  obtain ⟨A, n, c, l, rfl, hn, hc, hm, _, hr⟩ := h1.strs
  obtain ⟨⟨pp, Ap, cp⟩, rfl, r, lc, mc, _⟩ := h2.pts
  exact parts_any w l n hn pp A Ap c cp hr hc (Nat.le_trans hc hm) r lc (Nat.le_trans lc mc)
end Go.Proofs.Ytkohobkeapcpfaa
