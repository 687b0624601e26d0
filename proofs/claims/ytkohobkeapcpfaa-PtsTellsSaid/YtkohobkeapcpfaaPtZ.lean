/-
  The walk of the law PtsTells.
-/
import Derived.Test.YtkohobkeapcpfaaPtJ
import Derived.Test.YtkohobkeapcpfaaPtO
import Derived.Test.YtkohobkeapcpfaaPtU
import Derived.Test.YtkohobkeapcpfaaPtX
import Derived.Test.YtkohobkeapcpfaaPtYa
namespace Go.Proofs.Ytkohobkeapcpfaa
open Go.RowKit

theorem pjoin_two (w : World) {p q : Pz} {A : Option Addr} {c : Nat} {L : List Pq} (hl : L.map Pq.p = [p, q]) (h : PtsL w w.heap.size A L) (h1 : p.cells.length ≤ 100) (h2 : q.cells.length ≤ 100) :
    Calls Try.prog 12 #[.slice A 2 c] w (RetP w (J2 p q)) := by
  have hlen : L.length = 2 := by rw [← List.length_map (f := Pq.p), hl]; rfl
  have := pjoin_any w A 2 c L hlen (by decide) h (fun x hx => by
    have hm : x.p ∈ L.map Pq.p := List.mem_map.2 ⟨x, hx, rfl⟩
    rw [hl] at hm
    simp only [List.mem_cons, List.not_mem_nil, or_false] at hm
    rcases hm with e | e <;> rw [e] <;> assumption)
  rw [joinP_two hl] at this
  exact this

set_option maxRecDepth 100000 in
set_option maxHeartbeats 8000000 in
theorem tells_any (w0 : World) (Ls : List Pq) (Al : Option Addr) (nl cl : Nat) (pa pb : Pz) (Aa Ab : Option Addr) (ca cb : Nat) (hln : Ls.length = nl) (hml : nl ≤ maxLen) (hL0 : PtsL w0 w0.heap.size Al Ls) (hlm : ∀ q ∈ Ls, q.p.cells.length ≤ maxLen)
    (hra0 : Row w0 w0.heap.size Aa (pa.cells.map encStr)) (hca : pa.cells.length ≤ ca) (hma : pa.cells.length ≤ maxLen)
    (hrb0 : Row w0 w0.heap.size Ab (pb.cells.map encStr)) (hcb : pb.cells.length ≤ cb) (hmb : pb.cells.length ≤ maxLen) :
    Calls Try.prog 3 #[.slice Al nl cl, .agg #[.bool pa.nul, .slice Aa pa.cells.length ca], .agg #[.bool pb.nul, .slice Ab pb.cells.length cb]] w0 fun e w' => e = .returned (.bool true) ∧ Below w0.heap.size w0 w' := by
  have K0 := ((((Kp.start (Below.refl w0.heap.size w0)).addR hrb0).addR hra0).new 25 #[.bool pa.nul, .slice Aa pa.cells.length ca]).new 25 #[.bool pb.nul, .slice Ab pb.cells.length cb]
  rw [show (w0.alloc (.cells #[.bool pa.nul, .slice Aa pa.cells.length ca] 25)).heap.size = w0.heap.size + 1 by simp] at K0
  have hL1 := Lib.hid hL0
  have hln' := Lib.hid hln
  have hlm' := Lib.hid hlm
  clear hra0 hrb0 hL0 hln hlm
  go_enter Try.func3, Try.ntmps3
  go_wp2_with fail
  generalize (w0.alloc (.cells #[.bool pa.nul, .slice Aa pa.cells.length ca] 25)).alloc (.cells #[.bool pb.nul, .slice Ab pb.cells.length cb] 25) = w1 at K0 ⊢
  generalize hga0 : w0.heap.size = ga at K0 ⊢
  have hgan := Lib.hid hga0
  clear hga0
  generalize hgb0 : ga + 1 = gb at K0 ⊢
  have hgbn := Lib.hid hgb0
  clear hgb0
  refine (known_any w1).mono ?_
  rintro e w2 ⟨rfl, hb2⟩
  have K1 := K0.up hb2
  clear K0 hb2
  go_wp2_with fail
  have hLw := Lib.hid ((hL1.out.below K1.bel).more K1.size)
  refine (light_any w2 Al nl cl Ls hln'.out hml hLw.out hlm'.out).mono ?_
  rintro e w3 ⟨h, rfl⟩
  rcases h with ⟨rfl, hnl, hll0⟩ | rfl
  case inr =>
    go_wp2_with fail
    go_ret
    exact ⟨rfl, K1.bel⟩
  have hll := Lib.hid hll0
  clear hll0
  have fa0 := (K1.fact 1 0 rfl rfl).2
  have fa1 := (K1.fact 1 1 rfl rfl).2
  have fb0 := (K1.fact 0 0 rfl rfl).2
  have fb1 := (K1.fact 0 1 rfl rfl).2
  go_wp2_with fail
  have hL := PtsL.fresh w3 25 [⟨pa, Aa, ca⟩, ⟨pb, Ab, cb⟩] _ rfl (by
    intro q hq
    simp only [List.mem_cons, List.not_mem_nil, or_false] at hq
    rcases hq with rfl | rfl
    · exact ⟨K1.row 0 _ _ rfl, hca⟩
    · exact ⟨K1.row 1 _ _ rfl, hcb⟩)
  have K2 := K1.up (below_new w3 (.cells #[.bool pa.nul, .slice Aa pa.cells.length ca, .bool pb.nul, .slice Ab pb.cells.length cb] 25))
  have hli := light_any _ (some ⟨w3.heap.size, 0, none⟩) 2 2 [⟨pa, Aa, ca⟩, ⟨pb, Ab, cb⟩] rfl (by unfold maxLen; decide) hL (by
    intro q hq
    simp only [List.mem_cons, List.not_mem_nil, or_false] at hq
    rcases hq with rfl | rfl <;> assumption)
  clear fa0 fa1 fb0 fb1 K1 hL hLw
  obtain ⟨wl, hwl⟩ : ∃ w, w = w3.alloc (.cells #[.bool pa.nul, .slice Aa pa.cells.length ca, .bool pb.nul, .slice Ab pb.cells.length cb] 25) := ⟨_, rfl⟩
  rw [← hwl] at K2
  have hwl' := Lib.hid hwl
  clear hwl
  refine hli.mono ?_
  clear hli
  rintro e w4 ⟨h, hw⟩
  have hw' : w4 = wl := hw.trans hwl'.out.symm
  clear hw hwl'
  subst hw'
  rcases h with ⟨rfl, _, hl⟩ | rfl
  case inr =>
    go_wp2_with fail
    go_ret
    exact ⟨rfl, K2.bel⟩
  have hla : Pq.light ⟨pa, Aa, ca⟩ := hl ⟨pa, Aa, ca⟩ (by simp)
  have hlb : Pq.light ⟨pb, Ab, cb⟩ := hl ⟨pb, Ab, cb⟩ (by simp)
  have hna : pa.cells.length ≤ 10 := hla.1
  have hnb : pb.cells.length ≤ 10 := hlb.1
  have hxa := Lib.hid hla.2
  clear hl hla hlb
  go_wp2_with fail
  obtain ⟨wr, hwr⟩ : ∃ w, w = w4 := ⟨_, rfl⟩
  have hga : Hid (Holds wr ga _ _) := Lib.hid (hwr ▸ K2.hold 1 _ _ _ rfl)
  have hra : Hid (Row wr wr.heap.size Aa (pa.cells.map encStr)) := Lib.hid (hwr ▸ K2.row 0 _ _ rfl)
  subst hwr
  -- THE REGION THAT DRAWS ITS ORDER, BY ONE LEXICAL WALK OVER GENERIC VALUES (written by relgen.py)
  refine wp_region_tabG ((fun _ _ v => v = .agg #[.bool (Pz.nul pa), .slice Aa (List.length (Pz.cells pa)) ca]) ::
    (fun L (W : World × Gh) v => PtsV W.1 ((cz pa)) v) ::
    (fun _ _ v => v = .pointer (some ⟨ga, 0, none⟩)) ::
    (fun _ _ v => v = .bool (Pz.nul pa)) ::
    (fun _ _ v => v = .agg #[.bool (Pz.nul pa), .slice none 0 0]) ::
    (fun L (W : World × Gh) v => ∃ g, W.2 5 = some g ∧ v = .pointer (some ⟨g, 0, none⟩)) ::
    (fun L (W : World × Gh) v => ∃ g, W.2 6 = some g ∧ v = .pointer (some ⟨g, 0, none⟩)) ::
    (fun _ _ _ => True) ::
    (fun _ _ _ => True) :: [])
    (⟨[(4, none)], 0, []⟩ :: ⟨[(21, some 0)], 0, []⟩ :: ⟨[(4, none)], 0, []⟩ :: ⟨[(23, some 2)], 0, []⟩ :: ⟨[(24, some 3)], 0, []⟩ :: ⟨[], 0, []⟩ :: ⟨[], 0, []⟩ :: ⟨[(7, some 5), (22, some 1)], 0, []⟩ :: ⟨[(8, some 6), (25, some 4)], 0, []⟩ :: [])
    (none :: none :: none :: none :: none :: none :: none :: some 5 :: some 6 :: none :: none :: none :: none :: none :: none :: none :: none :: none :: none :: none :: none :: some 0 :: some 1 :: some 2 :: some 3 :: some 4 :: [])
    (fun L W => CPt wr 25 [5, 6] [7, 8] [(cz pa), (⟨Pz.nul pa, []⟩ : Pz)] [] L W) (fun i W W' => GPt 25 [7, 8] i W W') ?mixK5tell5 ?okK5tell5 ?tabK5tell5 ?frK5tell5 ?inK5tell5 ?keptK5tell5 (fun _ => none) ?startK5tell5 ?eachK5tell5 ?finK5tell5
  case mixK5tell5 => kernel_rfl
  case okK5tell5 => kernel_rfl
  case tabK5tell5 => kernel_rfl
  case frK5tell5 => kernel_rfl
  case inK5tell5 => rfl
  case keptK5tell5 => exact ⟨fun _ _ _ _ _ _ _ _ _ _ _ h => h, fun i hne hrd L W W' v hLi hC hC' hG h => h.kept hG, fun _ _ _ _ _ _ _ _ _ _ _ h => h, fun _ _ _ _ _ _ _ _ _ _ _ h => h, fun _ _ _ _ _ _ _ _ _ _ _ h => h, fun i hne hrd L W W' v hLi hC hC' hG ⟨g, h1, h2⟩ => ⟨g, hG.more _ _ h1, h2⟩, fun i hne hrd L W W' v hLi hC hC' hG ⟨g, h1, h2⟩ => ⟨g, hG.more _ _ h1, h2⟩, fun _ _ _ _ _ _ _ _ _ _ _ h => h, fun _ _ _ _ _ _ _ _ _ _ _ h => h, trivial⟩
  case startK5tell5 => exact CPt.start (Below.refl _ _).drew (by decide) (by decide)
  case eachK5tell5 =>
    refine ⟨?_, ?_, ?_, ?_, ?_, ?_, ?_, ?_, ?_, trivial⟩
    -- 0: slot 21 := load 25 t4
    · intro w γ L f hC hLi hLd hLn hF
      obtain ⟨d4, _⟩ := hF
      have d4 : f 4 = .pointer (some ⟨ga, 0, none⟩) := d4
      refine Step2.live rfl ?_
      have hh := hga.out.below hC.bel hga.out.lt
      have f0 := (hh.fact 0 rfl).2
      have f1 := (hh.fact 1 rfl).2
      refine relUpon_ghost γ ?_
      have ev : ∀ t, evalOf f (.tmp t) = f t := fun _ => rfl
      have ec : ∀ c, evalOf f (.const c) = c := fun _ => rfl
      have ef : ∀ g, evalOf f (.func g) = .func (.func g) #[] #[] := fun _ => rfl
      refine relUpon_value ?_ (hC.other (i := 0) (by decide) (by decide) (Below.refl _ _)) (GPt.below (by decide) (Below.refl _ _)) rfl
      go_simp
    -- 1: slot 22 := call { value (Operand.func 9), args := #[t21], argTypes := #[25] }
    · intro w γ L f hC hLi hLd hLn hF
      obtain ⟨d21, _⟩ := hF
      have d21 : f 21 = .agg #[.bool (Pz.nul pa), .slice Aa (List.length (Pz.cells pa)) ca] := d21
      refine Step2.live rfl ?_
      refine relUpon_ghost γ ?_
      have ev : ∀ t, evalOf f (.tmp t) = f t := fun _ => rfl
      have ec : ∀ c, evalOf f (.const c) = c := fun _ => rfl
      have ef : ∀ g, evalOf f (.func g) = .func (.func g) #[] #[] := fun _ => rfl
      refine relUpon_call (f := 9) (args := #[.agg #[.bool (Pz.nul pa), .slice Aa (List.length (Pz.cells pa)) ca]]) (w := w) (by go_simp) (refPts_any w pa _ ⟨_, _, rfl, ((hra.out.below hC.bel).more hC.bel.size), hca⟩ (by omega)) ?_
      rintro e w1 ⟨⟨v, he, hv⟩, hB⟩
      exact ⟨_, he, hC.other (i := 1) (by decide) (by decide) hB, GPt.below (by decide) hB, hv⟩
    -- 2: slot 23 := fieldAddr 25 t4 0
    · intro w γ L f hC hLi hLd hLn hF
      obtain ⟨d4, _⟩ := hF
      have d4 : f 4 = .pointer (some ⟨ga, 0, none⟩) := d4
      refine Step2.live rfl ?_
      refine relUpon_ghost γ ?_
      have ev : ∀ t, evalOf f (.tmp t) = f t := fun _ => rfl
      have ec : ∀ c, evalOf f (.const c) = c := fun _ => rfl
      have ef : ∀ g, evalOf f (.func g) = .func (.func g) #[] #[] := fun _ => rfl
      refine relUpon_value ?_ (hC.other (i := 2) (by decide) (by decide) (Below.refl _ _)) (GPt.below (by decide) (Below.refl _ _)) rfl
      go_simp
    -- 3: slot 24 := load 4 t23
    · intro w γ L f hC hLi hLd hLn hF
      obtain ⟨d23, _⟩ := hF
      have d23 : f 23 = .pointer (some ⟨ga, 0, none⟩) := d23
      refine Step2.live rfl ?_
      have hh := hga.out.below hC.bel hga.out.lt
      have f0 := (hh.fact 0 rfl).2
      refine relUpon_ghost γ ?_
      have ev : ∀ t, evalOf f (.tmp t) = f t := fun _ => rfl
      have ec : ∀ c, evalOf f (.const c) = c := fun _ => rfl
      have ef : ∀ g, evalOf f (.func g) = .func (.func g) #[] #[] := fun _ => rfl
      refine relUpon_value ?_ (hC.other (i := 3) (by decide) (by decide) (Below.refl _ _)) (GPt.below (by decide) (Below.refl _ _)) rfl
      go_simp
    -- 4: slot 25 := build 25 #[(0, t24)]
    · intro w γ L f hC hLi hLd hLn hF
      obtain ⟨d24, _⟩ := hF
      have d24 : f 24 = .bool (Pz.nul pa) := d24
      refine Step2.live rfl ?_
      refine relUpon_ghost γ ?_
      have ev : ∀ t, evalOf f (.tmp t) = f t := fun _ => rfl
      have ec : ∀ c, evalOf f (.const c) = c := fun _ => rfl
      have ef : ∀ g, evalOf f (.func g) = .func (.func g) #[] #[] := fun _ => rfl
      refine relUpon_value ?_ (hC.other (i := 4) (by decide) (by decide) (Below.refl _ _)) (GPt.below (by decide) (Below.refl _ _)) rfl
      go_simp
    -- 5: slot 7 := alloc 25
    · intro w γ L f hC hLi hLd hLn hF
      refine Step2.live rfl ?_
      have hA := hC.alloc hLi (by decide) (by decide)
      refine relUpon_ghost (fun j => if j = 5 then some w.heap.size else γ j) ?_
      have ev : ∀ t, evalOf f (.tmp t) = f t := fun _ => rfl
      have ec : ∀ c, evalOf f (.const c) = c := fun _ => rfl
      have ef : ∀ g, evalOf f (.func g) = .func (.func g) #[] #[] := fun _ => rfl
      refine relUpon_value (w' := w.alloc (.cells #[.bool false, .slice none 0 0] 25)) (v := .pointer (some ⟨w.heap.size, 0, none⟩)) (by go_simp) hA.1 (hA.2 _ (by decide)) ⟨_, by simp, rfl⟩
    -- 6: slot 8 := alloc 25
    · intro w γ L f hC hLi hLd hLn hF
      refine Step2.live rfl ?_
      have hA := hC.alloc hLi (by decide) (by decide)
      refine relUpon_ghost (fun j => if j = 6 then some w.heap.size else γ j) ?_
      have ev : ∀ t, evalOf f (.tmp t) = f t := fun _ => rfl
      have ec : ∀ c, evalOf f (.const c) = c := fun _ => rfl
      have ef : ∀ g, evalOf f (.func g) = .func (.func g) #[] #[] := fun _ => rfl
      refine relUpon_value (w' := w.alloc (.cells #[.bool false, .slice none 0 0] 25)) (v := .pointer (some ⟨w.heap.size, 0, none⟩)) (by go_simp) hA.1 (hA.2 _ (by decide)) ⟨_, by simp, rfl⟩
    -- 7: slot None := store 25 t7 t22
    · intro w γ L f hC hLi hLd hLn hF
      obtain ⟨d7, d22, _⟩ := hF
      refine Step2.live rfl ?_
      obtain ⟨g, hg, e7⟩ := d7
      have hg : γ 5 = some g := hg
      obtain ⟨A, c, e22, hr, hc⟩ := d22
      have hst := hC.stored hLi (k := 0) (a := 5) (p := (cz pa)) (A := A) (c := c) rfl rfl rfl (by decide) (by decide) (by decide) hg (fun j hj => hLd j (by revert j; decide)) (hLd 5 (by decide)) (hr) hc
      obtain ⟨g', e1, _, hz, _⟩ := hC.done 0 5 7 ((cz pa)) rfl rfl rfl (hLd 5 (by decide))
      have e1 : γ 5 = some g' := e1
      obtain rfl : g = g' := Option.some.inj (hg.symm.trans e1)
      have z0 := ((hz hLi).fact 0 rfl).2
      have z1 := ((hz hLi).fact 1 rfl).2
      have f0 := (hz hLi).frozen 0
      have f1 := (hz hLi).frozen 1
      refine relUpon_ghost γ ?_
      have ev : ∀ t, evalOf f (.tmp t) = f t := fun _ => rfl
      have ec : ∀ c, evalOf f (.const c) = c := fun _ => rfl
      have ef : ∀ g, evalOf f (.func g) = .func (.func g) #[] #[] := fun _ => rfl
      refine relUpon_skip ?_ hst.1 (hst.2 _ (by decide)) trivial
      go_simp
    -- 8: slot None := store 25 t8 t25
    · intro w γ L f hC hLi hLd hLn hF
      obtain ⟨d8, d25, _⟩ := hF
      have d25 : f 25 = .agg #[.bool (Pz.nul pa), .slice none 0 0] := d25
      refine Step2.live rfl ?_
      obtain ⟨g, hg, e8⟩ := d8
      have hg : γ 6 = some g := hg
      have hst := hC.stored hLi (k := 1) (a := 6) (p := (⟨Pz.nul pa, []⟩ : Pz)) (A := none) (c := 0) rfl rfl rfl (by decide) (by decide) (by decide) hg (fun j hj => hLd j (by revert j; decide)) (hLd 6 (by decide)) (Row.nil_ _ _ _) (Nat.zero_le _)
      obtain ⟨g', e1, _, hz, _⟩ := hC.done 1 6 8 ((⟨Pz.nul pa, []⟩ : Pz)) rfl rfl rfl (hLd 6 (by decide))
      have e1 : γ 6 = some g' := e1
      obtain rfl : g = g' := Option.some.inj (hg.symm.trans e1)
      have z0 := ((hz hLi).fact 0 rfl).2
      have z1 := ((hz hLi).fact 1 rfl).2
      have f0 := (hz hLi).frozen 0
      have f1 := (hz hLi).frozen 1
      refine relUpon_ghost γ ?_
      have ev : ∀ t, evalOf f (.tmp t) = f t := fun _ => rfl
      have ec : ∀ c, evalOf f (.const c) = c := fun _ => rfl
      have ef : ∀ g, evalOf f (.func g) = .func (.func g) #[] #[] := fun _ => rfl
      refine relUpon_skip ?_ hst.1 (hst.2 _ (by decide)) trivial
      go_simp
  intro x w' γ hC hV

  obtain ⟨gn, hx1, hnb1, _, hx⟩ := hC.done 0 5 7 _ rfl rfl rfl rfl
  obtain ⟨go, hy1, hob1, _, hy⟩ := hC.done 1 6 8 _ rfl rfl rfl rfl
  obtain ⟨An, cn, hgn0, hrn0, hcn⟩ := hx rfl
  obtain ⟨Ao, co, hgo0, hro0, hco⟩ := hy rfl
  clear hx hy
  have hne : gn ≠ go := fun e => by
    have := hC.inj 5 6 gn hx1 (by rw [e]; exact hy1)
    cases this
  obtain ⟨g7, q7, e7⟩ := hV 5 _ rfl rfl
  obtain ⟨g8, q8, e8⟩ := hV 6 _ rfl rfl
  clear hV
  simp only at q7 q8 hx1 hy1
  rw [hx1] at q7
  rw [hy1] at q8
  injection q7 with q7
  injection q8 with q8
  subst q7 q8
  simp only [framed]
  rw [e7, e8]
  clear e7 e8 hx1 hy1
  have K3 := ((((K2.up hC.bel).addR hro0).addR hrn0).addH hgo0).addH hgn0
  have hgal : ga < gn := Nat.lt_of_lt_of_le hga.out.lt hnb1
  have hgbl : gb < gn := Nat.lt_of_lt_of_le (K2.hold 0 _ _ _ rfl).lt hnb1
  have hw0n : w0.heap.size ≤ gn := Nat.le_trans K2.size hnb1
  clear K2 hC hgn0 hgo0 hrn0 hro0 hga hra hob1 hnb1
  have fz0 := (K3.fact 0 0 rfl rfl).2
  have ff0 := (K3.hold 0 _ _ _ rfl).frozen 0
  have hst := Writes.store w' (M := [some gn]) (p := ⟨gn, 0, none⟩) (by simp) (.bool false)
  have hN : Holds (w'.setCell ⟨gn, 0, none⟩ (.bool false)) gn 25 #[.bool false, .slice An (cz pa).cells.length cn] := by
    have := (K3.hold 0 _ _ _ rfl).store 0 (.bool false)
    simpa using this
  have hO := hst.holds (K3.hold 1 _ _ _ rfl) (by simp; exact fun e => hne e.symm)
  have hB := hst.holds (K3.hold 2 _ _ _ rfl) (by simp; omega)
  have hA := hst.holds (K3.hold 3 _ _ _ rfl) (by simp; omega)
  have ap : ∀ (i : Nat) A (l : List S), _ := fun i A (l : List S) (h : Row w' w'.heap.size A (l.map encStr)) => (hst.row h (Nat.le_refl _) (fun hne => h.apartPt (K3.hold 0 _ _ _ rfl) hne)).more hst.size
  have hbl := K3.bel.trans (hst.below K3.size (fun j hj => by simp at hj; omega))
  have rN := ap 0 _ _ (K3.row 0 _ _ rfl)
  have rO := ap 0 _ ([] : List S) (K3.row 1 _ _ rfl)
  have rA := ap 0 _ _ (K3.row 2 _ _ rfl)
  have rB := ap 0 _ _ (K3.row 3 _ _ rfl)
  obtain ⟨pn, hpn0⟩ : ∃ q : Pz, q = ⟨false, canon pa.cells⟩ := ⟨_, rfl⟩
  obtain ⟨po, hpo0⟩ : ∃ q : Pz, q = ⟨pa.nul, []⟩ := ⟨_, rfl⟩
  have K4 : Kp w0 [(gn, 25, #[.bool pn.nul, .slice An pn.cells.length cn]), (go, 25, #[.bool po.nul, .slice Ao po.cells.length co]), (gb, 25, #[.bool pb.nul, .slice Ab pb.cells.length cb]), (ga, 25, #[.bool pa.nul, .slice Aa pa.cells.length ca])] [(An, pn.cells.map encStr), (Ao, po.cells.map encStr), (Aa, pa.cells.map encStr), (Ab, pb.cells.map encStr)] (w'.setCell ⟨gn, 0, none⟩ (.bool false)) := by
    rw [hpn0, hpo0]
    exact (((((((Kp.start hbl).addR rB).addR rA).addR rO).addR rN).addH hA).addH hB).addH hO |>.addH hN
  have hcn2 : pn.cells.length ≤ cn := by rw [hpn0]; exact hcn
  have hco2 : po.cells.length ≤ co := by rw [hpo0]; exact hco
  clear hst hN hO hB hA ap hbl rN rO rA rB K3 hcn hco
  go_wp2_with fail
  generalize w'.setCell ⟨gn, 0, none⟩ (.bool false) = wr at *
  have hgn := Lib.hid (K4.hold 0 _ _ _ rfl)
  have hgo := Lib.hid (K4.hold 1 _ _ _ rfl)
  have hgb := Lib.hid (K4.hold 2 _ _ _ rfl)
  have hga := Lib.hid (K4.hold 3 _ _ _ rfl)
  have hrn := Lib.hid (K4.row 0 _ _ rfl)
  have hro := Lib.hid (K4.row 1 _ _ rfl)
  have hra := Lib.hid (K4.row 2 _ _ rfl)
  have hrb := Lib.hid (K4.row 3 _ _ rfl)
  have hL := Lib.hid ((hL1.out.below K4.bel).more K4.size)
  have hpn := Lib.hid hpn0.symm
  have hpo := Lib.hid hpo0.symm
  have hlnn : pn.cells.length ≤ 10 := by rw [hpn0]; exact Nat.le_trans (canon_len _) hna
  have hlno : po.cells.length ≤ 10 := by rw [hpo0]; exact Nat.zero_le _
  have hjl : (joinP Ls).cells.length ≤ 100 := by
    have h1 := flat_sum (L := Ls) (N := 10) (fun q hq => (hll.out q hq).1)
    have h2 := canon_len (Ls.flatMap (·.p.cells))
    rw [hln'.out] at h1
    show (canon (Ls.flatMap (·.p.cells))).length ≤ 100
    omega
  have hl1 : Hid (∀ q ∈ Ls, q.p.cells.length ≤ 100) := Lib.hid fun q hq => Nat.le_trans (hll.out q hq).1 (by decide)
  have hl2 : Hid (∀ q ∈ Ls, q.p.cells.length ≤ 1000) := Lib.hid fun q hq => Nat.le_trans (hll.out q hq).1 (by decide)
  have hxt : Hid (∀ x ∈ pa.cells, x.length ≤ 1000) := Lib.hid fun x hx => Nat.le_trans (hxa.out x hx) (by decide)
  have han : Hid (sameP ⟨true, canon pa.cells⟩ (J2 ⟨true, []⟩ pn) = true) := Lib.hid (by
    rw [hpn0]
    unfold J2
    simp only [List.nil_append, canon_canon, Bool.true_or]
    exact sameP_rfl _)
  have hj2 : (J2 ⟨true, []⟩ pn).cells.length ≤ 100 := by
    have := J2_len ⟨true, []⟩ pn
    simp only [List.length_nil] at this
    omega
  clear hpn0 hpo0
  -- THE REGION THAT DRAWS ITS ORDER, BY ONE LEXICAL WALK OVER GENERIC VALUES (written by relgen.py)
  refine wp_region_tab ((fun _ v => v = .slice Al nl cl) ::
    (fun w v => PtsV w ((joinP Ls)) v) ::
    (fun _ v => v = .slice Al nl cl) ::
    (fun w v => PtsV w ((joinP Ls)) v) ::
    (fun _ v => v = .bool true) ::
    (fun _ v => v = .bool true) ::
    (fun _ v => v = .agg #[.bool (Pz.nul pa), .slice Aa (List.length (Pz.cells pa)) ca]) ::
    (fun _ v => v = .agg #[.bool (Pz.nul pb), .slice Ab (List.length (Pz.cells pb)) cb]) ::
    (fun _ v => v = .bool (leqS pa pb)) ::
    (fun _ v => v = .agg #[.bool (Pz.nul pa), .slice Aa (List.length (Pz.cells pa)) ca]) ::
    (fun _ v => v = .agg #[.bool (Pz.nul pb), .slice Ab (List.length (Pz.cells pb)) cb]) ::
    (fun _ v => v = .bool (leqS pa pb)) ::
    (fun _ v => v = .bool true) ::
    (fun _ v => v = .bool true) ::
    (fun _ v => v = .bool true) ::
    (fun _ v => v = .agg #[.bool (Pz.nul pa), .slice Aa (List.length (Pz.cells pa)) ca]) ::
    (fun _ v => v = .bool (!pa.nul && pa.cells.isEmpty)) ::
    (fun _ v => v = .agg #[.bool (Pz.nul pa), .slice Aa (List.length (Pz.cells pa)) ca]) ::
    (fun _ v => v = .bool (!pa.nul && pa.cells.isEmpty)) ::
    (fun _ v => v = .bool true) ::
    (fun _ v => v = .bool true) ::
    (fun _ v => v = .bool true) ::
    (fun _ v => v = .agg #[.bool (Pz.nul pa), .slice Aa (List.length (Pz.cells pa)) ca]) ::
    (fun w v => PtsV w (pn) v) ::
    (fun _ v => v = .agg #[.bool (Pz.nul pn), .slice An (List.length (Pz.cells pn)) cn]) ::
    (fun _ v => v = .bool true) ::
    (fun _ v => v = .bool true) ::
    (fun _ v => v = .bool true) ::
    (fun _ v => v = .agg #[.bool (Pz.nul pa), .slice Aa (List.length (Pz.cells pa)) ca]) ::
    (fun w v => PtsV w (po) v) ::
    (fun _ v => v = .agg #[.bool (Pz.nul po), .slice Ao (List.length (Pz.cells po)) co]) ::
    (fun _ v => v = .bool true) ::
    (fun _ v => v = .bool true) ::
    (fun _ v => v = .bool true) ::
    (fun _ v => v = .agg #[.bool (Pz.nul pa), .slice Aa (List.length (Pz.cells pa)) ca]) ::
    (fun _ v => v = encStr (textP pa)) ::
    (fun _ v => v = .agg #[.bool (Pz.nul pa), .slice Aa (List.length (Pz.cells pa)) ca]) ::
    (fun _ v => v = encStr (textP pa)) ::
    (fun _ v => v = .bool true) ::
    (fun _ v => v = .bool true) ::
    (fun _ v => v = .bool true) ::
    (fun _ v => v = .pointer (some ⟨ga, 1, none⟩)) ::
    (fun _ v => v = .slice Aa (List.length (Pz.cells pa)) ca) ::
    (fun w v => PtsV w (pn) v) ::
    (fun _ v => v = .agg #[.bool (Pz.nul pn), .slice An (List.length (Pz.cells pn)) cn]) ::
    (fun _ v => v = .bool true) ::
    (fun _ v => v = .bool true) ::
    (fun _ v => v = .bool true) ::
    (fun _ v => v = .pointer (some ⟨ga, 1, none⟩)) ::
    (fun _ v => v = .slice Aa (List.length (Pz.cells pa)) ca) ::
    (fun w v => PtsV w ((⟨true, canon (Pz.cells pa)⟩ : Pz)) v) ::
    (fun _ v => v = .agg #[.bool true, .slice none 0 0]) ::
    (fun _ v => v = .agg #[.bool (Pz.nul pn), .slice An (List.length (Pz.cells pn)) cn]) ::
    (fun w v => PLs w [(⟨true, []⟩ : Pz), pn] v) ::
    (fun w v => PtsV w ((J2 (⟨true, []⟩ : Pz) pn)) v) ::
    (fun _ v => v = .bool true) ::
    (fun _ v => v = .bool true) ::
    (fun _ v => v = .bool true) :: [])
    (⟨[(0, none)], 0, []⟩ :: ⟨[(27, some 0)], 0, []⟩ :: ⟨[(0, none)], 0, []⟩ :: ⟨[(29, some 2)], 0, []⟩ :: ⟨[(28, some 1), (30, some 3)], 0, []⟩ :: ⟨[(31, some 4)], 0, []⟩ :: ⟨[(4, none), (32, some 5)], 32, []⟩ :: ⟨[(5, none), (32, some 5)], 32, []⟩ :: ⟨[(33, some 6), (34, some 7), (32, some 5)], 32, []⟩ :: ⟨[(4, none), (32, some 5)], 32, []⟩ :: ⟨[(5, none), (32, some 5)], 32, []⟩ :: ⟨[(36, some 9), (37, some 10), (32, some 5)], 32, []⟩ :: ⟨[(35, some 8), (38, some 11), (32, some 5)], 32, []⟩ :: ⟨[(32, some 5), (39, some 12)], 0, []⟩ :: ⟨[(40, some 13)], 0, []⟩ :: ⟨[(4, none), (41, some 14)], 41, []⟩ :: ⟨[(42, some 15), (41, some 14)], 41, []⟩ :: ⟨[(4, none), (41, some 14)], 41, []⟩ :: ⟨[(44, some 17), (41, some 14)], 41, []⟩ :: ⟨[(43, some 16), (45, some 18), (41, some 14)], 41, []⟩ :: ⟨[(41, some 14), (46, some 19)], 0, []⟩ :: ⟨[(47, some 20)], 0, []⟩ :: ⟨[(4, none), (48, some 21)], 48, []⟩ :: ⟨[(49, some 22), (48, some 21)], 48, []⟩ :: ⟨[(7, none), (48, some 21)], 48, []⟩ :: ⟨[(50, some 23), (51, some 24), (48, some 21)], 48, []⟩ :: ⟨[(48, some 21), (52, some 25)], 0, []⟩ :: ⟨[(53, some 26)], 0, []⟩ :: ⟨[(4, none), (54, some 27)], 54, []⟩ :: ⟨[(55, some 28), (54, some 27)], 54, []⟩ :: ⟨[(8, none), (54, some 27)], 54, []⟩ :: ⟨[(56, some 29), (57, some 30), (54, some 27)], 54, []⟩ :: ⟨[(54, some 27), (58, some 31)], 0, []⟩ :: ⟨[(59, some 32)], 0, []⟩ :: ⟨[(4, none), (60, some 33)], 60, []⟩ :: ⟨[(61, some 34), (60, some 33)], 60, []⟩ :: ⟨[(4, none), (60, some 33)], 60, []⟩ :: ⟨[(63, some 36), (60, some 33)], 60, []⟩ :: ⟨[(62, some 35), (64, some 37), (60, some 33)], 60, []⟩ :: ⟨[(60, some 33), (65, some 38)], 0, []⟩ :: ⟨[(66, some 39)], 0, []⟩ :: ⟨[(4, none), (67, some 40)], 67, []⟩ :: ⟨[(68, some 41), (67, some 40)], 67, []⟩ :: ⟨[(69, some 42), (67, some 40)], 67, []⟩ :: ⟨[(7, none), (67, some 40)], 67, []⟩ :: ⟨[(70, some 43), (71, some 44), (67, some 40)], 67, []⟩ :: ⟨[(67, some 40), (72, some 45)], 0, []⟩ :: ⟨[(73, some 46)], 0, []⟩ :: ⟨[(4, none), (74, some 47)], 74, []⟩ :: ⟨[(75, some 48), (74, some 47)], 74, []⟩ :: ⟨[(76, some 49), (74, some 47)], 74, []⟩ :: ⟨[(74, some 47)], 74, []⟩ :: ⟨[(7, none), (74, some 47)], 74, []⟩ :: ⟨[(78, some 51), (79, some 52), (74, some 47)], 74, []⟩ :: ⟨[(80, some 53), (74, some 47)], 74, []⟩ :: ⟨[(77, some 50), (81, some 54), (74, some 47)], 74, []⟩ :: ⟨[(74, some 47), (82, some 55)], 0, []⟩ :: ⟨[(83, some 56)], 0, []⟩ :: [])
    (none :: none :: none :: none :: none :: none :: some 57 :: none :: none :: none :: none :: none :: none :: none :: none :: none :: none :: none :: none :: none :: none :: none :: none :: none :: none :: none :: none :: some 0 :: some 1 :: some 2 :: some 3 :: some 4 :: some 5 :: some 6 :: some 7 :: some 8 :: some 9 :: some 10 :: some 11 :: some 12 :: some 13 :: some 14 :: some 15 :: some 16 :: some 17 :: some 18 :: some 19 :: some 20 :: some 21 :: some 22 :: some 23 :: some 24 :: some 25 :: some 26 :: some 27 :: some 28 :: some 29 :: some 30 :: some 31 :: some 32 :: some 33 :: some 34 :: some 35 :: some 36 :: some 37 :: some 38 :: some 39 :: some 40 :: some 41 :: some 42 :: some 43 :: some 44 :: some 45 :: some 46 :: some 47 :: some 48 :: some 49 :: some 50 :: some 51 :: some 52 :: some 53 :: some 54 :: some 55 :: some 56 :: [])
    (fun _ w' => Below wr.heap.size wr w') (fun _ w w' => Below w.heap.size w w') ?mixK7tell7 ?okK7tell7 ?tabK7tell7 ?frK7tell7 ?inK7tell7 ?keptK7tell7 ?startK7tell7 ?eachK7tell7 ?finK7tell7
  case mixK7tell7 => kernel_rfl
  case okK7tell7 => kernel_rfl
  case tabK7tell7 => kernel_rfl
  case frK7tell7 => kernel_rfl
  case inK7tell7 => rfl
  case keptK7tell7 => exact ⟨fun _ _ _ _ _ _ _ h => h, fun _ _ _ => fun w w' v hG h => h.up hG, fun _ _ _ _ _ _ _ h => h, fun _ _ _ => fun w w' v hG h => h.up hG, fun _ _ _ _ _ _ _ h => h, fun _ _ _ _ _ _ _ h => h, fun _ _ _ _ _ _ _ h => h, fun _ _ _ _ _ _ _ h => h, fun _ _ _ _ _ _ _ h => h, fun _ _ _ _ _ _ _ h => h, fun _ _ _ _ _ _ _ h => h, fun _ _ _ _ _ _ _ h => h, fun _ _ _ _ _ _ _ h => h, fun _ _ _ _ _ _ _ h => h, fun _ _ _ _ _ _ _ h => h, fun _ _ _ _ _ _ _ h => h, fun _ _ _ _ _ _ _ h => h, fun _ _ _ _ _ _ _ h => h, fun _ _ _ _ _ _ _ h => h, fun _ _ _ _ _ _ _ h => h, fun _ _ _ _ _ _ _ h => h, fun _ _ _ _ _ _ _ h => h, fun _ _ _ _ _ _ _ h => h, fun _ _ _ => fun w w' v hG h => h.up hG, fun _ _ _ _ _ _ _ h => h, fun _ _ _ _ _ _ _ h => h, fun _ _ _ _ _ _ _ h => h, fun _ _ _ _ _ _ _ h => h, fun _ _ _ _ _ _ _ h => h, fun _ _ _ => fun w w' v hG h => h.up hG, fun _ _ _ _ _ _ _ h => h, fun _ _ _ _ _ _ _ h => h, fun _ _ _ _ _ _ _ h => h, fun _ _ _ _ _ _ _ h => h, fun _ _ _ _ _ _ _ h => h, fun _ _ _ _ _ _ _ h => h, fun _ _ _ _ _ _ _ h => h, fun _ _ _ _ _ _ _ h => h, fun _ _ _ _ _ _ _ h => h, fun _ _ _ _ _ _ _ h => h, fun _ _ _ _ _ _ _ h => h, fun _ _ _ _ _ _ _ h => h, fun _ _ _ _ _ _ _ h => h, fun _ _ _ => fun w w' v hG h => h.up hG, fun _ _ _ _ _ _ _ h => h, fun _ _ _ _ _ _ _ h => h, fun _ _ _ _ _ _ _ h => h, fun _ _ _ _ _ _ _ h => h, fun _ _ _ _ _ _ _ h => h, fun _ _ _ _ _ _ _ h => h, fun _ _ _ => fun w w' v hG h => h.up hG, fun _ _ _ _ _ _ _ h => h, fun _ _ _ _ _ _ _ h => h, fun _ _ _ => fun w w' v hG h => h.up hG, fun _ _ _ => fun w w' v hG h => h.up hG, fun _ _ _ _ _ _ _ h => h, fun _ _ _ _ _ _ _ h => h, fun _ _ _ _ _ _ _ h => h, trivial⟩
  case startK7tell7 => exact (Below.refl _ _).drew
  case eachK7tell7 =>
    refine ⟨?_, ?_, ?_, ?_, ?_, ?_, ?_, ?_, ?_, ?_, ?_, ?_, ?_, ?_, ?_, ?_, ?_, ?_, ?_, ?_, ?_, ?_, ?_, ?_, ?_, ?_, ?_, ?_, ?_, ?_, ?_, ?_, ?_, ?_, ?_, ?_, ?_, ?_, ?_, ?_, ?_, ?_, ?_, ?_, ?_, ?_, ?_, ?_, ?_, ?_, ?_, ?_, ?_, ?_, ?_, ?_, ?_, ?_, trivial⟩
    -- 0: slot 27 := move t0
    · intro w L f hC hLi hLd hLn hF
      obtain ⟨d0, _⟩ := hF
      have d0 : f 0 = .slice Al nl cl := d0
      refine Step2.live rfl ?_
      exact relUpon_value (v := f 0) rfl (hC) (Below.refl _ _) d0
    -- 1: slot 28 := call { value (Operand.func 11), args := #[t27], argTypes := #[22] }
    · intro w L f hC hLi hLd hLn hF
      obtain ⟨d27, _⟩ := hF
      have d27 : f 27 = .slice Al nl cl := d27
      refine Step2.live rfl ?_
      have ev : ∀ t, evalOf f (.tmp t) = f t := fun _ => rfl
      have ec : ∀ c, evalOf f (.const c) = c := fun _ => rfl
      have ef : ∀ g, evalOf f (.func g) = .func (.func g) #[] #[] := fun _ => rfl
      refine relUpon_call (f := 11) (args := #[.slice Al nl cl]) (w := w) (by go_simp) (join_any w Al nl cl Ls hln'.out (by omega) ((hL.out.below hC).more hC.size) hl2.out) ?_
      rintro e w1 ⟨⟨v, he, hv⟩, hB⟩
      exact ⟨_, he, hC.trans (hB.mono hC.size), hB, hv⟩
    -- 2: slot 29 := move t0
    · intro w L f hC hLi hLd hLn hF
      obtain ⟨d0, _⟩ := hF
      have d0 : f 0 = .slice Al nl cl := d0
      refine Step2.live rfl ?_
      exact relUpon_value (v := f 0) rfl (hC) (Below.refl _ _) d0
    -- 3: slot 30 := call { value (Operand.func 12), args := #[t29], argTypes := #[22] }
    · intro w L f hC hLi hLd hLn hF
      obtain ⟨d29, _⟩ := hF
      have d29 : f 29 = .slice Al nl cl := d29
      refine Step2.live rfl ?_
      have ev : ∀ t, evalOf f (.tmp t) = f t := fun _ => rfl
      have ec : ∀ c, evalOf f (.const c) = c := fun _ => rfl
      have ef : ∀ g, evalOf f (.func g) = .func (.func g) #[] #[] := fun _ => rfl
      refine relUpon_call (f := 12) (args := #[.slice Al nl cl]) (w := w) (by go_simp) (pjoin_any w Al nl cl Ls hln'.out (by omega) ((hL.out.below hC).more hC.size) hl1.out) ?_
      rintro e w1 ⟨⟨v, he, hv⟩, hB⟩
      exact ⟨_, he, hC.trans (hB.mono hC.size), hB, hv⟩
    -- 4: slot 31 := call { value (Operand.func 10), args := #[t28, t30], argTypes := #[25, 25] }
    · intro w L f hC hLi hLd hLn hF
      obtain ⟨d28, d30, _⟩ := hF
      refine Step2.live rfl ?_
      obtain ⟨A28, c28, e28, hr28, hc28⟩ := d28
      obtain ⟨A30, c30, e30, hr30, hc30⟩ := d30
      have ev : ∀ t, evalOf f (.tmp t) = f t := fun _ => rfl
      have ec : ∀ c, evalOf f (.const c) = c := fun _ => rfl
      have ef : ∀ g, evalOf f (.func g) = .func (.func g) #[] #[] := fun _ => rfl
      refine relUpon_call (f := 10) (args := #[.agg #[.bool (Pz.nul (joinP Ls)), .slice A28 (List.length (Pz.cells (joinP Ls))) c28], .agg #[.bool (Pz.nul (joinP Ls)), .slice A30 (List.length (Pz.cells (joinP Ls))) c30]]) (w := w) (by go_simp) (ptsEq_any w (joinP Ls) (joinP Ls) _ _ ⟨_, _, rfl, hr28, hc28⟩ ⟨_, _, rfl, hr30, hc30⟩ (by omega) (by omega)) ?_
      rintro e w1 ⟨he, hB⟩
      exact ⟨_, he, hC.trans (hB.mono hC.size), hB, congrArg Value.bool (sameP_rfl _)⟩
    -- 5: slot 32 := move t31
    · intro w L f hC hLi hLd hLn hF
      obtain ⟨d31, _⟩ := hF
      have d31 : f 31 = .bool true := d31
      refine Step2.live rfl ?_
      exact relUpon_value (v := f 31) rfl (hC) (Below.refl _ _) d31
    -- 6: slot 33 := load 25 t4
    · intro w L f hC hLi hLd hLn hF
      obtain ⟨d4, d32, _⟩ := hF
      have d4 : f 4 = .pointer (some ⟨ga, 0, none⟩) := d4
      have d32 : f 32 = .bool true := d32
      refine Step2.live (show wantedBy _ (f 32) = true by rw [d32]; rfl) ?_
      have hh := hga.out.below hC hga.out.lt
      have f0 := (hh.fact 0 rfl).2
      have f1 := (hh.fact 1 rfl).2
      have ev : ∀ t, evalOf f (.tmp t) = f t := fun _ => rfl
      have ec : ∀ c, evalOf f (.const c) = c := fun _ => rfl
      have ef : ∀ g, evalOf f (.func g) = .func (.func g) #[] #[] := fun _ => rfl
      refine relUpon_value ?_ hC (Below.refl _ _) rfl
      go_simp
    -- 7: slot 34 := load 25 t5
    · intro w L f hC hLi hLd hLn hF
      obtain ⟨d5, d32, _⟩ := hF
      have d5 : f 5 = .pointer (some ⟨gb, 0, none⟩) := d5
      have d32 : f 32 = .bool true := d32
      refine Step2.live (show wantedBy _ (f 32) = true by rw [d32]; rfl) ?_
      have hh := hgb.out.below hC hgb.out.lt
      have f0 := (hh.fact 0 rfl).2
      have f1 := (hh.fact 1 rfl).2
      have ev : ∀ t, evalOf f (.tmp t) = f t := fun _ => rfl
      have ec : ∀ c, evalOf f (.const c) = c := fun _ => rfl
      have ef : ∀ g, evalOf f (.func g) = .func (.func g) #[] #[] := fun _ => rfl
      refine relUpon_value ?_ hC (Below.refl _ _) rfl
      go_simp
    -- 8: slot 35 := call { value (Operand.func 13), args := #[t33, t34], argTypes := #[25, 25] }
    · intro w L f hC hLi hLd hLn hF
      obtain ⟨d33, d34, d32, _⟩ := hF
      have d33 : f 33 = .agg #[.bool (Pz.nul pa), .slice Aa (List.length (Pz.cells pa)) ca] := d33
      have d34 : f 34 = .agg #[.bool (Pz.nul pb), .slice Ab (List.length (Pz.cells pb)) cb] := d34
      have d32 : f 32 = .bool true := d32
      refine Step2.live (show wantedBy _ (f 32) = true by rw [d32]; rfl) ?_
      have ev : ∀ t, evalOf f (.tmp t) = f t := fun _ => rfl
      have ec : ∀ c, evalOf f (.const c) = c := fun _ => rfl
      have ef : ∀ g, evalOf f (.func g) = .func (.func g) #[] #[] := fun _ => rfl
      refine relUpon_call (f := 13) (args := #[.agg #[.bool (Pz.nul pa), .slice Aa (List.length (Pz.cells pa)) ca], .agg #[.bool (Pz.nul pb), .slice Ab (List.length (Pz.cells pb)) cb]]) (w := w) (by go_simp) (leq_any w pa pb _ _ ⟨_, _, rfl, ((hra.out.below hC).more hC.size), hca⟩ ⟨_, _, rfl, ((hrb.out.below hC).more hC.size), hcb⟩ (by omega) (by omega)) ?_
      rintro e w1 ⟨he, hB⟩
      exact ⟨_, he, hC.trans (hB.mono hC.size), hB, congrArg Value.bool rfl⟩
    -- 9: slot 36 := load 25 t4
    · intro w L f hC hLi hLd hLn hF
      obtain ⟨d4, d32, _⟩ := hF
      have d4 : f 4 = .pointer (some ⟨ga, 0, none⟩) := d4
      have d32 : f 32 = .bool true := d32
      refine Step2.live (show wantedBy _ (f 32) = true by rw [d32]; rfl) ?_
      have hh := hga.out.below hC hga.out.lt
      have f0 := (hh.fact 0 rfl).2
      have f1 := (hh.fact 1 rfl).2
      have ev : ∀ t, evalOf f (.tmp t) = f t := fun _ => rfl
      have ec : ∀ c, evalOf f (.const c) = c := fun _ => rfl
      have ef : ∀ g, evalOf f (.func g) = .func (.func g) #[] #[] := fun _ => rfl
      refine relUpon_value ?_ hC (Below.refl _ _) rfl
      go_simp
    -- 10: slot 37 := load 25 t5
    · intro w L f hC hLi hLd hLn hF
      obtain ⟨d5, d32, _⟩ := hF
      have d5 : f 5 = .pointer (some ⟨gb, 0, none⟩) := d5
      have d32 : f 32 = .bool true := d32
      refine Step2.live (show wantedBy _ (f 32) = true by rw [d32]; rfl) ?_
      have hh := hgb.out.below hC hgb.out.lt
      have f0 := (hh.fact 0 rfl).2
      have f1 := (hh.fact 1 rfl).2
      have ev : ∀ t, evalOf f (.tmp t) = f t := fun _ => rfl
      have ec : ∀ c, evalOf f (.const c) = c := fun _ => rfl
      have ef : ∀ g, evalOf f (.func g) = .func (.func g) #[] #[] := fun _ => rfl
      refine relUpon_value ?_ hC (Below.refl _ _) rfl
      go_simp
    -- 11: slot 38 := call { value (Operand.func 14), args := #[t36, t37], argTypes := #[25, 25] }
    · intro w L f hC hLi hLd hLn hF
      obtain ⟨d36, d37, d32, _⟩ := hF
      have d36 : f 36 = .agg #[.bool (Pz.nul pa), .slice Aa (List.length (Pz.cells pa)) ca] := d36
      have d37 : f 37 = .agg #[.bool (Pz.nul pb), .slice Ab (List.length (Pz.cells pb)) cb] := d37
      have d32 : f 32 = .bool true := d32
      refine Step2.live (show wantedBy _ (f 32) = true by rw [d32]; rfl) ?_
      have ev : ∀ t, evalOf f (.tmp t) = f t := fun _ => rfl
      have ec : ∀ c, evalOf f (.const c) = c := fun _ => rfl
      have ef : ∀ g, evalOf f (.func g) = .func (.func g) #[] #[] := fun _ => rfl
      refine relUpon_call (f := 14) (args := #[.agg #[.bool (Pz.nul pa), .slice Aa (List.length (Pz.cells pa)) ca], .agg #[.bool (Pz.nul pb), .slice Ab (List.length (Pz.cells pb)) cb]]) (w := w) (by go_simp) (pleq_any w pa pb _ _ ⟨_, _, rfl, ((hra.out.below hC).more hC.size), hca⟩ ⟨_, _, rfl, ((hrb.out.below hC).more hC.size), hcb⟩ (by omega) (by omega)) ?_
      rintro e w1 ⟨he, hB⟩
      exact ⟨_, he, hC.trans (hB.mono hC.size), hB, congrArg Value.bool rfl⟩
    -- 12: slot 39 := binOp BinOp.eql 4 t35 t38 4
    · intro w L f hC hLi hLd hLn hF
      obtain ⟨d35, d38, d32, _⟩ := hF
      have d35 : f 35 = .bool (leqS pa pb) := d35
      have d38 : f 38 = .bool (leqS pa pb) := d38
      have d32 : f 32 = .bool true := d32
      refine Step2.live (show wantedBy _ (f 32) = true by rw [d32]; rfl) ?_
      have ev : ∀ t, evalOf f (.tmp t) = f t := fun _ => rfl
      have ec : ∀ c, evalOf f (.const c) = c := fun _ => rfl
      refine relUpon_value ?_ (hC) (Below.refl _ _) rfl
      go_simp
    -- 13: slot 40 := pick t32 t39 (const (Value.bool false))
    · intro w L f hC hLi hLd hLn hF
      obtain ⟨d32, d39, _⟩ := hF
      have d32 : f 32 = .bool true := d32
      have d39 : f 39 = .bool true := d39
      refine Step2.live rfl ?_
      have ev : ∀ t, evalOf f (.tmp t) = f t := fun _ => rfl
      have ec : ∀ c, evalOf f (.const c) = c := fun _ => rfl
      refine relUpon_value ?_ (hC) (Below.refl _ _) rfl
      go_simp
    -- 14: slot 41 := move t40
    · intro w L f hC hLi hLd hLn hF
      obtain ⟨d40, _⟩ := hF
      have d40 : f 40 = .bool true := d40
      refine Step2.live rfl ?_
      exact relUpon_value (v := f 40) rfl (hC) (Below.refl _ _) d40
    -- 15: slot 42 := load 25 t4
    · intro w L f hC hLi hLd hLn hF
      obtain ⟨d4, d41, _⟩ := hF
      have d4 : f 4 = .pointer (some ⟨ga, 0, none⟩) := d4
      have d41 : f 41 = .bool true := d41
      refine Step2.live (show wantedBy _ (f 41) = true by rw [d41]; rfl) ?_
      have hh := hga.out.below hC hga.out.lt
      have f0 := (hh.fact 0 rfl).2
      have f1 := (hh.fact 1 rfl).2
      have ev : ∀ t, evalOf f (.tmp t) = f t := fun _ => rfl
      have ec : ∀ c, evalOf f (.const c) = c := fun _ => rfl
      have ef : ∀ g, evalOf f (.func g) = .func (.func g) #[] #[] := fun _ => rfl
      refine relUpon_value ?_ hC (Below.refl _ _) rfl
      go_simp
    -- 16: slot 43 := call { value (Operand.func 15), args := #[t42], argTypes := #[25] }
    · intro w L f hC hLi hLd hLn hF
      obtain ⟨d42, d41, _⟩ := hF
      have d42 : f 42 = .agg #[.bool (Pz.nul pa), .slice Aa (List.length (Pz.cells pa)) ca] := d42
      have d41 : f 41 = .bool true := d41
      refine Step2.live (show wantedBy _ (f 41) = true by rw [d41]; rfl) ?_
      have ev : ∀ t, evalOf f (.tmp t) = f t := fun _ => rfl
      have ec : ∀ c, evalOf f (.const c) = c := fun _ => rfl
      have ef : ∀ g, evalOf f (.func g) = .func (.func g) #[] #[] := fun _ => rfl
      refine relUpon_call (f := 15) (args := #[.agg #[.bool (Pz.nul pa), .slice Aa (List.length (Pz.cells pa)) ca]]) (w := w) (by go_simp) (empty_any w pa _ ⟨_, _, rfl, ((hra.out.below hC).more hC.size), hca⟩ (by omega)) ?_
      rintro e w1 ⟨he, hB⟩
      exact ⟨_, he, hC.trans (hB.mono hC.size), hB, rfl⟩
    -- 17: slot 44 := load 25 t4
    · intro w L f hC hLi hLd hLn hF
      obtain ⟨d4, d41, _⟩ := hF
      have d4 : f 4 = .pointer (some ⟨ga, 0, none⟩) := d4
      have d41 : f 41 = .bool true := d41
      refine Step2.live (show wantedBy _ (f 41) = true by rw [d41]; rfl) ?_
      have hh := hga.out.below hC hga.out.lt
      have f0 := (hh.fact 0 rfl).2
      have f1 := (hh.fact 1 rfl).2
      have ev : ∀ t, evalOf f (.tmp t) = f t := fun _ => rfl
      have ec : ∀ c, evalOf f (.const c) = c := fun _ => rfl
      have ef : ∀ g, evalOf f (.func g) = .func (.func g) #[] #[] := fun _ => rfl
      refine relUpon_value ?_ hC (Below.refl _ _) rfl
      go_simp
    -- 18: slot 45 := call { value (Operand.func 16), args := #[t44], argTypes := #[25] }
    · intro w L f hC hLi hLd hLn hF
      obtain ⟨d44, d41, _⟩ := hF
      have d44 : f 44 = .agg #[.bool (Pz.nul pa), .slice Aa (List.length (Pz.cells pa)) ca] := d44
      have d41 : f 41 = .bool true := d41
      refine Step2.live (show wantedBy _ (f 41) = true by rw [d41]; rfl) ?_
      have ev : ∀ t, evalOf f (.tmp t) = f t := fun _ => rfl
      have ec : ∀ c, evalOf f (.const c) = c := fun _ => rfl
      have ef : ∀ g, evalOf f (.func g) = .func (.func g) #[] #[] := fun _ => rfl
      refine relUpon_call (f := 16) (args := #[.agg #[.bool (Pz.nul pa), .slice Aa (List.length (Pz.cells pa)) ca]]) (w := w) (by go_simp) (refEmpty_any w pa _ ⟨_, _, rfl, ((hra.out.below hC).more hC.size), hca⟩ (by omega)) ?_
      rintro e w1 ⟨he, hB⟩
      exact ⟨_, he, hC.trans (hB.mono hC.size), hB, rfl⟩
    -- 19: slot 46 := binOp BinOp.eql 4 t43 t45 4
    · intro w L f hC hLi hLd hLn hF
      obtain ⟨d43, d45, d41, _⟩ := hF
      have d43 : f 43 = .bool (!pa.nul && pa.cells.isEmpty) := d43
      have d45 : f 45 = .bool (!pa.nul && pa.cells.isEmpty) := d45
      have d41 : f 41 = .bool true := d41
      refine Step2.live (show wantedBy _ (f 41) = true by rw [d41]; rfl) ?_
      have ev : ∀ t, evalOf f (.tmp t) = f t := fun _ => rfl
      have ec : ∀ c, evalOf f (.const c) = c := fun _ => rfl
      refine relUpon_value ?_ (hC) (Below.refl _ _) rfl
      go_simp
    -- 20: slot 47 := pick t41 t46 (const (Value.bool false))
    · intro w L f hC hLi hLd hLn hF
      obtain ⟨d41, d46, _⟩ := hF
      have d41 : f 41 = .bool true := d41
      have d46 : f 46 = .bool true := d46
      refine Step2.live rfl ?_
      have ev : ∀ t, evalOf f (.tmp t) = f t := fun _ => rfl
      have ec : ∀ c, evalOf f (.const c) = c := fun _ => rfl
      refine relUpon_value ?_ (hC) (Below.refl _ _) rfl
      go_simp
    -- 21: slot 48 := move t47
    · intro w L f hC hLi hLd hLn hF
      obtain ⟨d47, _⟩ := hF
      have d47 : f 47 = .bool true := d47
      refine Step2.live rfl ?_
      exact relUpon_value (v := f 47) rfl (hC) (Below.refl _ _) d47
    -- 22: slot 49 := load 25 t4
    · intro w L f hC hLi hLd hLn hF
      obtain ⟨d4, d48, _⟩ := hF
      have d4 : f 4 = .pointer (some ⟨ga, 0, none⟩) := d4
      have d48 : f 48 = .bool true := d48
      refine Step2.live (show wantedBy _ (f 48) = true by rw [d48]; rfl) ?_
      have hh := hga.out.below hC hga.out.lt
      have f0 := (hh.fact 0 rfl).2
      have f1 := (hh.fact 1 rfl).2
      have ev : ∀ t, evalOf f (.tmp t) = f t := fun _ => rfl
      have ec : ∀ c, evalOf f (.const c) = c := fun _ => rfl
      have ef : ∀ g, evalOf f (.func g) = .func (.func g) #[] #[] := fun _ => rfl
      refine relUpon_value ?_ hC (Below.refl _ _) rfl
      go_simp
    -- 23: slot 50 := call { value (Operand.func 17), args := #[t49], argTypes := #[25] }
    · intro w L f hC hLi hLd hLn hF
      obtain ⟨d49, d48, _⟩ := hF
      have d49 : f 49 = .agg #[.bool (Pz.nul pa), .slice Aa (List.length (Pz.cells pa)) ca] := d49
      have d48 : f 48 = .bool true := d48
      refine Step2.live (show wantedBy _ (f 48) = true by rw [d48]; rfl) ?_
      have ev : ∀ t, evalOf f (.tmp t) = f t := fun _ => rfl
      have ec : ∀ c, evalOf f (.const c) = c := fun _ => rfl
      have ef : ∀ g, evalOf f (.func g) = .func (.func g) #[] #[] := fun _ => rfl
      refine relUpon_call (f := 17) (args := #[.agg #[.bool (Pz.nul pa), .slice Aa (List.length (Pz.cells pa)) ca]]) (w := w) (by go_simp) (noNull_any w pa _ ⟨_, _, rfl, ((hra.out.below hC).more hC.size), hca⟩ (by omega)) ?_
      rintro e w1 ⟨⟨v, he, hv⟩, hB⟩
      exact ⟨_, he, hC.trans (hB.mono hC.size), hB, by rw [hpn.out] at hv; exact hv⟩
    -- 24: slot 51 := load 25 t7
    · intro w L f hC hLi hLd hLn hF
      obtain ⟨d7, d48, _⟩ := hF
      have d7 : f 7 = .pointer (some ⟨gn, 0, none⟩) := d7
      have d48 : f 48 = .bool true := d48
      refine Step2.live (show wantedBy _ (f 48) = true by rw [d48]; rfl) ?_
      have hh := hgn.out.below hC hgn.out.lt
      have f0 := (hh.fact 0 rfl).2
      have f1 := (hh.fact 1 rfl).2
      have ev : ∀ t, evalOf f (.tmp t) = f t := fun _ => rfl
      have ec : ∀ c, evalOf f (.const c) = c := fun _ => rfl
      have ef : ∀ g, evalOf f (.func g) = .func (.func g) #[] #[] := fun _ => rfl
      refine relUpon_value ?_ hC (Below.refl _ _) rfl
      go_simp
    -- 25: slot 52 := call { value (Operand.func 10), args := #[t50, t51], argTypes := #[25, 25] }
    · intro w L f hC hLi hLd hLn hF
      obtain ⟨d50, d51, d48, _⟩ := hF
      have d51 : f 51 = .agg #[.bool (Pz.nul pn), .slice An (List.length (Pz.cells pn)) cn] := d51
      have d48 : f 48 = .bool true := d48
      refine Step2.live (show wantedBy _ (f 48) = true by rw [d48]; rfl) ?_
      obtain ⟨A50, c50, e50, hr50, hc50⟩ := d50
      have ev : ∀ t, evalOf f (.tmp t) = f t := fun _ => rfl
      have ec : ∀ c, evalOf f (.const c) = c := fun _ => rfl
      have ef : ∀ g, evalOf f (.func g) = .func (.func g) #[] #[] := fun _ => rfl
      refine relUpon_call (f := 10) (args := #[.agg #[.bool (Pz.nul pn), .slice A50 (List.length (Pz.cells pn)) c50], .agg #[.bool (Pz.nul pn), .slice An (List.length (Pz.cells pn)) cn]]) (w := w) (by go_simp) (ptsEq_any w pn pn _ _ ⟨_, _, rfl, hr50, hc50⟩ ⟨_, _, rfl, ((hrn.out.below hC).more hC.size), hcn2⟩ (by omega) (by omega)) ?_
      rintro e w1 ⟨he, hB⟩
      exact ⟨_, he, hC.trans (hB.mono hC.size), hB, congrArg Value.bool (sameP_rfl _)⟩
    -- 26: slot 53 := pick t48 t52 (const (Value.bool false))
    · intro w L f hC hLi hLd hLn hF
      obtain ⟨d48, d52, _⟩ := hF
      have d48 : f 48 = .bool true := d48
      have d52 : f 52 = .bool true := d52
      refine Step2.live rfl ?_
      have ev : ∀ t, evalOf f (.tmp t) = f t := fun _ => rfl
      have ec : ∀ c, evalOf f (.const c) = c := fun _ => rfl
      refine relUpon_value ?_ (hC) (Below.refl _ _) rfl
      go_simp
    -- 27: slot 54 := move t53
    · intro w L f hC hLi hLd hLn hF
      obtain ⟨d53, _⟩ := hF
      have d53 : f 53 = .bool true := d53
      refine Step2.live rfl ?_
      exact relUpon_value (v := f 53) rfl (hC) (Below.refl _ _) d53
    -- 28: slot 55 := load 25 t4
    · intro w L f hC hLi hLd hLn hF
      obtain ⟨d4, d54, _⟩ := hF
      have d4 : f 4 = .pointer (some ⟨ga, 0, none⟩) := d4
      have d54 : f 54 = .bool true := d54
      refine Step2.live (show wantedBy _ (f 54) = true by rw [d54]; rfl) ?_
      have hh := hga.out.below hC hga.out.lt
      have f0 := (hh.fact 0 rfl).2
      have f1 := (hh.fact 1 rfl).2
      have ev : ∀ t, evalOf f (.tmp t) = f t := fun _ => rfl
      have ec : ∀ c, evalOf f (.const c) = c := fun _ => rfl
      have ef : ∀ g, evalOf f (.func g) = .func (.func g) #[] #[] := fun _ => rfl
      refine relUpon_value ?_ hC (Below.refl _ _) rfl
      go_simp
    -- 29: slot 56 := call { value (Operand.func 18), args := #[t55], argTypes := #[25] }
    · intro w L f hC hLi hLd hLn hF
      obtain ⟨d55, d54, _⟩ := hF
      have d55 : f 55 = .agg #[.bool (Pz.nul pa), .slice Aa (List.length (Pz.cells pa)) ca] := d55
      have d54 : f 54 = .bool true := d54
      refine Step2.live (show wantedBy _ (f 54) = true by rw [d54]; rfl) ?_
      have ev : ∀ t, evalOf f (.tmp t) = f t := fun _ => rfl
      have ec : ∀ c, evalOf f (.const c) = c := fun _ => rfl
      have ef : ∀ g, evalOf f (.func g) = .func (.func g) #[] #[] := fun _ => rfl
      refine relUpon_call (f := 18) (args := #[.agg #[.bool (Pz.nul pa), .slice Aa (List.length (Pz.cells pa)) ca]]) (w := w) (by go_simp) (onlyNull_any w pa _ ⟨_, _, rfl, ((hra.out.below hC).more hC.size), hca⟩) ?_
      rintro e w1 ⟨⟨v, he, hv⟩, hB⟩
      exact ⟨_, he, hC.trans (hB.mono hC.size), hB, by rw [hpo.out] at hv; exact hv⟩
    -- 30: slot 57 := load 25 t8
    · intro w L f hC hLi hLd hLn hF
      obtain ⟨d8, d54, _⟩ := hF
      have d8 : f 8 = .pointer (some ⟨go, 0, none⟩) := d8
      have d54 : f 54 = .bool true := d54
      refine Step2.live (show wantedBy _ (f 54) = true by rw [d54]; rfl) ?_
      have hh := hgo.out.below hC hgo.out.lt
      have f0 := (hh.fact 0 rfl).2
      have f1 := (hh.fact 1 rfl).2
      have ev : ∀ t, evalOf f (.tmp t) = f t := fun _ => rfl
      have ec : ∀ c, evalOf f (.const c) = c := fun _ => rfl
      have ef : ∀ g, evalOf f (.func g) = .func (.func g) #[] #[] := fun _ => rfl
      refine relUpon_value ?_ hC (Below.refl _ _) rfl
      go_simp
    -- 31: slot 58 := call { value (Operand.func 10), args := #[t56, t57], argTypes := #[25, 25] }
    · intro w L f hC hLi hLd hLn hF
      obtain ⟨d56, d57, d54, _⟩ := hF
      have d57 : f 57 = .agg #[.bool (Pz.nul po), .slice Ao (List.length (Pz.cells po)) co] := d57
      have d54 : f 54 = .bool true := d54
      refine Step2.live (show wantedBy _ (f 54) = true by rw [d54]; rfl) ?_
      obtain ⟨A56, c56, e56, hr56, hc56⟩ := d56
      have ev : ∀ t, evalOf f (.tmp t) = f t := fun _ => rfl
      have ec : ∀ c, evalOf f (.const c) = c := fun _ => rfl
      have ef : ∀ g, evalOf f (.func g) = .func (.func g) #[] #[] := fun _ => rfl
      refine relUpon_call (f := 10) (args := #[.agg #[.bool (Pz.nul po), .slice A56 (List.length (Pz.cells po)) c56], .agg #[.bool (Pz.nul po), .slice Ao (List.length (Pz.cells po)) co]]) (w := w) (by go_simp) (ptsEq_any w po po _ _ ⟨_, _, rfl, hr56, hc56⟩ ⟨_, _, rfl, ((hro.out.below hC).more hC.size), hco2⟩ (by omega) (by omega)) ?_
      rintro e w1 ⟨he, hB⟩
      exact ⟨_, he, hC.trans (hB.mono hC.size), hB, congrArg Value.bool (sameP_rfl _)⟩
    -- 32: slot 59 := pick t54 t58 (const (Value.bool false))
    · intro w L f hC hLi hLd hLn hF
      obtain ⟨d54, d58, _⟩ := hF
      have d54 : f 54 = .bool true := d54
      have d58 : f 58 = .bool true := d58
      refine Step2.live rfl ?_
      have ev : ∀ t, evalOf f (.tmp t) = f t := fun _ => rfl
      have ec : ∀ c, evalOf f (.const c) = c := fun _ => rfl
      refine relUpon_value ?_ (hC) (Below.refl _ _) rfl
      go_simp
    -- 33: slot 60 := move t59
    · intro w L f hC hLi hLd hLn hF
      obtain ⟨d59, _⟩ := hF
      have d59 : f 59 = .bool true := d59
      refine Step2.live rfl ?_
      exact relUpon_value (v := f 59) rfl (hC) (Below.refl _ _) d59
    -- 34: slot 61 := load 25 t4
    · intro w L f hC hLi hLd hLn hF
      obtain ⟨d4, d60, _⟩ := hF
      have d4 : f 4 = .pointer (some ⟨ga, 0, none⟩) := d4
      have d60 : f 60 = .bool true := d60
      refine Step2.live (show wantedBy _ (f 60) = true by rw [d60]; rfl) ?_
      have hh := hga.out.below hC hga.out.lt
      have f0 := (hh.fact 0 rfl).2
      have f1 := (hh.fact 1 rfl).2
      have ev : ∀ t, evalOf f (.tmp t) = f t := fun _ => rfl
      have ec : ∀ c, evalOf f (.const c) = c := fun _ => rfl
      have ef : ∀ g, evalOf f (.func g) = .func (.func g) #[] #[] := fun _ => rfl
      refine relUpon_value ?_ hC (Below.refl _ _) rfl
      go_simp
    -- 35: slot 62 := call { value (Operand.func 19), args := #[t61], argTypes := #[25] }
    · intro w L f hC hLi hLd hLn hF
      obtain ⟨d61, d60, _⟩ := hF
      have d61 : f 61 = .agg #[.bool (Pz.nul pa), .slice Aa (List.length (Pz.cells pa)) ca] := d61
      have d60 : f 60 = .bool true := d60
      refine Step2.live (show wantedBy _ (f 60) = true by rw [d60]; rfl) ?_
      have ev : ∀ t, evalOf f (.tmp t) = f t := fun _ => rfl
      have ec : ∀ c, evalOf f (.const c) = c := fun _ => rfl
      have ef : ∀ g, evalOf f (.func g) = .func (.func g) #[] #[] := fun _ => rfl
      refine relUpon_call (f := 19) (args := #[.agg #[.bool (Pz.nul pa), .slice Aa (List.length (Pz.cells pa)) ca]]) (w := w) (by go_simp) (text_any w pa _ ⟨_, _, rfl, ((hra.out.below hC).more hC.size), hca⟩ (by omega) hxt.out) ?_
      rintro e w1 ⟨he, hB⟩
      exact ⟨_, he, hC.trans (hB.mono hC.size), hB, rfl⟩
    -- 36: slot 63 := load 25 t4
    · intro w L f hC hLi hLd hLn hF
      obtain ⟨d4, d60, _⟩ := hF
      have d4 : f 4 = .pointer (some ⟨ga, 0, none⟩) := d4
      have d60 : f 60 = .bool true := d60
      refine Step2.live (show wantedBy _ (f 60) = true by rw [d60]; rfl) ?_
      have hh := hga.out.below hC hga.out.lt
      have f0 := (hh.fact 0 rfl).2
      have f1 := (hh.fact 1 rfl).2
      have ev : ∀ t, evalOf f (.tmp t) = f t := fun _ => rfl
      have ec : ∀ c, evalOf f (.const c) = c := fun _ => rfl
      have ef : ∀ g, evalOf f (.func g) = .func (.func g) #[] #[] := fun _ => rfl
      refine relUpon_value ?_ hC (Below.refl _ _) rfl
      go_simp
    -- 37: slot 64 := call { value (Operand.func 20), args := #[t63], argTypes := #[25] }
    · intro w L f hC hLi hLd hLn hF
      obtain ⟨d63, d60, _⟩ := hF
      have d63 : f 63 = .agg #[.bool (Pz.nul pa), .slice Aa (List.length (Pz.cells pa)) ca] := d63
      have d60 : f 60 = .bool true := d60
      refine Step2.live (show wantedBy _ (f 60) = true by rw [d60]; rfl) ?_
      have ev : ∀ t, evalOf f (.tmp t) = f t := fun _ => rfl
      have ec : ∀ c, evalOf f (.const c) = c := fun _ => rfl
      have ef : ∀ g, evalOf f (.func g) = .func (.func g) #[] #[] := fun _ => rfl
      refine relUpon_call (f := 20) (args := #[.agg #[.bool (Pz.nul pa), .slice Aa (List.length (Pz.cells pa)) ca]]) (w := w) (by go_simp) (reftext_any w pa _ ⟨_, _, rfl, ((hra.out.below hC).more hC.size), hca⟩ (by omega) hxt.out) ?_
      rintro e w1 ⟨he, hB⟩
      exact ⟨_, he, hC.trans (hB.mono hC.size), hB, rfl⟩
    -- 38: slot 65 := binOp BinOp.eql 9 t62 t64 9
    · intro w L f hC hLi hLd hLn hF
      obtain ⟨d62, d64, d60, _⟩ := hF
      have d62 : f 62 = encStr (textP pa) := d62
      have d64 : f 64 = encStr (textP pa) := d64
      have d60 : f 60 = .bool true := d60
      refine Step2.live (show wantedBy _ (f 60) = true by rw [d60]; rfl) ?_
      have ev : ∀ t, evalOf f (.tmp t) = f t := fun _ => rfl
      have ec : ∀ c, evalOf f (.const c) = c := fun _ => rfl
      refine relUpon_value ?_ (hC) (Below.refl _ _) rfl
      go_simp
    -- 39: slot 66 := pick t60 t65 (const (Value.bool false))
    · intro w L f hC hLi hLd hLn hF
      obtain ⟨d60, d65, _⟩ := hF
      have d60 : f 60 = .bool true := d60
      have d65 : f 65 = .bool true := d65
      refine Step2.live rfl ?_
      have ev : ∀ t, evalOf f (.tmp t) = f t := fun _ => rfl
      have ec : ∀ c, evalOf f (.const c) = c := fun _ => rfl
      refine relUpon_value ?_ (hC) (Below.refl _ _) rfl
      go_simp
    -- 40: slot 67 := move t66
    · intro w L f hC hLi hLd hLn hF
      obtain ⟨d66, _⟩ := hF
      have d66 : f 66 = .bool true := d66
      refine Step2.live rfl ?_
      exact relUpon_value (v := f 66) rfl (hC) (Below.refl _ _) d66
    -- 41: slot 68 := fieldAddr 25 t4 1
    · intro w L f hC hLi hLd hLn hF
      obtain ⟨d4, d67, _⟩ := hF
      have d4 : f 4 = .pointer (some ⟨ga, 0, none⟩) := d4
      have d67 : f 67 = .bool true := d67
      refine Step2.live (show wantedBy _ (f 67) = true by rw [d67]; rfl) ?_
      have ev : ∀ t, evalOf f (.tmp t) = f t := fun _ => rfl
      have ec : ∀ c, evalOf f (.const c) = c := fun _ => rfl
      have ef : ∀ g, evalOf f (.func g) = .func (.func g) #[] #[] := fun _ => rfl
      refine relUpon_value ?_ hC (Below.refl _ _) rfl
      go_simp
    -- 42: slot 69 := load 23 t68
    · intro w L f hC hLi hLd hLn hF
      obtain ⟨d68, d67, _⟩ := hF
      have d68 : f 68 = .pointer (some ⟨ga, 1, none⟩) := d68
      have d67 : f 67 = .bool true := d67
      refine Step2.live (show wantedBy _ (f 67) = true by rw [d67]; rfl) ?_
      have hh := hga.out.below hC hga.out.lt
      have f1 := (hh.fact 1 rfl).2
      have ev : ∀ t, evalOf f (.tmp t) = f t := fun _ => rfl
      have ec : ∀ c, evalOf f (.const c) = c := fun _ => rfl
      have ef : ∀ g, evalOf f (.func g) = .func (.func g) #[] #[] := fun _ => rfl
      refine relUpon_value ?_ hC (Below.refl _ _) rfl
      go_simp
    -- 43: slot 70 := call { value (Operand.func 21), args := #[t69], argTypes := #[23] }
    · intro w L f hC hLi hLd hLn hF
      obtain ⟨d69, d67, _⟩ := hF
      have d69 : f 69 = .slice Aa (List.length (Pz.cells pa)) ca := d69
      have d67 : f 67 = .bool true := d67
      refine Step2.live (show wantedBy _ (f 67) = true by rw [d67]; rfl) ?_
      have ev : ∀ t, evalOf f (.tmp t) = f t := fun _ => rfl
      have ec : ∀ c, evalOf f (.const c) = c := fun _ => rfl
      have ef : ∀ g, evalOf f (.func g) = .func (.func g) #[] #[] := fun _ => rfl
      refine relUpon_call (f := 21) (args := #[.slice Aa (List.length (Pz.cells pa)) ca]) (w := w) (by go_simp) (to_any w Aa _ ca pa.cells rfl ((hra.out.below hC).more hC.size) (by omega)) ?_
      rintro e w1 ⟨⟨v, he, hv⟩, hB⟩
      exact ⟨_, he, hC.trans (hB.mono hC.size), hB, by rw [hpn.out] at hv; exact hv⟩
    -- 44: slot 71 := load 25 t7
    · intro w L f hC hLi hLd hLn hF
      obtain ⟨d7, d67, _⟩ := hF
      have d7 : f 7 = .pointer (some ⟨gn, 0, none⟩) := d7
      have d67 : f 67 = .bool true := d67
      refine Step2.live (show wantedBy _ (f 67) = true by rw [d67]; rfl) ?_
      have hh := hgn.out.below hC hgn.out.lt
      have f0 := (hh.fact 0 rfl).2
      have f1 := (hh.fact 1 rfl).2
      have ev : ∀ t, evalOf f (.tmp t) = f t := fun _ => rfl
      have ec : ∀ c, evalOf f (.const c) = c := fun _ => rfl
      have ef : ∀ g, evalOf f (.func g) = .func (.func g) #[] #[] := fun _ => rfl
      refine relUpon_value ?_ hC (Below.refl _ _) rfl
      go_simp
    -- 45: slot 72 := call { value (Operand.func 10), args := #[t70, t71], argTypes := #[25, 25] }
    · intro w L f hC hLi hLd hLn hF
      obtain ⟨d70, d71, d67, _⟩ := hF
      have d71 : f 71 = .agg #[.bool (Pz.nul pn), .slice An (List.length (Pz.cells pn)) cn] := d71
      have d67 : f 67 = .bool true := d67
      refine Step2.live (show wantedBy _ (f 67) = true by rw [d67]; rfl) ?_
      obtain ⟨A70, c70, e70, hr70, hc70⟩ := d70
      have ev : ∀ t, evalOf f (.tmp t) = f t := fun _ => rfl
      have ec : ∀ c, evalOf f (.const c) = c := fun _ => rfl
      have ef : ∀ g, evalOf f (.func g) = .func (.func g) #[] #[] := fun _ => rfl
      refine relUpon_call (f := 10) (args := #[.agg #[.bool (Pz.nul pn), .slice A70 (List.length (Pz.cells pn)) c70], .agg #[.bool (Pz.nul pn), .slice An (List.length (Pz.cells pn)) cn]]) (w := w) (by go_simp) (ptsEq_any w pn pn _ _ ⟨_, _, rfl, hr70, hc70⟩ ⟨_, _, rfl, ((hrn.out.below hC).more hC.size), hcn2⟩ (by omega) (by omega)) ?_
      rintro e w1 ⟨he, hB⟩
      exact ⟨_, he, hC.trans (hB.mono hC.size), hB, congrArg Value.bool (sameP_rfl _)⟩
    -- 46: slot 73 := pick t67 t72 (const (Value.bool false))
    · intro w L f hC hLi hLd hLn hF
      obtain ⟨d67, d72, _⟩ := hF
      have d67 : f 67 = .bool true := d67
      have d72 : f 72 = .bool true := d72
      refine Step2.live rfl ?_
      have ev : ∀ t, evalOf f (.tmp t) = f t := fun _ => rfl
      have ec : ∀ c, evalOf f (.const c) = c := fun _ => rfl
      refine relUpon_value ?_ (hC) (Below.refl _ _) rfl
      go_simp
    -- 47: slot 74 := move t73
    · intro w L f hC hLi hLd hLn hF
      obtain ⟨d73, _⟩ := hF
      have d73 : f 73 = .bool true := d73
      refine Step2.live rfl ?_
      exact relUpon_value (v := f 73) rfl (hC) (Below.refl _ _) d73
    -- 48: slot 75 := fieldAddr 25 t4 1
    · intro w L f hC hLi hLd hLn hF
      obtain ⟨d4, d74, _⟩ := hF
      have d4 : f 4 = .pointer (some ⟨ga, 0, none⟩) := d4
      have d74 : f 74 = .bool true := d74
      refine Step2.live (show wantedBy _ (f 74) = true by rw [d74]; rfl) ?_
      have ev : ∀ t, evalOf f (.tmp t) = f t := fun _ => rfl
      have ec : ∀ c, evalOf f (.const c) = c := fun _ => rfl
      have ef : ∀ g, evalOf f (.func g) = .func (.func g) #[] #[] := fun _ => rfl
      refine relUpon_value ?_ hC (Below.refl _ _) rfl
      go_simp
    -- 49: slot 76 := load 23 t75
    · intro w L f hC hLi hLd hLn hF
      obtain ⟨d75, d74, _⟩ := hF
      have d75 : f 75 = .pointer (some ⟨ga, 1, none⟩) := d75
      have d74 : f 74 = .bool true := d74
      refine Step2.live (show wantedBy _ (f 74) = true by rw [d74]; rfl) ?_
      have hh := hga.out.below hC hga.out.lt
      have f1 := (hh.fact 1 rfl).2
      have ev : ∀ t, evalOf f (.tmp t) = f t := fun _ => rfl
      have ec : ∀ c, evalOf f (.const c) = c := fun _ => rfl
      have ef : ∀ g, evalOf f (.func g) = .func (.func g) #[] #[] := fun _ => rfl
      refine relUpon_value ?_ hC (Below.refl _ _) rfl
      go_simp
    -- 50: slot 77 := call { value (Operand.func 22), args := #[t76], argTypes := #[23] }
    · intro w L f hC hLi hLd hLn hF
      obtain ⟨d76, d74, _⟩ := hF
      have d76 : f 76 = .slice Aa (List.length (Pz.cells pa)) ca := d76
      have d74 : f 74 = .bool true := d74
      refine Step2.live (show wantedBy _ (f 74) = true by rw [d74]; rfl) ?_
      have ev : ∀ t, evalOf f (.tmp t) = f t := fun _ => rfl
      have ec : ∀ c, evalOf f (.const c) = c := fun _ => rfl
      have ef : ∀ g, evalOf f (.func g) = .func (.func g) #[] #[] := fun _ => rfl
      refine relUpon_call (f := 22) (args := #[.slice Aa (List.length (Pz.cells pa)) ca]) (w := w) (by go_simp) (any_any w Aa _ ca pa.cells rfl ((hra.out.below hC).more hC.size) (by omega)) ?_
      rintro e w1 ⟨⟨v, he, hv⟩, hB⟩
      exact ⟨_, he, hC.trans (hB.mono hC.size), hB, hv⟩
    -- 51: slot 78 := build 25 #[(0, const (Value.bool true))]
    · intro w L f hC hLi hLd hLn hF
      obtain ⟨d74, _⟩ := hF
      have d74 : f 74 = .bool true := d74
      refine Step2.live (show wantedBy _ (f 74) = true by rw [d74]; rfl) ?_
      have ev : ∀ t, evalOf f (.tmp t) = f t := fun _ => rfl
      have ec : ∀ c, evalOf f (.const c) = c := fun _ => rfl
      have ef : ∀ g, evalOf f (.func g) = .func (.func g) #[] #[] := fun _ => rfl
      refine relUpon_value ?_ hC (Below.refl _ _) rfl
      go_simp
    -- 52: slot 79 := load 25 t7
    · intro w L f hC hLi hLd hLn hF
      obtain ⟨d7, d74, _⟩ := hF
      have d7 : f 7 = .pointer (some ⟨gn, 0, none⟩) := d7
      have d74 : f 74 = .bool true := d74
      refine Step2.live (show wantedBy _ (f 74) = true by rw [d74]; rfl) ?_
      have hh := hgn.out.below hC hgn.out.lt
      have f0 := (hh.fact 0 rfl).2
      have f1 := (hh.fact 1 rfl).2
      have ev : ∀ t, evalOf f (.tmp t) = f t := fun _ => rfl
      have ec : ∀ c, evalOf f (.const c) = c := fun _ => rfl
      have ef : ∀ g, evalOf f (.func g) = .func (.func g) #[] #[] := fun _ => rfl
      refine relUpon_value ?_ hC (Below.refl _ _) rfl
      go_simp
    -- 53: slot 80 := buildSlice 22 2 #[(0, t78), (1, t79)]
    · intro w L f hC hLi hLd hLn hF
      obtain ⟨d78, d79, d74, _⟩ := hF
      have d78 : f 78 = .agg #[.bool true, .slice none 0 0] := d78
      have d79 : f 79 = .agg #[.bool (Pz.nul pn), .slice An (List.length (Pz.cells pn)) cn] := d79
      have d74 : f 74 = .bool true := d74
      refine Step2.live (show wantedBy _ (f 74) = true by rw [d74]; rfl) ?_
      have hbn := below_new w (.cells #[.bool true, .slice none 0 0, .bool (Pz.nul pn), .slice An (List.length (Pz.cells pn)) cn] 25)
      have ev : ∀ t, evalOf f (.tmp t) = f t := fun _ => rfl
      have ec : ∀ c, evalOf f (.const c) = c := fun _ => rfl
      have ef : ∀ g, evalOf f (.func g) = .func (.func g) #[] #[] := fun _ => rfl
      refine relUpon_value (w' := w.alloc (.cells #[.bool true, .slice none 0 0, .bool (Pz.nul pn), .slice An (List.length (Pz.cells pn)) cn] 25)) (v := .slice (some ⟨w.heap.size, 0, none⟩) 2 2) (by go_simp) (hC.trans (hbn.mono hC.size)) hbn (PLs.two w 25 (p := (⟨true, []⟩ : Pz)) (Row.nil_ _ _ _) (Nat.zero_le _) ((hrn.out.below hC).more hC.size) hcn2)
    -- 54: slot 81 := call { value (Operand.func 12), args := #[t80], argTypes := #[22] }
    · intro w L f hC hLi hLd hLn hF
      obtain ⟨d80, d74, _⟩ := hF
      have d74 : f 74 = .bool true := d74
      refine Step2.live (show wantedBy _ (f 74) = true by rw [d74]; rfl) ?_
      obtain ⟨A80, c80, L80, e80, hl80, hp80⟩ := d80
      have ev : ∀ t, evalOf f (.tmp t) = f t := fun _ => rfl
      have ec : ∀ c, evalOf f (.const c) = c := fun _ => rfl
      have ef : ∀ g, evalOf f (.func g) = .func (.func g) #[] #[] := fun _ => rfl
      refine relUpon_call (f := 12) (args := #[.slice A80 2 c80]) (w := w) (by go_simp) (pjoin_two w hl80 hp80 (Nat.zero_le _) (by omega)) ?_
      rintro e w1 ⟨⟨v, he, hv⟩, hB⟩
      exact ⟨_, he, hC.trans (hB.mono hC.size), hB, hv⟩
    -- 55: slot 82 := call { value (Operand.func 10), args := #[t77, t81], argTypes := #[25, 25] }
    · intro w L f hC hLi hLd hLn hF
      obtain ⟨d77, d81, d74, _⟩ := hF
      have d74 : f 74 = .bool true := d74
      refine Step2.live (show wantedBy _ (f 74) = true by rw [d74]; rfl) ?_
      obtain ⟨A77, c77, e77, hr77, hc77⟩ := d77
      obtain ⟨A81, c81, e81, hr81, hc81⟩ := d81
      have ev : ∀ t, evalOf f (.tmp t) = f t := fun _ => rfl
      have ec : ∀ c, evalOf f (.const c) = c := fun _ => rfl
      have ef : ∀ g, evalOf f (.func g) = .func (.func g) #[] #[] := fun _ => rfl
      refine relUpon_call (f := 10) (args := #[.agg #[.bool (Pz.nul (⟨true, canon (Pz.cells pa)⟩ : Pz)), .slice A77 (List.length (Pz.cells (⟨true, canon (Pz.cells pa)⟩ : Pz))) c77], .agg #[.bool (Pz.nul (J2 (⟨true, []⟩ : Pz) pn)), .slice A81 (List.length (Pz.cells (J2 (⟨true, []⟩ : Pz) pn))) c81]]) (w := w) (by go_simp) (ptsEq_any w (⟨true, canon (Pz.cells pa)⟩ : Pz) (J2 (⟨true, []⟩ : Pz) pn) _ _ ⟨_, _, rfl, hr77, hc77⟩ ⟨_, _, rfl, hr81, hc81⟩ (by show (canon pa.cells).length ≤ _; have := canon_len pa.cells; omega) (by omega)) ?_
      rintro e w1 ⟨he, hB⟩
      exact ⟨_, he, hC.trans (hB.mono hC.size), hB, congrArg Value.bool han.out⟩
    -- 56: slot 83 := pick t74 t82 (const (Value.bool false))
    · intro w L f hC hLi hLd hLn hF
      obtain ⟨d74, d82, _⟩ := hF
      have d74 : f 74 = .bool true := d74
      have d82 : f 82 = .bool true := d82
      refine Step2.live rfl ?_
      have ev : ∀ t, evalOf f (.tmp t) = f t := fun _ => rfl
      have ec : ∀ c, evalOf f (.const c) = c := fun _ => rfl
      refine relUpon_value ?_ (hC) (Below.refl _ _) rfl
      go_simp
    -- 57: slot 6 := assign t83
    · intro w L f hC hLi hLd hLn hF
      obtain ⟨d83, _⟩ := hF
      have d83 : f 83 = .bool true := d83
      refine Step2.live rfl ?_
      exact relUpon_value (v := f 83) rfl (hC) (Below.refl _ _) d83
  intro x w' hC hV

  have e0 := hV 57 _ rfl rfl
  clear hV
  simp only [framed]
  rw [e0]
  clear e0
  have K5 := K4.up hC
  clear hC K4
  go_wp2_with fail
  go_ret
  exact ⟨rfl, K5.bel⟩

theorem tells_walk (w : World) (v1 v2 v3 : Value) (h1 : ArgOk 22 w v1) (h2 : ArgOk 25 w v2) (h3 : ArgOk 25 w v3) :
    Calls Try.prog 3 #[v1, v2, v3] w fun e w' => e = .returned (.bool true) ∧ Below w.heap.size w w' := by
  obtain ⟨A, n, c, L, rfl, hn, hc, hm, hL, hP⟩ := h1.ptss
  obtain ⟨⟨pa, Aa, ca⟩, rfl, ra, la, ma, _⟩ := h2.pts
  obtain ⟨⟨pb, Ab, cb⟩, rfl, rb, lb, mb, _⟩ := h3.pts
  exact tells_any w L A n c pa pb Aa Ab ca cb hn (Nat.le_trans hc hm) hP (fun q hq => Nat.le_trans (hL q hq).2.1 (hL q hq).2.2.1) ra la (Nat.le_trans la ma) rb lb (Nat.le_trans lb mb)
end Go.Proofs.Ytkohobkeapcpfaa
