/-
  The walk of the law PtsOrder, the case tff.
-/
import Derived.Test.YtkohobkeapcpfaaPtJ
import Derived.Test.YtkohobkeapcpfaaPtO
import Derived.Test.YtkohobkeapcpfaaPtU
import Derived.Test.YtkohobkeapcpfaaPtX
import Derived.IntWalk
namespace Go.Proofs.Ytkohobkeapcpfaa
open Go.RowKit

set_option maxRecDepth 100000 in
set_option maxHeartbeats 8000000 in
theorem order_tff (w0 : World) (pa pb pc : Pz) (Aa Ab Ac : Option Addr) (ca cb cc : Nat)
    (hra0 : Row w0 w0.heap.size Aa (pa.cells.map encStr)) (hca : pa.cells.length ≤ ca) (hma : pa.cells.length ≤ maxLen)
    (hrb0 : Row w0 w0.heap.size Ab (pb.cells.map encStr)) (hcb : pb.cells.length ≤ cb) (hmb : pb.cells.length ≤ maxLen)
    (hrc0 : Row w0 w0.heap.size Ac (pc.cells.map encStr)) (hcc : pc.cells.length ≤ cc) (hmc : pc.cells.length ≤ maxLen) (hxy0 : leqS (cz pa) (cz pb) = true) (hyx0 : leqS (cz pb) (cz pa) = false) (hyz0 : leqS (cz pb) (cz pc) = false) :
    Calls Try.prog 5 #[.agg #[.bool pa.nul, .slice Aa pa.cells.length ca], .agg #[.bool pb.nul, .slice Ab pb.cells.length cb], .agg #[.bool pc.nul, .slice Ac pc.cells.length cc]] w0 fun e w' => e = .returned (.bool true) ∧ Below w0.heap.size w0 w' := by
  obtain ⟨wb, hwb⟩ : ∃ w, w = ((w0.alloc (.cells #[.bool pa.nul, .slice Aa pa.cells.length ca] 25)).alloc (.cells #[.bool pb.nul, .slice Ab pb.cells.length cb] 25)).alloc (.cells #[.bool pc.nul, .slice Ac pc.cells.length cc] 25) := ⟨_, rfl⟩
  have k : Below w0.heap.size w0 wb := by
    rw [hwb]
    have k1 := below_new w0 (.cells #[.bool pa.nul, .slice Aa pa.cells.length ca] 25)
    have k2 := below_new (w0.alloc (.cells #[.bool pa.nul, .slice Aa pa.cells.length ca] 25)) (.cells #[.bool pb.nul, .slice Ab pb.cells.length cb] 25)
    have k3 := below_new ((w0.alloc (.cells #[.bool pa.nul, .slice Aa pa.cells.length ca] 25)).alloc (.cells #[.bool pb.nul, .slice Ab pb.cells.length cb] 25)) (.cells #[.bool pc.nul, .slice Ac pc.cells.length cc] 25)
    exact (k1.trans (k2.mono k1.size)).trans (k3.mono (Nat.le_trans k1.size k2.size))
  have hga0 : Holds wb w0.heap.size 25 #[.bool pa.nul, .slice Aa pa.cells.length ca] := by rw [hwb]; exact ((Holds.new w0 _ _).alloc _).alloc _
  have hgb0 : Holds wb (w0.heap.size + 1) 25 #[.bool pb.nul, .slice Ab pb.cells.length cb] := by
    rw [hwb]
    have := (Holds.new (w0.alloc (.cells #[.bool pa.nul, .slice Aa pa.cells.length ca] 25)) 25 #[.bool pb.nul, .slice Ab pb.cells.length cb]).alloc (.cells #[.bool pc.nul, .slice Ac pc.cells.length cc] 25)
    simpa using this
  have hgc0 : Holds wb (w0.heap.size + 1 + 1) 25 #[.bool pc.nul, .slice Ac pc.cells.length cc] := by
    rw [hwb]
    have := Holds.new ((w0.alloc (.cells #[.bool pa.nul, .slice Aa pa.cells.length ca] 25)).alloc (.cells #[.bool pb.nul, .slice Ab pb.cells.length cb] 25)) 25 #[.bool pc.nul, .slice Ac pc.cells.length cc]
    simpa using this
  have hra1 := (hra0.below k).more k.size
  have hrb1 := (hrb0.below k).more k.size
  have hrc1 := (hrc0.below k).more k.size
  have hk := Lib.hid k
  have hW := Lib.hid hwb
  have hgA := Lib.hid hga0
  have hgB := Lib.hid hgb0
  have hgC := Lib.hid hgc0
  have hrA := Lib.hid hra1
  have hrB := Lib.hid hrb1
  have hrC := Lib.hid hrc1
  clear k hwb hga0 hgb0 hgc0 hra0 hrb0 hrc0 hra1 hrb1 hrc1
  go_enter Try.func5, Try.ntmps5
  go_wp2_with fail
  rw [← hW.out]
  clear hW
  refine (known_any wb).mono ?_
  rintro e w1 ⟨rfl, hb1⟩
  have hk1 := Lib.hid (hk.out.trans (hb1.mono hk.out.size))
  have hga := Lib.hid (hgA.out.below hb1 hgA.out.lt)
  have hgb := Lib.hid (hgB.out.below hb1 hgB.out.lt)
  have hgc := Lib.hid (hgC.out.below hb1 hgC.out.lt)
  have hra := Lib.hid ((hrA.out.below hb1).more hb1.size)
  have hrb := Lib.hid ((hrB.out.below hb1).more hb1.size)
  have hrc := Lib.hid ((hrC.out.below hb1).more hb1.size)
  clear hb1 hgA hgB hgC hrA hrB hrC hk
  have fa0 := (hga.out.fact 0 rfl).2
  have fa1 := (hga.out.fact 1 rfl).2
  have fb0 := (hgb.out.fact 0 rfl).2
  have fb1 := (hgb.out.fact 1 rfl).2
  have fc0 := (hgc.out.fact 0 rfl).2
  have fc1 := (hgc.out.fact 1 rfl).2
  go_wp2_with fail
  have hL := PtsL.fresh w1 25 [⟨pa, Aa, ca⟩, ⟨pb, Ab, cb⟩, ⟨pc, Ac, cc⟩] _ rfl (by
    intro q hq
    simp only [List.mem_cons, List.not_mem_nil, or_false] at hq
    rcases hq with rfl | rfl | rfl
    · exact ⟨hra.out, hca⟩
    · exact ⟨hrb.out, hcb⟩
    · exact ⟨hrc.out, hcc⟩)
  have k2 := below_new w1 (.cells #[.bool pa.nul, .slice Aa pa.cells.length ca, .bool pb.nul, .slice Ab pb.cells.length cb, .bool pc.nul, .slice Ac pc.cells.length cc] 25)
  have hk2 := Lib.hid (hk1.out.trans (k2.mono hk1.out.size))
  have hga2 := Lib.hid (hga.out.alloc (.cells #[.bool pa.nul, .slice Aa pa.cells.length ca, .bool pb.nul, .slice Ab pb.cells.length cb, .bool pc.nul, .slice Ac pc.cells.length cc] 25))
  have hgb2 := Lib.hid (hgb.out.alloc (.cells #[.bool pa.nul, .slice Aa pa.cells.length ca, .bool pb.nul, .slice Ab pb.cells.length cb, .bool pc.nul, .slice Ac pc.cells.length cc] 25))
  have hgc2 := Lib.hid (hgc.out.alloc (.cells #[.bool pa.nul, .slice Aa pa.cells.length ca, .bool pb.nul, .slice Ab pb.cells.length cb, .bool pc.nul, .slice Ac pc.cells.length cc] 25))
  have hra2 := Lib.hid ((hra.out.below k2).more k2.size)
  have hrb2 := Lib.hid ((hrb.out.below k2).more k2.size)
  have hrc2 := Lib.hid ((hrc.out.below k2).more k2.size)
  clear hk1 hga hgb hgc hra hrb hrc fa0 fa1 fb0 fb1 fc0 fc1 k2
  have hli := light_any _ (some ⟨w1.heap.size, 0, none⟩) 3 3 [⟨pa, Aa, ca⟩, ⟨pb, Ab, cb⟩, ⟨pc, Ac, cc⟩] rfl (by unfold maxLen; decide) hL (by
    intro q hq
    simp only [List.mem_cons, List.not_mem_nil, or_false] at hq
    rcases hq with rfl | rfl | rfl <;> assumption)
  clear hL
  obtain ⟨wl, hwl⟩ : ∃ w, w = w1.alloc (.cells #[.bool pa.nul, .slice Aa pa.cells.length ca, .bool pb.nul, .slice Ab pb.cells.length cb, .bool pc.nul, .slice Ac pc.cells.length cc] 25) := ⟨_, rfl⟩
  rw [← hwl] at hk2 hga2 hgb2 hgc2 hra2 hrb2 hrc2
  have hwl' := Lib.hid hwl
  clear hwl
  refine hli.mono ?_
  clear hli
  rintro e w2 ⟨h, hw⟩
  have hw' : w2 = wl := hw.trans hwl'.out.symm
  clear hw hwl'
  subst hw'
  rcases h with ⟨rfl, _, hl⟩ | rfl
  case inr =>
    go_wp2_with fail
    go_ret
    exact ⟨rfl, hk2.out⟩
  have hna : pa.cells.length ≤ 10 := (hl ⟨pa, Aa, ca⟩ (by simp)).1
  have hnb : pb.cells.length ≤ 10 := (hl ⟨pb, Ab, cb⟩ (by simp)).1
  have hnc : pc.cells.length ≤ 10 := (hl ⟨pc, Ac, cc⟩ (by simp)).1
  clear hl
  have hxy := Lib.hid hxy0
  clear hxy0
  have hyx := Lib.hid hyx0
  have hyz := Lib.hid hyz0
  clear hyx0 hyz0
  have hnx : (canon pa.cells).length ≤ 10 := Nat.le_trans (canon_len _) hna
  have hny : (canon pb.cells).length ≤ 10 := Nat.le_trans (canon_len _) hnb
  have hnz : (canon pc.cells).length ≤ 10 := Nat.le_trans (canon_len _) hnc
  go_wp2_with fail
  have hkz := Lib.hid hk2.out.size
  generalize hgan0 : w0.heap.size = ga at *
  have hgan := Lib.hid hgan0
  clear hgan0
  generalize hgbn : ga + 1 = gb at *
  generalize hgcn : gb + 1 = gc at *
  obtain ⟨wr, hwr⟩ : ∃ w, w = w2 := ⟨_, rfl⟩
  have hga : Hid (Holds wr ga _ _) := Lib.hid (hwr ▸ hga2.out)
  have hgb : Hid (Holds wr gb _ _) := Lib.hid (hwr ▸ hgb2.out)
  have hgc : Hid (Holds wr gc _ _) := Lib.hid (hwr ▸ hgc2.out)
  have hra : Hid (Row wr wr.heap.size Aa (pa.cells.map encStr)) := Lib.hid (hwr ▸ hra2.out)
  have hrb : Hid (Row wr wr.heap.size Ab (pb.cells.map encStr)) := Lib.hid (hwr ▸ hrb2.out)
  have hrc : Hid (Row wr wr.heap.size Ac (pc.cells.map encStr)) := Lib.hid (hwr ▸ hrc2.out)
  subst hwr
  -- THE REGION THAT DRAWS ITS ORDER, BY ONE LEXICAL WALK OVER GENERIC VALUES (written by relgen.py)
  refine wp_region_tabG ((fun _ _ v => v = .agg #[.bool (Pz.nul pa), .slice Aa (List.length (Pz.cells pa)) ca]) ::
    (fun L (W : World × Gh) v => Till 8 (fun w v => PLs w [pa] v) L W.1 v) ::
    (fun L (W : World × Gh) v => PtsV W.1 ((cz pa)) v) ::
    (fun _ _ v => v = .agg #[.bool (Pz.nul pb), .slice Ab (List.length (Pz.cells pb)) cb]) ::
    (fun L (W : World × Gh) v => Till 8 (fun w v => PLs w [pb] v) L W.1 v) ::
    (fun L (W : World × Gh) v => PtsV W.1 ((cz pb)) v) ::
    (fun _ _ v => v = .agg #[.bool (Pz.nul pc), .slice Ac (List.length (Pz.cells pc)) cc]) ::
    (fun L (W : World × Gh) v => Till 8 (fun w v => PLs w [pc] v) L W.1 v) ::
    (fun L (W : World × Gh) v => PtsV W.1 ((cz pc)) v) ::
    (fun L (W : World × Gh) v => ∃ g, W.2 9 = some g ∧ v = .pointer (some ⟨g, 0, none⟩)) ::
    (fun L (W : World × Gh) v => ∃ g, W.2 10 = some g ∧ v = .pointer (some ⟨g, 0, none⟩)) ::
    (fun L (W : World × Gh) v => ∃ g, W.2 11 = some g ∧ v = .pointer (some ⟨g, 0, none⟩)) ::
    (fun _ _ _ => True) ::
    (fun _ _ _ => True) ::
    (fun _ _ _ => True) :: [])
    (⟨[(3, none)], 0, []⟩ :: ⟨[(19, some 0)], 0, []⟩ :: ⟨[(20, some 1)], 0, [8]⟩ :: ⟨[(4, none)], 0, []⟩ :: ⟨[(22, some 3)], 0, []⟩ :: ⟨[(23, some 4)], 0, [8]⟩ :: ⟨[(5, none)], 0, []⟩ :: ⟨[(25, some 6)], 0, []⟩ :: ⟨[(26, some 7)], 0, []⟩ :: ⟨[], 0, []⟩ :: ⟨[], 0, []⟩ :: ⟨[], 0, []⟩ :: ⟨[(7, some 9), (21, some 2)], 0, []⟩ :: ⟨[(8, some 10), (24, some 5)], 0, []⟩ :: ⟨[(9, some 11), (27, some 8)], 0, []⟩ :: [])
    (none :: none :: none :: none :: none :: none :: none :: some 9 :: some 10 :: some 11 :: none :: none :: none :: none :: none :: none :: none :: none :: none :: some 0 :: some 1 :: some 2 :: some 3 :: some 4 :: some 5 :: some 6 :: some 7 :: some 8 :: [])
    (fun L W => CPt wr 25 [9, 10, 11] [12, 13, 14] [(cz pa), (cz pb), (cz pc)] [8] L W) (fun i W W' => GPt 25 [12, 13, 14] i W W') ?mixK5ord5 ?okK5ord5 ?tabK5ord5 ?frK5ord5 ?inK5ord5 ?keptK5ord5 (fun _ => none) ?startK5ord5 ?eachK5ord5 ?finK5ord5
  case mixK5ord5 => kernel_rfl
  case okK5ord5 => kernel_rfl
  case tabK5ord5 => kernel_rfl
  case frK5ord5 => kernel_rfl
  case inK5ord5 => rfl
  case keptK5ord5 => exact ⟨fun _ _ _ _ _ _ _ _ _ _ _ h => h, fun i hne hrd L W W' v hLi hC hC' hG h => Till.keepG (w0 := wr) (T := 25) (al := [9, 10, 11]) (ss := [12, 13, 14]) (ps := [(cz pa), (cz pb), (cz pc)]) (pre := [8]) h (by decide) rfl hC' hG (fun hb h => h.up hb), fun i hne hrd L W W' v hLi hC hC' hG h => h.kept hG, fun _ _ _ _ _ _ _ _ _ _ _ h => h, fun i hne hrd L W W' v hLi hC hC' hG h => Till.keepG (w0 := wr) (T := 25) (al := [9, 10, 11]) (ss := [12, 13, 14]) (ps := [(cz pa), (cz pb), (cz pc)]) (pre := [8]) h (by decide) rfl hC' hG (fun hb h => h.up hb), fun i hne hrd L W W' v hLi hC hC' hG h => h.kept hG, fun _ _ _ _ _ _ _ _ _ _ _ h => h, fun i hne hrd L W W' v hLi hC hC' hG h => Till.keepG (w0 := wr) (T := 25) (al := [9, 10, 11]) (ss := [12, 13, 14]) (ps := [(cz pa), (cz pb), (cz pc)]) (pre := [8]) h (by decide) rfl hC' hG (fun hb h => h.up hb), fun i hne hrd L W W' v hLi hC hC' hG h => h.kept hG, fun i hne hrd L W W' v hLi hC hC' hG ⟨g, h1, h2⟩ => ⟨g, hG.more _ _ h1, h2⟩, fun i hne hrd L W W' v hLi hC hC' hG ⟨g, h1, h2⟩ => ⟨g, hG.more _ _ h1, h2⟩, fun i hne hrd L W W' v hLi hC hC' hG ⟨g, h1, h2⟩ => ⟨g, hG.more _ _ h1, h2⟩, fun _ _ _ _ _ _ _ _ _ _ _ h => h, fun _ _ _ _ _ _ _ _ _ _ _ h => h, fun _ _ _ _ _ _ _ _ _ _ _ h => h, trivial⟩
  case startK5ord5 => exact CPt.start (Below.refl _ _).drew (by decide) (by decide)
  case eachK5ord5 =>
    refine ⟨?_, ?_, ?_, ?_, ?_, ?_, ?_, ?_, ?_, ?_, ?_, ?_, ?_, ?_, ?_, trivial⟩
    -- 0: slot 19 := load 25 t3
    · intro w γ L f hC hLi hLd hLn hF
      obtain ⟨d3, _⟩ := hF
      have d3 : f 3 = .pointer (some ⟨ga, 0, none⟩) := d3
      refine Step2.live rfl ?_
      have hh := hga.out.below hC.bel hga.out.lt
      have f0 := (hh.fact 0 rfl).2
      have f1 := (hh.fact 1 rfl).2
      refine relUpon_ghost γ ?_
      have ev : ∀ t, evalOf f (.tmp t) = f t := fun _ => rfl
      have ec : ∀ c, evalOf f (.const c) = c := fun _ => rfl
      have ef : ∀ g, evalOf f (.func g) = .func (.func g) #[] #[] := fun _ => rfl
      refine relUpon_value ?_ (hC.other (i := 0) (by decide) (by decide) (Below.refl _ _)) (GPt.below (by decide) (Below.refl _ _)) rfl
      go_simp
    -- 1: slot 20 := buildSlice 22 1 #[(0, t19)]
    · intro w γ L f hC hLi hLd hLn hF
      obtain ⟨d19, _⟩ := hF
      have d19 : f 19 = .agg #[.bool (Pz.nul pa), .slice Aa (List.length (Pz.cells pa)) ca] := d19
      refine Step2.live rfl ?_
      have hbn := below_new w (.cells #[.bool (Pz.nul pa), .slice Aa (List.length (Pz.cells pa)) ca] 25)
      refine relUpon_ghost γ ?_
      have ev : ∀ t, evalOf f (.tmp t) = f t := fun _ => rfl
      have ec : ∀ c, evalOf f (.const c) = c := fun _ => rfl
      have ef : ∀ g, evalOf f (.func g) = .func (.func g) #[] #[] := fun _ => rfl
      refine relUpon_value (w' := w.alloc (.cells #[.bool (Pz.nul pa), .slice Aa (List.length (Pz.cells pa)) ca] 25)) (v := .slice (some ⟨w.heap.size, 0, none⟩) 1 1) (by go_simp) (hC.other (i := 1) (by decide) (by decide) hbn) (GPt.below (by decide) hbn) (fun _ => PLs.one w 25 ((hra.out.below hC.bel).more hC.bel.size) hca)
    -- 2: slot 21 := call { value (Operand.func 11), args := #[t20], argTypes := #[22] }
    · intro w γ L f hC hLi hLd hLn hF
      obtain ⟨d20, _⟩ := hF
      refine Step2.live rfl ?_
      obtain ⟨A20, c20, L20, e20, hl20, hp20⟩ := d20 (hLn 8 (by simp))
      refine relUpon_ghost γ ?_
      have ev : ∀ t, evalOf f (.tmp t) = f t := fun _ => rfl
      have ec : ∀ c, evalOf f (.const c) = c := fun _ => rfl
      have ef : ∀ g, evalOf f (.func g) = .func (.func g) #[] #[] := fun _ => rfl
      refine relUpon_call (f := 11) (args := #[.slice A20 1 c20]) (w := w) (by go_simp) (join_one w hl20 hp20 (by omega)) ?_
      rintro e w1 ⟨⟨v, he, hv⟩, hB⟩
      exact ⟨_, he, hC.other (i := 2) (by decide) (by decide) hB, GPt.below (by decide) hB, hv⟩
    -- 3: slot 22 := load 25 t4
    · intro w γ L f hC hLi hLd hLn hF
      obtain ⟨d4, _⟩ := hF
      have d4 : f 4 = .pointer (some ⟨gb, 0, none⟩) := d4
      refine Step2.live rfl ?_
      have hh := hgb.out.below hC.bel hgb.out.lt
      have f0 := (hh.fact 0 rfl).2
      have f1 := (hh.fact 1 rfl).2
      refine relUpon_ghost γ ?_
      have ev : ∀ t, evalOf f (.tmp t) = f t := fun _ => rfl
      have ec : ∀ c, evalOf f (.const c) = c := fun _ => rfl
      have ef : ∀ g, evalOf f (.func g) = .func (.func g) #[] #[] := fun _ => rfl
      refine relUpon_value ?_ (hC.other (i := 3) (by decide) (by decide) (Below.refl _ _)) (GPt.below (by decide) (Below.refl _ _)) rfl
      go_simp
    -- 4: slot 23 := buildSlice 22 1 #[(0, t22)]
    · intro w γ L f hC hLi hLd hLn hF
      obtain ⟨d22, _⟩ := hF
      have d22 : f 22 = .agg #[.bool (Pz.nul pb), .slice Ab (List.length (Pz.cells pb)) cb] := d22
      refine Step2.live rfl ?_
      have hbn := below_new w (.cells #[.bool (Pz.nul pb), .slice Ab (List.length (Pz.cells pb)) cb] 25)
      refine relUpon_ghost γ ?_
      have ev : ∀ t, evalOf f (.tmp t) = f t := fun _ => rfl
      have ec : ∀ c, evalOf f (.const c) = c := fun _ => rfl
      have ef : ∀ g, evalOf f (.func g) = .func (.func g) #[] #[] := fun _ => rfl
      refine relUpon_value (w' := w.alloc (.cells #[.bool (Pz.nul pb), .slice Ab (List.length (Pz.cells pb)) cb] 25)) (v := .slice (some ⟨w.heap.size, 0, none⟩) 1 1) (by go_simp) (hC.other (i := 4) (by decide) (by decide) hbn) (GPt.below (by decide) hbn) (fun _ => PLs.one w 25 ((hrb.out.below hC.bel).more hC.bel.size) hcb)
    -- 5: slot 24 := call { value (Operand.func 11), args := #[t23], argTypes := #[22] }
    · intro w γ L f hC hLi hLd hLn hF
      obtain ⟨d23, _⟩ := hF
      refine Step2.live rfl ?_
      obtain ⟨A23, c23, L23, e23, hl23, hp23⟩ := d23 (hLn 8 (by simp))
      refine relUpon_ghost γ ?_
      have ev : ∀ t, evalOf f (.tmp t) = f t := fun _ => rfl
      have ec : ∀ c, evalOf f (.const c) = c := fun _ => rfl
      have ef : ∀ g, evalOf f (.func g) = .func (.func g) #[] #[] := fun _ => rfl
      refine relUpon_call (f := 11) (args := #[.slice A23 1 c23]) (w := w) (by go_simp) (join_one w hl23 hp23 (by omega)) ?_
      rintro e w1 ⟨⟨v, he, hv⟩, hB⟩
      exact ⟨_, he, hC.other (i := 5) (by decide) (by decide) hB, GPt.below (by decide) hB, hv⟩
    -- 6: slot 25 := load 25 t5
    · intro w γ L f hC hLi hLd hLn hF
      obtain ⟨d5, _⟩ := hF
      have d5 : f 5 = .pointer (some ⟨gc, 0, none⟩) := d5
      refine Step2.live rfl ?_
      have hh := hgc.out.below hC.bel hgc.out.lt
      have f0 := (hh.fact 0 rfl).2
      have f1 := (hh.fact 1 rfl).2
      refine relUpon_ghost γ ?_
      have ev : ∀ t, evalOf f (.tmp t) = f t := fun _ => rfl
      have ec : ∀ c, evalOf f (.const c) = c := fun _ => rfl
      have ef : ∀ g, evalOf f (.func g) = .func (.func g) #[] #[] := fun _ => rfl
      refine relUpon_value ?_ (hC.other (i := 6) (by decide) (by decide) (Below.refl _ _)) (GPt.below (by decide) (Below.refl _ _)) rfl
      go_simp
    -- 7: slot 26 := buildSlice 22 1 #[(0, t25)]
    · intro w γ L f hC hLi hLd hLn hF
      obtain ⟨d25, _⟩ := hF
      have d25 : f 25 = .agg #[.bool (Pz.nul pc), .slice Ac (List.length (Pz.cells pc)) cc] := d25
      refine Step2.live rfl ?_
      have hbn := below_new w (.cells #[.bool (Pz.nul pc), .slice Ac (List.length (Pz.cells pc)) cc] 25)
      refine relUpon_ghost γ ?_
      have ev : ∀ t, evalOf f (.tmp t) = f t := fun _ => rfl
      have ec : ∀ c, evalOf f (.const c) = c := fun _ => rfl
      have ef : ∀ g, evalOf f (.func g) = .func (.func g) #[] #[] := fun _ => rfl
      refine relUpon_value (w' := w.alloc (.cells #[.bool (Pz.nul pc), .slice Ac (List.length (Pz.cells pc)) cc] 25)) (v := .slice (some ⟨w.heap.size, 0, none⟩) 1 1) (by go_simp) (hC.other (i := 7) (by decide) (by decide) hbn) (GPt.below (by decide) hbn) (fun _ => PLs.one w 25 ((hrc.out.below hC.bel).more hC.bel.size) hcc)
    -- 8: slot 27 := call { value (Operand.func 11), args := #[t26], argTypes := #[22] }
    · intro w γ L f hC hLi hLd hLn hF
      obtain ⟨d26, _⟩ := hF
      refine Step2.live rfl ?_
      obtain ⟨A26, c26, L26, e26, hl26, hp26⟩ := d26 hLi
      refine relUpon_ghost γ ?_
      have ev : ∀ t, evalOf f (.tmp t) = f t := fun _ => rfl
      have ec : ∀ c, evalOf f (.const c) = c := fun _ => rfl
      have ef : ∀ g, evalOf f (.func g) = .func (.func g) #[] #[] := fun _ => rfl
      refine relUpon_call (f := 11) (args := #[.slice A26 1 c26]) (w := w) (by go_simp) (join_one w hl26 hp26 (by omega)) ?_
      rintro e w1 ⟨⟨v, he, hv⟩, hB⟩
      exact ⟨_, he, hC.other (i := 8) (by decide) (by decide) hB, GPt.below (by decide) hB, hv⟩
    -- 9: slot 7 := alloc 25
    · intro w γ L f hC hLi hLd hLn hF
      refine Step2.live rfl ?_
      have hA := hC.alloc hLi (by decide) (by decide)
      refine relUpon_ghost (fun j => if j = 9 then some w.heap.size else γ j) ?_
      have ev : ∀ t, evalOf f (.tmp t) = f t := fun _ => rfl
      have ec : ∀ c, evalOf f (.const c) = c := fun _ => rfl
      have ef : ∀ g, evalOf f (.func g) = .func (.func g) #[] #[] := fun _ => rfl
      refine relUpon_value (w' := w.alloc (.cells #[.bool false, .slice none 0 0] 25)) (v := .pointer (some ⟨w.heap.size, 0, none⟩)) (by go_simp) hA.1 (hA.2 _ (by decide)) ⟨_, by simp, rfl⟩
    -- 10: slot 8 := alloc 25
    · intro w γ L f hC hLi hLd hLn hF
      refine Step2.live rfl ?_
      have hA := hC.alloc hLi (by decide) (by decide)
      refine relUpon_ghost (fun j => if j = 10 then some w.heap.size else γ j) ?_
      have ev : ∀ t, evalOf f (.tmp t) = f t := fun _ => rfl
      have ec : ∀ c, evalOf f (.const c) = c := fun _ => rfl
      have ef : ∀ g, evalOf f (.func g) = .func (.func g) #[] #[] := fun _ => rfl
      refine relUpon_value (w' := w.alloc (.cells #[.bool false, .slice none 0 0] 25)) (v := .pointer (some ⟨w.heap.size, 0, none⟩)) (by go_simp) hA.1 (hA.2 _ (by decide)) ⟨_, by simp, rfl⟩
    -- 11: slot 9 := alloc 25
    · intro w γ L f hC hLi hLd hLn hF
      refine Step2.live rfl ?_
      have hA := hC.alloc hLi (by decide) (by decide)
      refine relUpon_ghost (fun j => if j = 11 then some w.heap.size else γ j) ?_
      have ev : ∀ t, evalOf f (.tmp t) = f t := fun _ => rfl
      have ec : ∀ c, evalOf f (.const c) = c := fun _ => rfl
      have ef : ∀ g, evalOf f (.func g) = .func (.func g) #[] #[] := fun _ => rfl
      refine relUpon_value (w' := w.alloc (.cells #[.bool false, .slice none 0 0] 25)) (v := .pointer (some ⟨w.heap.size, 0, none⟩)) (by go_simp) hA.1 (hA.2 _ (by decide)) ⟨_, by simp, rfl⟩
    -- 12: slot None := store 25 t7 t21
    · intro w γ L f hC hLi hLd hLn hF
      obtain ⟨d7, d21, _⟩ := hF
      refine Step2.live rfl ?_
      obtain ⟨g, hg, e7⟩ := d7
      have hg : γ 9 = some g := hg
      obtain ⟨A, c, e21, hr, hc⟩ := d21
      have hst := hC.stored hLi (k := 0) (a := 9) (p := (cz pa)) (A := A) (c := c) rfl rfl rfl (by decide) (by decide) (by decide) hg (fun j hj => hLd j (by revert j; decide)) (hLd 9 (by decide)) (hr) hc
      obtain ⟨g', e1, _, hz, _⟩ := hC.done 0 9 12 ((cz pa)) rfl rfl rfl (hLd 9 (by decide))
      have e1 : γ 9 = some g' := e1
      obtain rfl : g = g' := Option.some.inj (hg.symm.trans e1)
      have z0 := ((hz hLi).fact 0 rfl).2
      have z1 := ((hz hLi).fact 1 rfl).2
      have f0 := (hz hLi).frozen 0
      have f1 := (hz hLi).frozen 1
      refine relUpon_ghost γ ?_
      have ev : ∀ t, evalOf f (.tmp t) = f t := fun _ => rfl
      have ec : ∀ c, evalOf f (.const c) = c := fun _ => rfl
      have ef : ∀ g, evalOf f (.func g) = .func (.func g) #[] #[] := fun _ => rfl
      refine relUpon_skip ?_ hst.1 (hst.2 _ (by decide)) trivial
      go_simp
    -- 13: slot None := store 25 t8 t24
    · intro w γ L f hC hLi hLd hLn hF
      obtain ⟨d8, d24, _⟩ := hF
      refine Step2.live rfl ?_
      obtain ⟨g, hg, e8⟩ := d8
      have hg : γ 10 = some g := hg
      obtain ⟨A, c, e24, hr, hc⟩ := d24
      have hst := hC.stored hLi (k := 1) (a := 10) (p := (cz pb)) (A := A) (c := c) rfl rfl rfl (by decide) (by decide) (by decide) hg ((hC.late 0 9 12 rfl rfl (hLd 12 (by decide))).2) (hLd 10 (by decide)) (hr) hc
      obtain ⟨g', e1, _, hz, _⟩ := hC.done 1 10 13 ((cz pb)) rfl rfl rfl (hLd 10 (by decide))
      have e1 : γ 10 = some g' := e1
      obtain rfl : g = g' := Option.some.inj (hg.symm.trans e1)
      have z0 := ((hz hLi).fact 0 rfl).2
      have z1 := ((hz hLi).fact 1 rfl).2
      have f0 := (hz hLi).frozen 0
      have f1 := (hz hLi).frozen 1
      refine relUpon_ghost γ ?_
      have ev : ∀ t, evalOf f (.tmp t) = f t := fun _ => rfl
      have ec : ∀ c, evalOf f (.const c) = c := fun _ => rfl
      have ef : ∀ g, evalOf f (.func g) = .func (.func g) #[] #[] := fun _ => rfl
      refine relUpon_skip ?_ hst.1 (hst.2 _ (by decide)) trivial
      go_simp
    -- 14: slot None := store 25 t9 t27
    · intro w γ L f hC hLi hLd hLn hF
      obtain ⟨d9, d27, _⟩ := hF
      refine Step2.live rfl ?_
      obtain ⟨g, hg, e9⟩ := d9
      have hg : γ 11 = some g := hg
      obtain ⟨A, c, e27, hr, hc⟩ := d27
      have hst := hC.stored hLi (k := 2) (a := 11) (p := (cz pc)) (A := A) (c := c) rfl rfl rfl (by decide) (by decide) (by decide) hg ((hC.late 1 10 13 rfl rfl (hLd 13 (by decide))).2) (hLd 11 (by decide)) (hr) hc
      obtain ⟨g', e1, _, hz, _⟩ := hC.done 2 11 14 ((cz pc)) rfl rfl rfl (hLd 11 (by decide))
      have e1 : γ 11 = some g' := e1
      obtain rfl : g = g' := Option.some.inj (hg.symm.trans e1)
      have z0 := ((hz hLi).fact 0 rfl).2
      have z1 := ((hz hLi).fact 1 rfl).2
      have f0 := (hz hLi).frozen 0
      have f1 := (hz hLi).frozen 1
      refine relUpon_ghost γ ?_
      have ev : ∀ t, evalOf f (.tmp t) = f t := fun _ => rfl
      have ec : ∀ c, evalOf f (.const c) = c := fun _ => rfl
      have ef : ∀ g, evalOf f (.func g) = .func (.func g) #[] #[] := fun _ => rfl
      refine relUpon_skip ?_ hst.1 (hst.2 _ (by decide)) trivial
      go_simp
  intro x w' γ hC hV

  obtain ⟨gx, hx1, hxb, _, hx⟩ := hC.done 0 9 12 _ rfl rfl rfl rfl
  obtain ⟨gy, hy1, hyb, _, hy⟩ := hC.done 1 10 13 _ rfl rfl rfl rfl
  obtain ⟨gz, hz1, hzb, _, hz⟩ := hC.done 2 11 14 _ rfl rfl rfl rfl
  obtain ⟨Ax, cx, hgx0, hrx0, hcx⟩ := hx rfl
  obtain ⟨Ay, cy, hgy0, hry0, hcy⟩ := hy rfl
  obtain ⟨Az, cz1, hgz0, hrz0, hcz⟩ := hz rfl
  clear hx hy hz
  have e7 := hV 9 _ rfl rfl
  have e8 := hV 10 _ rfl rfl
  have e9 := hV 11 _ rfl rfl
  clear hV
  obtain ⟨g7, q7, e7⟩ := e7
  obtain ⟨g8, q8, e8⟩ := e8
  obtain ⟨g9, q9, e9⟩ := e9
  simp only at q7 q8 q9 hx1 hy1 hz1
  rw [hx1] at q7
  rw [hy1] at q8
  rw [hz1] at q9
  injection q7 with q7
  injection q8 with q8
  injection q9 with q9
  subst q7 q8 q9
  simp only [framed]
  rw [e7, e8, e9]
  clear e7 e8 e9 hx1 hy1 hz1
  have K0 := (((((Kp.start (show Below w0.heap.size w0 w' by rw [hgan.out]; exact hk2.out.trans (hC.bel.mono hkz.out))).addH (hga.out.below hC.bel hga.out.lt)).addH hgz0).addH hgy0).addH hgx0)
  have K1 := (((K0.addR ((hra.out.below hC.bel).more hC.bel.size)).addR hrz0).addR hry0).addR hrx0
  clear K0 hC hgx0 hgy0 hgz0 hrx0 hry0 hrz0 hga hgb hgc hra hrb hrc hga2 hgb2 hgc2 hra2 hrb2 hrc2 hxb hyb hzb
  obtain ⟨px, hpx0⟩ : ∃ q, q = cz pa := ⟨_, rfl⟩
  obtain ⟨py, hpy0⟩ : ∃ q, q = cz pb := ⟨_, rfl⟩
  obtain ⟨pz, hpz0⟩ : ∃ q, q = cz pc := ⟨_, rfl⟩
  have hup : Hid (Up px.cells) := Lib.hid (by rw [hpx0]; exact canon_up _)
  have hlx : px.cells.length ≤ 10 := by rw [hpx0]; exact hnx
  have hly : py.cells.length ≤ 10 := by rw [hpy0]; exact hny
  have hlz : pz.cells.length ≤ 10 := by rw [hpz0]; exact hnz
  have hJ : Hid (sameP (J2 px py) py = leqS px py) := Lib.hid (by rw [hpx0, hpy0]; exact leq_join _ _)
  rw [← hpx0, ← hpy0] at hyx
  rw [← hpy0, ← hpz0] at hyz
  rw [← hpx0, ← hpy0] at hxy
  rw [← hpx0, ← hpy0, ← hpz0] at K1
  rw [← hpx0] at hcx
  rw [← hpy0] at hcy
  rw [← hpz0] at hcz
  have hpx := Lib.hid hpx0.symm
  clear hpx0 hpy0 hpz0 hnx hny hnz
  go_wp2_with fail
  go_loopw [10] (fun iv wr => ∃ m : Nat, m ≤ px.cells.length ∧ iv = .int .i64 (m + 1 : Nat) ∧ Kp w0 [(gx, 25, #[.bool px.nul, .slice Ax px.cells.length cx]), (gy, 25, #[.bool py.nul, .slice Ay py.cells.length cy]), (gz, 25, #[.bool pz.nul, .slice Az pz.cells.length cz1]), (ga, 25, #[.bool pa.nul, .slice Aa pa.cells.length ca])] [(Ax, px.cells.map encStr), (Ay, py.cells.map encStr), (Az, pz.cells.map encStr), (Aa, pa.cells.map encStr)] wr) (fun iv _ => px.cells.length + 1 - (intOf iv).toNat)
  case atStart => exact ⟨0, by omega, rfl, K1⟩
  obtain ⟨m, hm, rfl, K⟩ := hrel
  clear K1
  have fx1 := (K.fact 0 1 rfl rfl).2
  by_cases hlt : m + 1 < px.cells.length
  · have hlt0 : m < px.cells.length := by omega
    obtain ⟨b, off, rfl, hgl0, hy0⟩ := (K.row 0 _ _ rfl).at_ (k := m) (by simpa using hlt0)
    obtain ⟨b', off', hbo, _, hz0⟩ := (K.row 0 _ _ rfl).at_ (k := m + 1) (by simpa using hlt)
    injection hbo with hbo
    injection hbo with hb1 hb2
    subst hb1 hb2
    rw [List.getElem_map] at hy0 hz0
    have hyz3 : px.cells[m] < px.cells[m + 1] := List.pairwise_iff_getElem.1 hup.out m (m + 1) hlt0 hlt (by omega)
    have hy := Lib.hid hy0
    have hz := Lib.hid hz0
    have hlt3 : Hid (Op.bytesLess px.cells[m] px.cells[m + 1] = true) := Lib.hid (by rw [bless2]; simpa using hyz3)
    generalize px.cells[m] = y at hy hlt3
    generalize px.cells[m + 1] = z at hz hlt3
    have hgl := Lib.hid hgl0
    have hgx := Lib.hid (K.hold 0 _ _ _ rfl)
    clear hy0 hz0 hyz3 hgl0
    go_wp2_with fail
    -- THE REGION THAT DRAWS ITS ORDER, BY ONE LEXICAL WALK OVER GENERIC VALUES (written by relgen.py)
    refine wp_region_tab ((fun _ v => v = .pointer (some ⟨gx, 1, none⟩)) ::
      (fun _ v => v = .slice (some (⟨b, off, none⟩ : Addr)) (List.length (Pz.cells px)) cx) ::
      (fun _ v => v = .int .i64 (m + 1 : Nat)) ::
      (fun _ v => v = .int .i64 m) ::
      (fun _ v => v = .pointer (some ⟨b, off + m, none⟩)) ::
      (fun _ v => v = encStr y) ::
      (fun _ v => v = .pointer (some ⟨gx, 1, none⟩)) ::
      (fun _ v => v = .slice (some (⟨b, off, none⟩ : Addr)) (List.length (Pz.cells px)) cx) ::
      (fun _ v => v = .int .i64 (m + 1 : Nat)) ::
      (fun _ v => v = .pointer (some ⟨b, off + (m + 1), none⟩)) ::
      (fun _ v => v = encStr z) ::
      (fun _ v => v = .bool false) :: [])
      (⟨[(7, none)], 0, []⟩ :: ⟨[(35, some 0)], 0, []⟩ :: ⟨[(10, none)], 0, []⟩ :: ⟨[(37, some 2)], 0, []⟩ :: ⟨[(36, some 1), (38, some 3)], 0, []⟩ :: ⟨[(39, some 4)], 0, []⟩ :: ⟨[(7, none)], 0, []⟩ :: ⟨[(41, some 6)], 0, []⟩ :: ⟨[(10, none)], 0, []⟩ :: ⟨[(42, some 7), (43, some 8)], 0, []⟩ :: ⟨[(44, some 9)], 0, []⟩ :: ⟨[(40, some 5), (45, some 10)], 0, []⟩ :: [])
      (none :: none :: none :: none :: none :: none :: none :: none :: none :: none :: none :: none :: none :: none :: none :: none :: none :: none :: none :: none :: none :: none :: none :: none :: none :: none :: none :: none :: none :: none :: none :: none :: none :: none :: none :: some 0 :: some 1 :: some 2 :: some 3 :: some 4 :: some 5 :: some 6 :: some 7 :: some 8 :: some 9 :: some 10 :: some 11 :: [])
      (fun _ w' => Below wr.heap.size wr w') (fun _ w w' => Below w.heap.size w w') ?mixK9ord9 ?okK9ord9 ?tabK9ord9 ?frK9ord9 ?inK9ord9 ?keptK9ord9 ?startK9ord9 ?eachK9ord9 ?finK9ord9
    case mixK9ord9 => kernel_rfl
    case okK9ord9 => kernel_rfl
    case tabK9ord9 => kernel_rfl
    case frK9ord9 => kernel_rfl
    case inK9ord9 => rfl
    case keptK9ord9 => exact ⟨fun _ _ _ _ _ _ _ h => h, fun _ _ _ _ _ _ _ h => h, fun _ _ _ _ _ _ _ h => h, fun _ _ _ _ _ _ _ h => h, fun _ _ _ _ _ _ _ h => h, fun _ _ _ _ _ _ _ h => h, fun _ _ _ _ _ _ _ h => h, fun _ _ _ _ _ _ _ h => h, fun _ _ _ _ _ _ _ h => h, fun _ _ _ _ _ _ _ h => h, fun _ _ _ _ _ _ _ h => h, fun _ _ _ _ _ _ _ h => h, trivial⟩
    case startK9ord9 => exact (Below.refl _ _).drew
    case eachK9ord9 =>
      refine ⟨?_, ?_, ?_, ?_, ?_, ?_, ?_, ?_, ?_, ?_, ?_, ?_, trivial⟩
      -- 0: slot 35 := fieldAddr 25 t7 1
      · intro w L f hC hLi hLd hLn hF
        obtain ⟨d7, _⟩ := hF
        have d7 : f 7 = .pointer (some ⟨gx, 0, none⟩) := d7
        refine Step2.live rfl ?_
        have ev : ∀ t, evalOf f (.tmp t) = f t := fun _ => rfl
        have ec : ∀ c, evalOf f (.const c) = c := fun _ => rfl
        have ef : ∀ g, evalOf f (.func g) = .func (.func g) #[] #[] := fun _ => rfl
        refine relUpon_value ?_ hC (Below.refl _ _) rfl
        go_simp
      -- 1: slot 36 := load 23 t35
      · intro w L f hC hLi hLd hLn hF
        obtain ⟨d35, _⟩ := hF
        have d35 : f 35 = .pointer (some ⟨gx, 1, none⟩) := d35
        refine Step2.live rfl ?_
        have hh := hgx.out.below hC hgx.out.lt
        have f1 := (hh.fact 1 rfl).2
        have ev : ∀ t, evalOf f (.tmp t) = f t := fun _ => rfl
        have ec : ∀ c, evalOf f (.const c) = c := fun _ => rfl
        have ef : ∀ g, evalOf f (.func g) = .func (.func g) #[] #[] := fun _ => rfl
        refine relUpon_value ?_ hC (Below.refl _ _) rfl
        go_simp
      -- 2: slot 37 := move t10
      · intro w L f hC hLi hLd hLn hF
        obtain ⟨d10, _⟩ := hF
        have d10 : f 10 = .int .i64 (m + 1 : Nat) := d10
        refine Step2.live rfl ?_
        exact relUpon_value (v := f 10) rfl (hC) (Below.refl _ _) d10
      -- 3: slot 38 := binOp BinOp.sub 3 t37 (const (1:i64)) 3
      · intro w L f hC hLi hLd hLn hF
        obtain ⟨d37, _⟩ := hF
        have d37 : f 37 = .int .i64 (m + 1 : Nat) := d37
        refine Step2.live rfl ?_
        have ev : ∀ t, evalOf f (.tmp t) = f t := fun _ => rfl
        have ec : ∀ c, evalOf f (.const c) = c := fun _ => rfl
        have ef : ∀ g, evalOf f (.func g) = .func (.func g) #[] #[] := fun _ => rfl
        refine relUpon_value ?_ hC (Below.refl _ _) rfl
        go_simp
        exact IntWalk.i64_in _ (by omega)
      -- 4: slot 39 := indexAddr 23 t36 t38
      · intro w L f hC hLi hLd hLn hF
        obtain ⟨d36, d38, _⟩ := hF
        have d36 : f 36 = .slice (some (⟨b, off, none⟩ : Addr)) (List.length (Pz.cells px)) cx := d36
        have d38 : f 38 = .int .i64 m := d38
        refine Step2.live rfl ?_
        have ev : ∀ t, evalOf f (.tmp t) = f t := fun _ => rfl
        have ec : ∀ c, evalOf f (.const c) = c := fun _ => rfl
        have ef : ∀ g, evalOf f (.func g) = .func (.func g) #[] #[] := fun _ => rfl
        refine relUpon_value ?_ hC (Below.refl _ _) rfl
        go_simp
      -- 5: slot 40 := load 9 t39
      · intro w L f hC hLi hLd hLn hF
        obtain ⟨d39, _⟩ := hF
        have d39 : f 39 = .pointer (some ⟨b, off + m, none⟩) := d39
        refine Step2.live rfl ?_
        have hcell := (hC.cell (p := ⟨b, off + m, none⟩) hgl.out).trans hy.out
        have ev : ∀ t, evalOf f (.tmp t) = f t := fun _ => rfl
        have ec : ∀ c, evalOf f (.const c) = c := fun _ => rfl
        have ef : ∀ g, evalOf f (.func g) = .func (.func g) #[] #[] := fun _ => rfl
        refine relUpon_value ?_ hC (Below.refl _ _) rfl
        go_simp
      -- 6: slot 41 := fieldAddr 25 t7 1
      · intro w L f hC hLi hLd hLn hF
        obtain ⟨d7, _⟩ := hF
        have d7 : f 7 = .pointer (some ⟨gx, 0, none⟩) := d7
        refine Step2.live rfl ?_
        have ev : ∀ t, evalOf f (.tmp t) = f t := fun _ => rfl
        have ec : ∀ c, evalOf f (.const c) = c := fun _ => rfl
        have ef : ∀ g, evalOf f (.func g) = .func (.func g) #[] #[] := fun _ => rfl
        refine relUpon_value ?_ hC (Below.refl _ _) rfl
        go_simp
      -- 7: slot 42 := load 23 t41
      · intro w L f hC hLi hLd hLn hF
        obtain ⟨d41, _⟩ := hF
        have d41 : f 41 = .pointer (some ⟨gx, 1, none⟩) := d41
        refine Step2.live rfl ?_
        have hh := hgx.out.below hC hgx.out.lt
        have f1 := (hh.fact 1 rfl).2
        have ev : ∀ t, evalOf f (.tmp t) = f t := fun _ => rfl
        have ec : ∀ c, evalOf f (.const c) = c := fun _ => rfl
        have ef : ∀ g, evalOf f (.func g) = .func (.func g) #[] #[] := fun _ => rfl
        refine relUpon_value ?_ hC (Below.refl _ _) rfl
        go_simp
      -- 8: slot 43 := move t10
      · intro w L f hC hLi hLd hLn hF
        obtain ⟨d10, _⟩ := hF
        have d10 : f 10 = .int .i64 (m + 1 : Nat) := d10
        refine Step2.live rfl ?_
        exact relUpon_value (v := f 10) rfl (hC) (Below.refl _ _) d10
      -- 9: slot 44 := indexAddr 23 t42 t43
      · intro w L f hC hLi hLd hLn hF
        obtain ⟨d42, d43, _⟩ := hF
        have d42 : f 42 = .slice (some (⟨b, off, none⟩ : Addr)) (List.length (Pz.cells px)) cx := d42
        have d43 : f 43 = .int .i64 (m + 1 : Nat) := d43
        refine Step2.live rfl ?_
        have ev : ∀ t, evalOf f (.tmp t) = f t := fun _ => rfl
        have ec : ∀ c, evalOf f (.const c) = c := fun _ => rfl
        have ef : ∀ g, evalOf f (.func g) = .func (.func g) #[] #[] := fun _ => rfl
        refine relUpon_value ?_ hC (Below.refl _ _) rfl
        go_simp
        intro h
        omega
      -- 10: slot 45 := load 9 t44
      · intro w L f hC hLi hLd hLn hF
        obtain ⟨d44, _⟩ := hF
        have d44 : f 44 = .pointer (some ⟨b, off + (m + 1), none⟩) := d44
        refine Step2.live rfl ?_
        have hcell := (hC.cell (p := ⟨b, off + (m + 1), none⟩) hgl.out).trans hz.out
        have ev : ∀ t, evalOf f (.tmp t) = f t := fun _ => rfl
        have ec : ∀ c, evalOf f (.const c) = c := fun _ => rfl
        have ef : ∀ g, evalOf f (.func g) = .func (.func g) #[] #[] := fun _ => rfl
        refine relUpon_value ?_ hC (Below.refl _ _) rfl
        go_simp
      -- 11: slot 46 := binOp BinOp.geq 9 t40 t45 9
      · intro w L f hC hLi hLd hLn hF
        obtain ⟨d40, d45, _⟩ := hF
        have d40 : f 40 = encStr y := d40
        have d45 : f 45 = encStr z := d45
        refine Step2.live rfl ?_
        have hl := hlt3.out
        have ev : ∀ t, evalOf f (.tmp t) = f t := fun _ => rfl
        have ec : ∀ c, evalOf f (.const c) = c := fun _ => rfl
        have ef : ∀ g, evalOf f (.func g) = .func (.func g) #[] #[] := fun _ => rfl
        refine relUpon_value ?_ hC (Below.refl _ _) rfl
        go_simp
    intro x w' hC hV

    have e0 := hV 11 _ rfl rfl
    clear hV
    simp only [framed]
    rw [e0]
    clear e0
    have K2 := K.up hC
    clear hC K
    go_wp2_with fail
    go_roundw
    case rel => exact ⟨m + 1, by omega, by go_num, K2⟩
    case measure => simp [intOf]; omega
  · go_wp2_with fail
    have hga := Lib.hid (K.hold 3 _ _ _ rfl)
    have hgx := Lib.hid (K.hold 0 _ _ _ rfl)
    have hgy := Lib.hid (K.hold 1 _ _ _ rfl)
    have hgz := Lib.hid (K.hold 2 _ _ _ rfl)
    have hra := Lib.hid (K.row 3 _ _ rfl)
    have hrx := Lib.hid (K.row 0 _ _ rfl)
    have hry := Lib.hid (K.row 1 _ _ rfl)
    have hrz := Lib.hid (K.row 2 _ _ rfl)
    clear fx1
    -- THE REGION THAT DRAWS ITS ORDER, BY ONE LEXICAL WALK OVER GENERIC VALUES (written by relgen.py)
    refine wp_region_tab ((fun _ v => v = .agg #[.bool (Pz.nul px), .slice Ax (List.length (Pz.cells px)) cx]) ::
      (fun _ v => v = .agg #[.bool (Pz.nul pa), .slice Aa (List.length (Pz.cells pa)) ca]) ::
      (fun w v => PtsV w (px) v) ::
      (fun _ v => v = .bool true) ::
      (fun _ v => v = .bool true) ::
      (fun _ v => v = .agg #[.bool (Pz.nul px), .slice Ax (List.length (Pz.cells px)) cx]) ::
      (fun _ v => v = .agg #[.bool (Pz.nul px), .slice Ax (List.length (Pz.cells px)) cx]) ::
      (fun _ v => v = .bool true) ::
      (fun _ v => v = .bool true) ::
      (fun _ v => v = .bool true) ::
      (fun _ v => v = .agg #[.bool (Pz.nul px), .slice Ax (List.length (Pz.cells px)) cx]) ::
      (fun _ v => v = .agg #[.bool (Pz.nul py), .slice Ay (List.length (Pz.cells py)) cy]) ::
      (fun _ v => v = .bool true) ::
      (fun _ v => v = .bool false) ::
      (fun _ v => v = .bool false) ::
      (fun _ v => v = .agg #[.bool (Pz.nul py), .slice Ay (List.length (Pz.cells py)) cy]) ::
      (fun _ v => v = .agg #[.bool (Pz.nul px), .slice Ax (List.length (Pz.cells px)) cx]) ::
      (fun _ v => v = .bool false) ::
      (fun _ v => v = .bool true) ::
      (fun _ v => v = .bool true) ::
      (fun _ v => v = .bool true) ::
      (fun _ _ => True /- slot 68 ?? load 25 t7 -/) ::
      (fun _ _ => True /- slot 69 ?? load 25 t8 -/) ::
      (fun _ _ => True /- slot 70 ?? call { value (Operand.func 10), args := #[t68, t69], argType -/) ::
      (fun _ v => v = .bool true) ::
      (fun _ v => v = .bool true) ::
      (fun _ v => v = .bool true) ::
      (fun _ v => v = .agg #[.bool (Pz.nul px), .slice Ax (List.length (Pz.cells px)) cx]) ::
      (fun _ v => v = .agg #[.bool (Pz.nul py), .slice Ay (List.length (Pz.cells py)) cy]) ::
      (fun _ v => v = .bool true) ::
      (fun _ v => v = .bool false) ::
      (fun _ v => v = .bool false) ::
      (fun _ v => v = .agg #[.bool (Pz.nul py), .slice Ay (List.length (Pz.cells py)) cy]) ::
      (fun _ v => v = .agg #[.bool (Pz.nul pz), .slice Az (List.length (Pz.cells pz)) cz1]) ::
      (fun _ v => v = .bool false) ::
      (fun _ v => v = .bool true) ::
      (fun _ v => v = .bool true) ::
      (fun _ v => v = .bool true) ::
      (fun _ _ => True /- slot 85 ?? load 25 t7 -/) ::
      (fun _ _ => True /- slot 86 ?? load 25 t9 -/) ::
      (fun _ _ => True /- slot 87 ?? call { value (Operand.func 13), args := #[t85, t86], argType -/) ::
      (fun _ v => v = .bool true) ::
      (fun _ v => v = .bool true) ::
      (fun _ v => v = .bool true) ::
      (fun _ v => v = .agg #[.bool (Pz.nul px), .slice Ax (List.length (Pz.cells px)) cx]) ::
      (fun _ v => v = .agg #[.bool (Pz.nul py), .slice Ay (List.length (Pz.cells py)) cy]) ::
      (fun _ v => v = .bool true) ::
      (fun _ v => v = .agg #[.bool (Pz.nul px), .slice Ax (List.length (Pz.cells px)) cx]) ::
      (fun _ v => v = .agg #[.bool (Pz.nul py), .slice Ay (List.length (Pz.cells py)) cy]) ::
      (fun w v => PLs w [px, py] v) ::
      (fun w v => PtsV w ((J2 px py)) v) ::
      (fun _ v => v = .agg #[.bool (Pz.nul py), .slice Ay (List.length (Pz.cells py)) cy]) ::
      (fun _ v => v = .bool true) ::
      (fun _ v => v = .bool true) ::
      (fun _ v => v = .bool true) ::
      (fun _ v => v = .bool true) :: [])
      (⟨[(7, none)], 0, []⟩ :: ⟨[(3, none)], 0, []⟩ :: ⟨[(48, some 1)], 0, []⟩ :: ⟨[(47, some 0), (49, some 2)], 0, []⟩ :: ⟨[(50, some 3)], 0, []⟩ :: ⟨[(7, none), (51, some 4)], 51, []⟩ :: ⟨[(7, none), (51, some 4)], 51, []⟩ :: ⟨[(52, some 5), (53, some 6), (51, some 4)], 51, []⟩ :: ⟨[(51, some 4), (54, some 7)], 0, []⟩ :: ⟨[(55, some 8)], 0, []⟩ :: ⟨[(7, none), (56, some 9)], 56, []⟩ :: ⟨[(8, none), (56, some 9)], 56, []⟩ :: ⟨[(57, some 10), (58, some 11), (56, some 9)], 56, []⟩ :: ⟨[(59, some 12), (56, some 9)], 56, []⟩ :: ⟨[(60, some 13), (56, some 9)], 56, []⟩ :: ⟨[(8, none), (61, some 14)], 61, []⟩ :: ⟨[(7, none), (61, some 14)], 61, []⟩ :: ⟨[(62, some 15), (63, some 16), (61, some 14)], 61, []⟩ :: ⟨[(64, some 17), (61, some 14)], 61, []⟩ :: ⟨[(61, some 14), (65, some 18), (56, some 9)], 56, []⟩ :: ⟨[(66, some 19), (56, some 9)], 56, []⟩ :: ⟨[(7, none), (67, some 20)], 67, []⟩ :: ⟨[(8, none), (67, some 20)], 67, []⟩ :: ⟨[(68, some 21), (69, some 22), (67, some 20)], 67, []⟩ :: ⟨[(67, some 20), (70, some 23), (56, some 9)], 56, []⟩ :: ⟨[(56, some 9), (71, some 24)], 0, []⟩ :: ⟨[(72, some 25)], 0, []⟩ :: ⟨[(7, none), (73, some 26)], 73, []⟩ :: ⟨[(8, none), (73, some 26)], 73, []⟩ :: ⟨[(74, some 27), (75, some 28), (73, some 26)], 73, []⟩ :: ⟨[(76, some 29), (73, some 26)], 73, []⟩ :: ⟨[(77, some 30), (73, some 26)], 73, []⟩ :: ⟨[(8, none), (78, some 31)], 78, []⟩ :: ⟨[(9, none), (78, some 31)], 78, []⟩ :: ⟨[(79, some 32), (80, some 33), (78, some 31)], 78, []⟩ :: ⟨[(81, some 34), (78, some 31)], 78, []⟩ :: ⟨[(78, some 31), (82, some 35), (73, some 26)], 73, []⟩ :: ⟨[(83, some 36), (73, some 26)], 73, []⟩ :: ⟨[(7, none), (84, some 37)], 84, []⟩ :: ⟨[(9, none), (84, some 37)], 84, []⟩ :: ⟨[(85, some 38), (86, some 39), (84, some 37)], 84, []⟩ :: ⟨[(84, some 37), (87, some 40), (73, some 26)], 73, []⟩ :: ⟨[(73, some 26), (88, some 41)], 0, []⟩ :: ⟨[(89, some 42)], 0, []⟩ :: ⟨[(7, none), (90, some 43)], 90, []⟩ :: ⟨[(8, none), (90, some 43)], 90, []⟩ :: ⟨[(91, some 44), (92, some 45), (90, some 43)], 90, []⟩ :: ⟨[(7, none), (90, some 43)], 90, []⟩ :: ⟨[(8, none), (90, some 43)], 90, []⟩ :: ⟨[(94, some 47), (95, some 48), (90, some 43)], 90, []⟩ :: ⟨[(96, some 49), (90, some 43)], 90, []⟩ :: ⟨[(8, none), (90, some 43)], 90, []⟩ :: ⟨[(97, some 50), (98, some 51), (90, some 43)], 90, []⟩ :: ⟨[(93, some 46), (99, some 52), (90, some 43)], 90, []⟩ :: ⟨[(90, some 43), (100, some 53)], 0, []⟩ :: ⟨[(101, some 54)], 0, []⟩ :: [])
      (none :: none :: none :: none :: none :: none :: some 55 :: none :: none :: none :: none :: none :: none :: none :: none :: none :: none :: none :: none :: none :: none :: none :: none :: none :: none :: none :: none :: none :: none :: none :: none :: none :: none :: none :: none :: none :: none :: none :: none :: none :: none :: none :: none :: none :: none :: none :: none :: some 0 :: some 1 :: some 2 :: some 3 :: some 4 :: some 5 :: some 6 :: some 7 :: some 8 :: some 9 :: some 10 :: some 11 :: some 12 :: some 13 :: some 14 :: some 15 :: some 16 :: some 17 :: some 18 :: some 19 :: some 20 :: some 21 :: some 22 :: some 23 :: some 24 :: some 25 :: some 26 :: some 27 :: some 28 :: some 29 :: some 30 :: some 31 :: some 32 :: some 33 :: some 34 :: some 35 :: some 36 :: some 37 :: some 38 :: some 39 :: some 40 :: some 41 :: some 42 :: some 43 :: some 44 :: some 45 :: some 46 :: some 47 :: some 48 :: some 49 :: some 50 :: some 51 :: some 52 :: some 53 :: some 54 :: [])
      (fun _ w' => Below wr.heap.size wr w') (fun _ w w' => Below w.heap.size w w') ?mixK11ord11tff ?okK11ord11tff ?tabK11ord11tff ?frK11ord11tff ?inK11ord11tff ?keptK11ord11tff ?startK11ord11tff ?eachK11ord11tff ?finK11ord11tff
    case mixK11ord11tff => kernel_rfl
    case okK11ord11tff => kernel_rfl
    case tabK11ord11tff => kernel_rfl
    case frK11ord11tff => kernel_rfl
    case inK11ord11tff => rfl
    case keptK11ord11tff => exact ⟨fun _ _ _ _ _ _ _ h => h, fun _ _ _ _ _ _ _ h => h, fun _ _ _ => fun w w' v hG h => h.up hG, fun _ _ _ _ _ _ _ h => h, fun _ _ _ _ _ _ _ h => h, fun _ _ _ _ _ _ _ h => h, fun _ _ _ _ _ _ _ h => h, fun _ _ _ _ _ _ _ h => h, fun _ _ _ _ _ _ _ h => h, fun _ _ _ _ _ _ _ h => h, fun _ _ _ _ _ _ _ h => h, fun _ _ _ _ _ _ _ h => h, fun _ _ _ _ _ _ _ h => h, fun _ _ _ _ _ _ _ h => h, fun _ _ _ _ _ _ _ h => h, fun _ _ _ _ _ _ _ h => h, fun _ _ _ _ _ _ _ h => h, fun _ _ _ _ _ _ _ h => h, fun _ _ _ _ _ _ _ h => h, fun _ _ _ _ _ _ _ h => h, fun _ _ _ _ _ _ _ h => h, fun _ _ _ _ _ _ _ h => h, fun _ _ _ _ _ _ _ h => h, fun _ _ _ _ _ _ _ h => h, fun _ _ _ _ _ _ _ h => h, fun _ _ _ _ _ _ _ h => h, fun _ _ _ _ _ _ _ h => h, fun _ _ _ _ _ _ _ h => h, fun _ _ _ _ _ _ _ h => h, fun _ _ _ _ _ _ _ h => h, fun _ _ _ _ _ _ _ h => h, fun _ _ _ _ _ _ _ h => h, fun _ _ _ _ _ _ _ h => h, fun _ _ _ _ _ _ _ h => h, fun _ _ _ _ _ _ _ h => h, fun _ _ _ _ _ _ _ h => h, fun _ _ _ _ _ _ _ h => h, fun _ _ _ _ _ _ _ h => h, fun _ _ _ _ _ _ _ h => h, fun _ _ _ _ _ _ _ h => h, fun _ _ _ _ _ _ _ h => h, fun _ _ _ _ _ _ _ h => h, fun _ _ _ _ _ _ _ h => h, fun _ _ _ _ _ _ _ h => h, fun _ _ _ _ _ _ _ h => h, fun _ _ _ _ _ _ _ h => h, fun _ _ _ _ _ _ _ h => h, fun _ _ _ _ _ _ _ h => h, fun _ _ _ _ _ _ _ h => h, fun _ _ _ => fun w w' v hG h => h.up hG, fun _ _ _ => fun w w' v hG h => h.up hG, fun _ _ _ _ _ _ _ h => h, fun _ _ _ _ _ _ _ h => h, fun _ _ _ _ _ _ _ h => h, fun _ _ _ _ _ _ _ h => h, fun _ _ _ _ _ _ _ h => h, trivial⟩
    case startK11ord11tff => exact (Below.refl _ _).drew
    case eachK11ord11tff =>
      refine ⟨?_, ?_, ?_, ?_, ?_, ?_, ?_, ?_, ?_, ?_, ?_, ?_, ?_, ?_, ?_, ?_, ?_, ?_, ?_, ?_, ?_, ?_, ?_, ?_, ?_, ?_, ?_, ?_, ?_, ?_, ?_, ?_, ?_, ?_, ?_, ?_, ?_, ?_, ?_, ?_, ?_, ?_, ?_, ?_, ?_, ?_, ?_, ?_, ?_, ?_, ?_, ?_, ?_, ?_, ?_, ?_, trivial⟩
      -- 0: slot 47 := load 25 t7
      · intro w L f hC hLi hLd hLn hF
        obtain ⟨d7, _⟩ := hF
        have d7 : f 7 = .pointer (some ⟨gx, 0, none⟩) := d7
        refine Step2.live rfl ?_
        have hh := hgx.out.below hC hgx.out.lt
        have f0 := (hh.fact 0 rfl).2
        have f1 := (hh.fact 1 rfl).2
        have ev : ∀ t, evalOf f (.tmp t) = f t := fun _ => rfl
        have ec : ∀ c, evalOf f (.const c) = c := fun _ => rfl
        have ef : ∀ g, evalOf f (.func g) = .func (.func g) #[] #[] := fun _ => rfl
        refine relUpon_value ?_ hC (Below.refl _ _) rfl
        go_simp
      -- 1: slot 48 := load 25 t3
      · intro w L f hC hLi hLd hLn hF
        obtain ⟨d3, _⟩ := hF
        have d3 : f 3 = .pointer (some ⟨ga, 0, none⟩) := d3
        refine Step2.live rfl ?_
        have hh := hga.out.below hC hga.out.lt
        have f0 := (hh.fact 0 rfl).2
        have f1 := (hh.fact 1 rfl).2
        have ev : ∀ t, evalOf f (.tmp t) = f t := fun _ => rfl
        have ec : ∀ c, evalOf f (.const c) = c := fun _ => rfl
        have ef : ∀ g, evalOf f (.func g) = .func (.func g) #[] #[] := fun _ => rfl
        refine relUpon_value ?_ hC (Below.refl _ _) rfl
        go_simp
      -- 2: slot 49 := call { value (Operand.func 9), args := #[t48], argTypes := #[25] }
      · intro w L f hC hLi hLd hLn hF
        obtain ⟨d48, _⟩ := hF
        have d48 : f 48 = .agg #[.bool (Pz.nul pa), .slice Aa (List.length (Pz.cells pa)) ca] := d48
        refine Step2.live rfl ?_
        have ev : ∀ t, evalOf f (.tmp t) = f t := fun _ => rfl
        have ec : ∀ c, evalOf f (.const c) = c := fun _ => rfl
        have ef : ∀ g, evalOf f (.func g) = .func (.func g) #[] #[] := fun _ => rfl
        refine relUpon_call (f := 9) (args := #[.agg #[.bool (Pz.nul pa), .slice Aa (List.length (Pz.cells pa)) ca]]) (w := w) (by go_simp) (refPts_any w pa _ ⟨_, _, rfl, ((hra.out.below hC).more hC.size), hca⟩ (by omega)) ?_
        rintro e w1 ⟨⟨v, he, hv⟩, hB⟩
        exact ⟨_, he, hC.trans (hB.mono hC.size), hB, by rw [show (⟨Pz.nul pa, canon (Pz.cells pa)⟩ : Pz) = px from hpx.out] at hv; exact hv⟩
      -- 3: slot 50 := call { value (Operand.func 10), args := #[t47, t49], argTypes := #[25, 25] }
      · intro w L f hC hLi hLd hLn hF
        obtain ⟨d47, d49, _⟩ := hF
        have d47 : f 47 = .agg #[.bool (Pz.nul px), .slice Ax (List.length (Pz.cells px)) cx] := d47
        refine Step2.live rfl ?_
        obtain ⟨A49, c49, e49, hr49, hc49⟩ := d49
        have ev : ∀ t, evalOf f (.tmp t) = f t := fun _ => rfl
        have ec : ∀ c, evalOf f (.const c) = c := fun _ => rfl
        have ef : ∀ g, evalOf f (.func g) = .func (.func g) #[] #[] := fun _ => rfl
        refine relUpon_call (f := 10) (args := #[.agg #[.bool (Pz.nul px), .slice Ax (List.length (Pz.cells px)) cx], .agg #[.bool (Pz.nul px), .slice A49 (List.length (Pz.cells px)) c49]]) (w := w) (by go_simp) (ptsEq_any w px px _ _ ⟨_, _, rfl, ((hrx.out.below hC).more hC.size), hcx⟩ ⟨_, _, rfl, hr49, hc49⟩ (by omega) (by omega)) ?_
        rintro e w1 ⟨he, hB⟩
        exact ⟨_, he, hC.trans (hB.mono hC.size), hB, congrArg Value.bool (sameP_rfl px)⟩
      -- 4: slot 51 := move t50
      · intro w L f hC hLi hLd hLn hF
        obtain ⟨d50, _⟩ := hF
        have d50 : f 50 = .bool true := d50
        refine Step2.live rfl ?_
        exact relUpon_value (v := f 50) rfl (hC) (Below.refl _ _) d50
      -- 5: slot 52 := load 25 t7
      · intro w L f hC hLi hLd hLn hF
        obtain ⟨d7, d51, _⟩ := hF
        have d7 : f 7 = .pointer (some ⟨gx, 0, none⟩) := d7
        have d51 : f 51 = .bool true := d51
        refine Step2.live (show wantedBy _ (f 51) = true by rw [d51]; rfl) ?_
        have hh := hgx.out.below hC hgx.out.lt
        have f0 := (hh.fact 0 rfl).2
        have f1 := (hh.fact 1 rfl).2
        have ev : ∀ t, evalOf f (.tmp t) = f t := fun _ => rfl
        have ec : ∀ c, evalOf f (.const c) = c := fun _ => rfl
        have ef : ∀ g, evalOf f (.func g) = .func (.func g) #[] #[] := fun _ => rfl
        refine relUpon_value ?_ hC (Below.refl _ _) rfl
        go_simp
      -- 6: slot 53 := load 25 t7
      · intro w L f hC hLi hLd hLn hF
        obtain ⟨d7, d51, _⟩ := hF
        have d7 : f 7 = .pointer (some ⟨gx, 0, none⟩) := d7
        have d51 : f 51 = .bool true := d51
        refine Step2.live (show wantedBy _ (f 51) = true by rw [d51]; rfl) ?_
        have hh := hgx.out.below hC hgx.out.lt
        have f0 := (hh.fact 0 rfl).2
        have f1 := (hh.fact 1 rfl).2
        have ev : ∀ t, evalOf f (.tmp t) = f t := fun _ => rfl
        have ec : ∀ c, evalOf f (.const c) = c := fun _ => rfl
        have ef : ∀ g, evalOf f (.func g) = .func (.func g) #[] #[] := fun _ => rfl
        refine relUpon_value ?_ hC (Below.refl _ _) rfl
        go_simp
      -- 7: slot 54 := call { value (Operand.func 13), args := #[t52, t53], argTypes := #[25, 25] }
      · intro w L f hC hLi hLd hLn hF
        obtain ⟨d52, d53, d51, _⟩ := hF
        have d52 : f 52 = .agg #[.bool (Pz.nul px), .slice Ax (List.length (Pz.cells px)) cx] := d52
        have d53 : f 53 = .agg #[.bool (Pz.nul px), .slice Ax (List.length (Pz.cells px)) cx] := d53
        have d51 : f 51 = .bool true := d51
        refine Step2.live (show wantedBy _ (f 51) = true by rw [d51]; rfl) ?_
        have ev : ∀ t, evalOf f (.tmp t) = f t := fun _ => rfl
        have ec : ∀ c, evalOf f (.const c) = c := fun _ => rfl
        have ef : ∀ g, evalOf f (.func g) = .func (.func g) #[] #[] := fun _ => rfl
        refine relUpon_call (f := 13) (args := #[.agg #[.bool (Pz.nul px), .slice Ax (List.length (Pz.cells px)) cx], .agg #[.bool (Pz.nul px), .slice Ax (List.length (Pz.cells px)) cx]]) (w := w) (by go_simp) (leq_any w px px _ _ ⟨_, _, rfl, ((hrx.out.below hC).more hC.size), hcx⟩ ⟨_, _, rfl, ((hrx.out.below hC).more hC.size), hcx⟩ (by omega) (by omega)) ?_
        rintro e w1 ⟨he, hB⟩
        exact ⟨_, he, hC.trans (hB.mono hC.size), hB, congrArg Value.bool (leq_refl px)⟩
      -- 8: slot 55 := pick t51 t54 (const (Value.bool false))
      · intro w L f hC hLi hLd hLn hF
        obtain ⟨d51, d54, _⟩ := hF
        have d51 : f 51 = .bool true := d51
        have d54 : f 54 = .bool true := d54
        refine Step2.live rfl ?_
        have ev : ∀ t, evalOf f (.tmp t) = f t := fun _ => rfl
        have ec : ∀ c, evalOf f (.const c) = c := fun _ => rfl
        refine relUpon_value ?_ (hC) (Below.refl _ _) rfl
        go_simp
      -- 9: slot 56 := move t55
      · intro w L f hC hLi hLd hLn hF
        obtain ⟨d55, _⟩ := hF
        have d55 : f 55 = .bool true := d55
        refine Step2.live rfl ?_
        exact relUpon_value (v := f 55) rfl (hC) (Below.refl _ _) d55
      -- 10: slot 57 := load 25 t7
      · intro w L f hC hLi hLd hLn hF
        obtain ⟨d7, d56, _⟩ := hF
        have d7 : f 7 = .pointer (some ⟨gx, 0, none⟩) := d7
        have d56 : f 56 = .bool true := d56
        refine Step2.live (show wantedBy _ (f 56) = true by rw [d56]; rfl) ?_
        have hh := hgx.out.below hC hgx.out.lt
        have f0 := (hh.fact 0 rfl).2
        have f1 := (hh.fact 1 rfl).2
        have ev : ∀ t, evalOf f (.tmp t) = f t := fun _ => rfl
        have ec : ∀ c, evalOf f (.const c) = c := fun _ => rfl
        have ef : ∀ g, evalOf f (.func g) = .func (.func g) #[] #[] := fun _ => rfl
        refine relUpon_value ?_ hC (Below.refl _ _) rfl
        go_simp
      -- 11: slot 58 := load 25 t8
      · intro w L f hC hLi hLd hLn hF
        obtain ⟨d8, d56, _⟩ := hF
        have d8 : f 8 = .pointer (some ⟨gy, 0, none⟩) := d8
        have d56 : f 56 = .bool true := d56
        refine Step2.live (show wantedBy _ (f 56) = true by rw [d56]; rfl) ?_
        have hh := hgy.out.below hC hgy.out.lt
        have f0 := (hh.fact 0 rfl).2
        have f1 := (hh.fact 1 rfl).2
        have ev : ∀ t, evalOf f (.tmp t) = f t := fun _ => rfl
        have ec : ∀ c, evalOf f (.const c) = c := fun _ => rfl
        have ef : ∀ g, evalOf f (.func g) = .func (.func g) #[] #[] := fun _ => rfl
        refine relUpon_value ?_ hC (Below.refl _ _) rfl
        go_simp
      -- 12: slot 59 := call { value (Operand.func 13), args := #[t57, t58], argTypes := #[25, 25] }
      · intro w L f hC hLi hLd hLn hF
        obtain ⟨d57, d58, d56, _⟩ := hF
        have d57 : f 57 = .agg #[.bool (Pz.nul px), .slice Ax (List.length (Pz.cells px)) cx] := d57
        have d58 : f 58 = .agg #[.bool (Pz.nul py), .slice Ay (List.length (Pz.cells py)) cy] := d58
        have d56 : f 56 = .bool true := d56
        refine Step2.live (show wantedBy _ (f 56) = true by rw [d56]; rfl) ?_
        have ev : ∀ t, evalOf f (.tmp t) = f t := fun _ => rfl
        have ec : ∀ c, evalOf f (.const c) = c := fun _ => rfl
        have ef : ∀ g, evalOf f (.func g) = .func (.func g) #[] #[] := fun _ => rfl
        refine relUpon_call (f := 13) (args := #[.agg #[.bool (Pz.nul px), .slice Ax (List.length (Pz.cells px)) cx], .agg #[.bool (Pz.nul py), .slice Ay (List.length (Pz.cells py)) cy]]) (w := w) (by go_simp) (leq_any w px py _ _ ⟨_, _, rfl, ((hrx.out.below hC).more hC.size), hcx⟩ ⟨_, _, rfl, ((hry.out.below hC).more hC.size), hcy⟩ (by omega) (by omega)) ?_
        rintro e w1 ⟨he, hB⟩
        exact ⟨_, he, hC.trans (hB.mono hC.size), hB, congrArg Value.bool hxy.out⟩
      -- 13: slot 60 := unOp UnOp.not 4 t59
      · intro w L f hC hLi hLd hLn hF
        obtain ⟨d59, d56, _⟩ := hF
        have d59 : f 59 = .bool true := d59
        have d56 : f 56 = .bool true := d56
        refine Step2.live (show wantedBy _ (f 56) = true by rw [d56]; rfl) ?_
        have ev : ∀ t, evalOf f (.tmp t) = f t := fun _ => rfl
        have ec : ∀ c, evalOf f (.const c) = c := fun _ => rfl
        refine relUpon_value ?_ (hC) (Below.refl _ _) rfl
        go_simp
      -- 14: slot 61 := move t60
      · intro w L f hC hLi hLd hLn hF
        obtain ⟨d60, d56, _⟩ := hF
        have d60 : f 60 = .bool false := d60
        have d56 : f 56 = .bool true := d56
        refine Step2.live (show wantedBy _ (f 56) = true by rw [d56]; rfl) ?_
        exact relUpon_value (v := f 60) rfl (hC) (Below.refl _ _) d60
      -- 15: slot 62 := load 25 t8
      · intro w L f hC hLi hLd hLn hF
        obtain ⟨d8, d61, _⟩ := hF
        have d8 : f 8 = .pointer (some ⟨gy, 0, none⟩) := d8
        have d61 : f 61 = .bool false := d61
        refine Step2.live (show wantedBy _ (f 61) = true by rw [d61]; rfl) ?_
        have hh := hgy.out.below hC hgy.out.lt
        have f0 := (hh.fact 0 rfl).2
        have f1 := (hh.fact 1 rfl).2
        have ev : ∀ t, evalOf f (.tmp t) = f t := fun _ => rfl
        have ec : ∀ c, evalOf f (.const c) = c := fun _ => rfl
        have ef : ∀ g, evalOf f (.func g) = .func (.func g) #[] #[] := fun _ => rfl
        refine relUpon_value ?_ hC (Below.refl _ _) rfl
        go_simp
      -- 16: slot 63 := load 25 t7
      · intro w L f hC hLi hLd hLn hF
        obtain ⟨d7, d61, _⟩ := hF
        have d7 : f 7 = .pointer (some ⟨gx, 0, none⟩) := d7
        have d61 : f 61 = .bool false := d61
        refine Step2.live (show wantedBy _ (f 61) = true by rw [d61]; rfl) ?_
        have hh := hgx.out.below hC hgx.out.lt
        have f0 := (hh.fact 0 rfl).2
        have f1 := (hh.fact 1 rfl).2
        have ev : ∀ t, evalOf f (.tmp t) = f t := fun _ => rfl
        have ec : ∀ c, evalOf f (.const c) = c := fun _ => rfl
        have ef : ∀ g, evalOf f (.func g) = .func (.func g) #[] #[] := fun _ => rfl
        refine relUpon_value ?_ hC (Below.refl _ _) rfl
        go_simp
      -- 17: slot 64 := call { value (Operand.func 13), args := #[t62, t63], argTypes := #[25, 25] }
      · intro w L f hC hLi hLd hLn hF
        obtain ⟨d62, d63, d61, _⟩ := hF
        have d62 : f 62 = .agg #[.bool (Pz.nul py), .slice Ay (List.length (Pz.cells py)) cy] := d62
        have d63 : f 63 = .agg #[.bool (Pz.nul px), .slice Ax (List.length (Pz.cells px)) cx] := d63
        have d61 : f 61 = .bool false := d61
        refine Step2.live (show wantedBy _ (f 61) = true by rw [d61]; rfl) ?_
        have ev : ∀ t, evalOf f (.tmp t) = f t := fun _ => rfl
        have ec : ∀ c, evalOf f (.const c) = c := fun _ => rfl
        have ef : ∀ g, evalOf f (.func g) = .func (.func g) #[] #[] := fun _ => rfl
        refine relUpon_call (f := 13) (args := #[.agg #[.bool (Pz.nul py), .slice Ay (List.length (Pz.cells py)) cy], .agg #[.bool (Pz.nul px), .slice Ax (List.length (Pz.cells px)) cx]]) (w := w) (by go_simp) (leq_any w py px _ _ ⟨_, _, rfl, ((hry.out.below hC).more hC.size), hcy⟩ ⟨_, _, rfl, ((hrx.out.below hC).more hC.size), hcx⟩ (by omega) (by omega)) ?_
        rintro e w1 ⟨he, hB⟩
        exact ⟨_, he, hC.trans (hB.mono hC.size), hB, congrArg Value.bool hyx.out⟩
      -- 18: slot 65 := unOp UnOp.not 4 t64
      · intro w L f hC hLi hLd hLn hF
        obtain ⟨d64, d61, _⟩ := hF
        have d64 : f 64 = .bool false := d64
        have d61 : f 61 = .bool false := d61
        refine Step2.live (show wantedBy _ (f 61) = true by rw [d61]; rfl) ?_
        have ev : ∀ t, evalOf f (.tmp t) = f t := fun _ => rfl
        have ec : ∀ c, evalOf f (.const c) = c := fun _ => rfl
        refine relUpon_value ?_ (hC) (Below.refl _ _) rfl
        go_simp
      -- 19: slot 66 := pick t61 (const (Value.bool true)) t65
      · intro w L f hC hLi hLd hLn hF
        obtain ⟨d61, d65, d56, _⟩ := hF
        have d61 : f 61 = .bool false := d61
        have d65 : f 65 = .bool true := d65
        have d56 : f 56 = .bool true := d56
        refine Step2.live (show wantedBy _ (f 56) = true by rw [d56]; rfl) ?_
        have ev : ∀ t, evalOf f (.tmp t) = f t := fun _ => rfl
        have ec : ∀ c, evalOf f (.const c) = c := fun _ => rfl
        refine relUpon_value ?_ (hC) (Below.refl _ _) rfl
        go_simp
      -- 20: slot 67 := move t66
      · intro w L f hC hLi hLd hLn hF
        obtain ⟨d66, d56, _⟩ := hF
        have d66 : f 66 = .bool true := d66
        have d56 : f 56 = .bool true := d56
        refine Step2.live (show wantedBy _ (f 56) = true by rw [d56]; rfl) ?_
        exact relUpon_value (v := f 66) rfl (hC) (Below.refl _ _) d66
      -- 21: slot 68 := load 25 t7
      · intro w L f hC hLi hLd hLn hF
        obtain ⟨d7, d67, _⟩ := hF
        have d7 : f 7 = .pointer (some ⟨gx, 0, none⟩) := d7
        have d67 : f 67 = .bool true := d67
        refine Step2.dead (show wantedBy _ (f 67) = false by rw [d67]; rfl) (hC) ?_
        trivial
      -- 22: slot 69 := load 25 t8
      · intro w L f hC hLi hLd hLn hF
        obtain ⟨d8, d67, _⟩ := hF
        have d8 : f 8 = .pointer (some ⟨gy, 0, none⟩) := d8
        have d67 : f 67 = .bool true := d67
        refine Step2.dead (show wantedBy _ (f 67) = false by rw [d67]; rfl) (hC) ?_
        trivial
      -- 23: slot 70 := call { value (Operand.func 10), args := #[t68, t69], argTypes := #[25, 25] }
      · intro w L f hC hLi hLd hLn hF
        obtain ⟨d68, d69, d67, _⟩ := hF
        have d67 : f 67 = .bool true := d67
        refine Step2.dead (show wantedBy _ (f 67) = false by rw [d67]; rfl) (hC) ?_
        trivial
      -- 24: slot 71 := pick t67 (const (Value.bool true)) t70
      · intro w L f hC hLi hLd hLn hF
        obtain ⟨d67, d70, d56, _⟩ := hF
        have d67 : f 67 = .bool true := d67
        have d56 : f 56 = .bool true := d56
        refine Step2.live (show wantedBy _ (f 56) = true by rw [d56]; rfl) ?_
        have ev : ∀ t, evalOf f (.tmp t) = f t := fun _ => rfl
        have ec : ∀ c, evalOf f (.const c) = c := fun _ => rfl
        refine relUpon_value ?_ (hC) (Below.refl _ _) rfl
        go_simp
      -- 25: slot 72 := pick t56 t71 (const (Value.bool false))
      · intro w L f hC hLi hLd hLn hF
        obtain ⟨d56, d71, _⟩ := hF
        have d56 : f 56 = .bool true := d56
        have d71 : f 71 = .bool true := d71
        refine Step2.live rfl ?_
        have ev : ∀ t, evalOf f (.tmp t) = f t := fun _ => rfl
        have ec : ∀ c, evalOf f (.const c) = c := fun _ => rfl
        refine relUpon_value ?_ (hC) (Below.refl _ _) rfl
        go_simp
      -- 26: slot 73 := move t72
      · intro w L f hC hLi hLd hLn hF
        obtain ⟨d72, _⟩ := hF
        have d72 : f 72 = .bool true := d72
        refine Step2.live rfl ?_
        exact relUpon_value (v := f 72) rfl (hC) (Below.refl _ _) d72
      -- 27: slot 74 := load 25 t7
      · intro w L f hC hLi hLd hLn hF
        obtain ⟨d7, d73, _⟩ := hF
        have d7 : f 7 = .pointer (some ⟨gx, 0, none⟩) := d7
        have d73 : f 73 = .bool true := d73
        refine Step2.live (show wantedBy _ (f 73) = true by rw [d73]; rfl) ?_
        have hh := hgx.out.below hC hgx.out.lt
        have f0 := (hh.fact 0 rfl).2
        have f1 := (hh.fact 1 rfl).2
        have ev : ∀ t, evalOf f (.tmp t) = f t := fun _ => rfl
        have ec : ∀ c, evalOf f (.const c) = c := fun _ => rfl
        have ef : ∀ g, evalOf f (.func g) = .func (.func g) #[] #[] := fun _ => rfl
        refine relUpon_value ?_ hC (Below.refl _ _) rfl
        go_simp
      -- 28: slot 75 := load 25 t8
      · intro w L f hC hLi hLd hLn hF
        obtain ⟨d8, d73, _⟩ := hF
        have d8 : f 8 = .pointer (some ⟨gy, 0, none⟩) := d8
        have d73 : f 73 = .bool true := d73
        refine Step2.live (show wantedBy _ (f 73) = true by rw [d73]; rfl) ?_
        have hh := hgy.out.below hC hgy.out.lt
        have f0 := (hh.fact 0 rfl).2
        have f1 := (hh.fact 1 rfl).2
        have ev : ∀ t, evalOf f (.tmp t) = f t := fun _ => rfl
        have ec : ∀ c, evalOf f (.const c) = c := fun _ => rfl
        have ef : ∀ g, evalOf f (.func g) = .func (.func g) #[] #[] := fun _ => rfl
        refine relUpon_value ?_ hC (Below.refl _ _) rfl
        go_simp
      -- 29: slot 76 := call { value (Operand.func 13), args := #[t74, t75], argTypes := #[25, 25] }
      · intro w L f hC hLi hLd hLn hF
        obtain ⟨d74, d75, d73, _⟩ := hF
        have d74 : f 74 = .agg #[.bool (Pz.nul px), .slice Ax (List.length (Pz.cells px)) cx] := d74
        have d75 : f 75 = .agg #[.bool (Pz.nul py), .slice Ay (List.length (Pz.cells py)) cy] := d75
        have d73 : f 73 = .bool true := d73
        refine Step2.live (show wantedBy _ (f 73) = true by rw [d73]; rfl) ?_
        have ev : ∀ t, evalOf f (.tmp t) = f t := fun _ => rfl
        have ec : ∀ c, evalOf f (.const c) = c := fun _ => rfl
        have ef : ∀ g, evalOf f (.func g) = .func (.func g) #[] #[] := fun _ => rfl
        refine relUpon_call (f := 13) (args := #[.agg #[.bool (Pz.nul px), .slice Ax (List.length (Pz.cells px)) cx], .agg #[.bool (Pz.nul py), .slice Ay (List.length (Pz.cells py)) cy]]) (w := w) (by go_simp) (leq_any w px py _ _ ⟨_, _, rfl, ((hrx.out.below hC).more hC.size), hcx⟩ ⟨_, _, rfl, ((hry.out.below hC).more hC.size), hcy⟩ (by omega) (by omega)) ?_
        rintro e w1 ⟨he, hB⟩
        exact ⟨_, he, hC.trans (hB.mono hC.size), hB, congrArg Value.bool hxy.out⟩
      -- 30: slot 77 := unOp UnOp.not 4 t76
      · intro w L f hC hLi hLd hLn hF
        obtain ⟨d76, d73, _⟩ := hF
        have d76 : f 76 = .bool true := d76
        have d73 : f 73 = .bool true := d73
        refine Step2.live (show wantedBy _ (f 73) = true by rw [d73]; rfl) ?_
        have ev : ∀ t, evalOf f (.tmp t) = f t := fun _ => rfl
        have ec : ∀ c, evalOf f (.const c) = c := fun _ => rfl
        refine relUpon_value ?_ (hC) (Below.refl _ _) rfl
        go_simp
      -- 31: slot 78 := move t77
      · intro w L f hC hLi hLd hLn hF
        obtain ⟨d77, d73, _⟩ := hF
        have d77 : f 77 = .bool false := d77
        have d73 : f 73 = .bool true := d73
        refine Step2.live (show wantedBy _ (f 73) = true by rw [d73]; rfl) ?_
        exact relUpon_value (v := f 77) rfl (hC) (Below.refl _ _) d77
      -- 32: slot 79 := load 25 t8
      · intro w L f hC hLi hLd hLn hF
        obtain ⟨d8, d78, _⟩ := hF
        have d8 : f 8 = .pointer (some ⟨gy, 0, none⟩) := d8
        have d78 : f 78 = .bool false := d78
        refine Step2.live (show wantedBy _ (f 78) = true by rw [d78]; rfl) ?_
        have hh := hgy.out.below hC hgy.out.lt
        have f0 := (hh.fact 0 rfl).2
        have f1 := (hh.fact 1 rfl).2
        have ev : ∀ t, evalOf f (.tmp t) = f t := fun _ => rfl
        have ec : ∀ c, evalOf f (.const c) = c := fun _ => rfl
        have ef : ∀ g, evalOf f (.func g) = .func (.func g) #[] #[] := fun _ => rfl
        refine relUpon_value ?_ hC (Below.refl _ _) rfl
        go_simp
      -- 33: slot 80 := load 25 t9
      · intro w L f hC hLi hLd hLn hF
        obtain ⟨d9, d78, _⟩ := hF
        have d9 : f 9 = .pointer (some ⟨gz, 0, none⟩) := d9
        have d78 : f 78 = .bool false := d78
        refine Step2.live (show wantedBy _ (f 78) = true by rw [d78]; rfl) ?_
        have hh := hgz.out.below hC hgz.out.lt
        have f0 := (hh.fact 0 rfl).2
        have f1 := (hh.fact 1 rfl).2
        have ev : ∀ t, evalOf f (.tmp t) = f t := fun _ => rfl
        have ec : ∀ c, evalOf f (.const c) = c := fun _ => rfl
        have ef : ∀ g, evalOf f (.func g) = .func (.func g) #[] #[] := fun _ => rfl
        refine relUpon_value ?_ hC (Below.refl _ _) rfl
        go_simp
      -- 34: slot 81 := call { value (Operand.func 13), args := #[t79, t80], argTypes := #[25, 25] }
      · intro w L f hC hLi hLd hLn hF
        obtain ⟨d79, d80, d78, _⟩ := hF
        have d79 : f 79 = .agg #[.bool (Pz.nul py), .slice Ay (List.length (Pz.cells py)) cy] := d79
        have d80 : f 80 = .agg #[.bool (Pz.nul pz), .slice Az (List.length (Pz.cells pz)) cz1] := d80
        have d78 : f 78 = .bool false := d78
        refine Step2.live (show wantedBy _ (f 78) = true by rw [d78]; rfl) ?_
        have ev : ∀ t, evalOf f (.tmp t) = f t := fun _ => rfl
        have ec : ∀ c, evalOf f (.const c) = c := fun _ => rfl
        have ef : ∀ g, evalOf f (.func g) = .func (.func g) #[] #[] := fun _ => rfl
        refine relUpon_call (f := 13) (args := #[.agg #[.bool (Pz.nul py), .slice Ay (List.length (Pz.cells py)) cy], .agg #[.bool (Pz.nul pz), .slice Az (List.length (Pz.cells pz)) cz1]]) (w := w) (by go_simp) (leq_any w py pz _ _ ⟨_, _, rfl, ((hry.out.below hC).more hC.size), hcy⟩ ⟨_, _, rfl, ((hrz.out.below hC).more hC.size), hcz⟩ (by omega) (by omega)) ?_
        rintro e w1 ⟨he, hB⟩
        exact ⟨_, he, hC.trans (hB.mono hC.size), hB, congrArg Value.bool hyz.out⟩
      -- 35: slot 82 := unOp UnOp.not 4 t81
      · intro w L f hC hLi hLd hLn hF
        obtain ⟨d81, d78, _⟩ := hF
        have d81 : f 81 = .bool false := d81
        have d78 : f 78 = .bool false := d78
        refine Step2.live (show wantedBy _ (f 78) = true by rw [d78]; rfl) ?_
        have ev : ∀ t, evalOf f (.tmp t) = f t := fun _ => rfl
        have ec : ∀ c, evalOf f (.const c) = c := fun _ => rfl
        refine relUpon_value ?_ (hC) (Below.refl _ _) rfl
        go_simp
      -- 36: slot 83 := pick t78 (const (Value.bool true)) t82
      · intro w L f hC hLi hLd hLn hF
        obtain ⟨d78, d82, d73, _⟩ := hF
        have d78 : f 78 = .bool false := d78
        have d82 : f 82 = .bool true := d82
        have d73 : f 73 = .bool true := d73
        refine Step2.live (show wantedBy _ (f 73) = true by rw [d73]; rfl) ?_
        have ev : ∀ t, evalOf f (.tmp t) = f t := fun _ => rfl
        have ec : ∀ c, evalOf f (.const c) = c := fun _ => rfl
        refine relUpon_value ?_ (hC) (Below.refl _ _) rfl
        go_simp
      -- 37: slot 84 := move t83
      · intro w L f hC hLi hLd hLn hF
        obtain ⟨d83, d73, _⟩ := hF
        have d83 : f 83 = .bool true := d83
        have d73 : f 73 = .bool true := d73
        refine Step2.live (show wantedBy _ (f 73) = true by rw [d73]; rfl) ?_
        exact relUpon_value (v := f 83) rfl (hC) (Below.refl _ _) d83
      -- 38: slot 85 := load 25 t7
      · intro w L f hC hLi hLd hLn hF
        obtain ⟨d7, d84, _⟩ := hF
        have d7 : f 7 = .pointer (some ⟨gx, 0, none⟩) := d7
        have d84 : f 84 = .bool true := d84
        refine Step2.dead (show wantedBy _ (f 84) = false by rw [d84]; rfl) (hC) ?_
        trivial
      -- 39: slot 86 := load 25 t9
      · intro w L f hC hLi hLd hLn hF
        obtain ⟨d9, d84, _⟩ := hF
        have d9 : f 9 = .pointer (some ⟨gz, 0, none⟩) := d9
        have d84 : f 84 = .bool true := d84
        refine Step2.dead (show wantedBy _ (f 84) = false by rw [d84]; rfl) (hC) ?_
        trivial
      -- 40: slot 87 := call { value (Operand.func 13), args := #[t85, t86], argTypes := #[25, 25] }
      · intro w L f hC hLi hLd hLn hF
        obtain ⟨d85, d86, d84, _⟩ := hF
        have d84 : f 84 = .bool true := d84
        refine Step2.dead (show wantedBy _ (f 84) = false by rw [d84]; rfl) (hC) ?_
        trivial
      -- 41: slot 88 := pick t84 (const (Value.bool true)) t87
      · intro w L f hC hLi hLd hLn hF
        obtain ⟨d84, d87, d73, _⟩ := hF
        have d84 : f 84 = .bool true := d84
        have d73 : f 73 = .bool true := d73
        refine Step2.live (show wantedBy _ (f 73) = true by rw [d73]; rfl) ?_
        have ev : ∀ t, evalOf f (.tmp t) = f t := fun _ => rfl
        have ec : ∀ c, evalOf f (.const c) = c := fun _ => rfl
        refine relUpon_value ?_ (hC) (Below.refl _ _) rfl
        go_simp
      -- 42: slot 89 := pick t73 t88 (const (Value.bool false))
      · intro w L f hC hLi hLd hLn hF
        obtain ⟨d73, d88, _⟩ := hF
        have d73 : f 73 = .bool true := d73
        have d88 : f 88 = .bool true := d88
        refine Step2.live rfl ?_
        have ev : ∀ t, evalOf f (.tmp t) = f t := fun _ => rfl
        have ec : ∀ c, evalOf f (.const c) = c := fun _ => rfl
        refine relUpon_value ?_ (hC) (Below.refl _ _) rfl
        go_simp
      -- 43: slot 90 := move t89
      · intro w L f hC hLi hLd hLn hF
        obtain ⟨d89, _⟩ := hF
        have d89 : f 89 = .bool true := d89
        refine Step2.live rfl ?_
        exact relUpon_value (v := f 89) rfl (hC) (Below.refl _ _) d89
      -- 44: slot 91 := load 25 t7
      · intro w L f hC hLi hLd hLn hF
        obtain ⟨d7, d90, _⟩ := hF
        have d7 : f 7 = .pointer (some ⟨gx, 0, none⟩) := d7
        have d90 : f 90 = .bool true := d90
        refine Step2.live (show wantedBy _ (f 90) = true by rw [d90]; rfl) ?_
        have hh := hgx.out.below hC hgx.out.lt
        have f0 := (hh.fact 0 rfl).2
        have f1 := (hh.fact 1 rfl).2
        have ev : ∀ t, evalOf f (.tmp t) = f t := fun _ => rfl
        have ec : ∀ c, evalOf f (.const c) = c := fun _ => rfl
        have ef : ∀ g, evalOf f (.func g) = .func (.func g) #[] #[] := fun _ => rfl
        refine relUpon_value ?_ hC (Below.refl _ _) rfl
        go_simp
      -- 45: slot 92 := load 25 t8
      · intro w L f hC hLi hLd hLn hF
        obtain ⟨d8, d90, _⟩ := hF
        have d8 : f 8 = .pointer (some ⟨gy, 0, none⟩) := d8
        have d90 : f 90 = .bool true := d90
        refine Step2.live (show wantedBy _ (f 90) = true by rw [d90]; rfl) ?_
        have hh := hgy.out.below hC hgy.out.lt
        have f0 := (hh.fact 0 rfl).2
        have f1 := (hh.fact 1 rfl).2
        have ev : ∀ t, evalOf f (.tmp t) = f t := fun _ => rfl
        have ec : ∀ c, evalOf f (.const c) = c := fun _ => rfl
        have ef : ∀ g, evalOf f (.func g) = .func (.func g) #[] #[] := fun _ => rfl
        refine relUpon_value ?_ hC (Below.refl _ _) rfl
        go_simp
      -- 46: slot 93 := call { value (Operand.func 13), args := #[t91, t92], argTypes := #[25, 25] }
      · intro w L f hC hLi hLd hLn hF
        obtain ⟨d91, d92, d90, _⟩ := hF
        have d91 : f 91 = .agg #[.bool (Pz.nul px), .slice Ax (List.length (Pz.cells px)) cx] := d91
        have d92 : f 92 = .agg #[.bool (Pz.nul py), .slice Ay (List.length (Pz.cells py)) cy] := d92
        have d90 : f 90 = .bool true := d90
        refine Step2.live (show wantedBy _ (f 90) = true by rw [d90]; rfl) ?_
        have ev : ∀ t, evalOf f (.tmp t) = f t := fun _ => rfl
        have ec : ∀ c, evalOf f (.const c) = c := fun _ => rfl
        have ef : ∀ g, evalOf f (.func g) = .func (.func g) #[] #[] := fun _ => rfl
        refine relUpon_call (f := 13) (args := #[.agg #[.bool (Pz.nul px), .slice Ax (List.length (Pz.cells px)) cx], .agg #[.bool (Pz.nul py), .slice Ay (List.length (Pz.cells py)) cy]]) (w := w) (by go_simp) (leq_any w px py _ _ ⟨_, _, rfl, ((hrx.out.below hC).more hC.size), hcx⟩ ⟨_, _, rfl, ((hry.out.below hC).more hC.size), hcy⟩ (by omega) (by omega)) ?_
        rintro e w1 ⟨he, hB⟩
        exact ⟨_, he, hC.trans (hB.mono hC.size), hB, congrArg Value.bool hxy.out⟩
      -- 47: slot 94 := load 25 t7
      · intro w L f hC hLi hLd hLn hF
        obtain ⟨d7, d90, _⟩ := hF
        have d7 : f 7 = .pointer (some ⟨gx, 0, none⟩) := d7
        have d90 : f 90 = .bool true := d90
        refine Step2.live (show wantedBy _ (f 90) = true by rw [d90]; rfl) ?_
        have hh := hgx.out.below hC hgx.out.lt
        have f0 := (hh.fact 0 rfl).2
        have f1 := (hh.fact 1 rfl).2
        have ev : ∀ t, evalOf f (.tmp t) = f t := fun _ => rfl
        have ec : ∀ c, evalOf f (.const c) = c := fun _ => rfl
        have ef : ∀ g, evalOf f (.func g) = .func (.func g) #[] #[] := fun _ => rfl
        refine relUpon_value ?_ hC (Below.refl _ _) rfl
        go_simp
      -- 48: slot 95 := load 25 t8
      · intro w L f hC hLi hLd hLn hF
        obtain ⟨d8, d90, _⟩ := hF
        have d8 : f 8 = .pointer (some ⟨gy, 0, none⟩) := d8
        have d90 : f 90 = .bool true := d90
        refine Step2.live (show wantedBy _ (f 90) = true by rw [d90]; rfl) ?_
        have hh := hgy.out.below hC hgy.out.lt
        have f0 := (hh.fact 0 rfl).2
        have f1 := (hh.fact 1 rfl).2
        have ev : ∀ t, evalOf f (.tmp t) = f t := fun _ => rfl
        have ec : ∀ c, evalOf f (.const c) = c := fun _ => rfl
        have ef : ∀ g, evalOf f (.func g) = .func (.func g) #[] #[] := fun _ => rfl
        refine relUpon_value ?_ hC (Below.refl _ _) rfl
        go_simp
      -- 49: slot 96 := buildSlice 22 2 #[(0, t94), (1, t95)]
      · intro w L f hC hLi hLd hLn hF
        obtain ⟨d94, d95, d90, _⟩ := hF
        have d94 : f 94 = .agg #[.bool (Pz.nul px), .slice Ax (List.length (Pz.cells px)) cx] := d94
        have d95 : f 95 = .agg #[.bool (Pz.nul py), .slice Ay (List.length (Pz.cells py)) cy] := d95
        have d90 : f 90 = .bool true := d90
        refine Step2.live (show wantedBy _ (f 90) = true by rw [d90]; rfl) ?_
        have hbn := below_new w (.cells #[.bool (Pz.nul px), .slice Ax (List.length (Pz.cells px)) cx, .bool (Pz.nul py), .slice Ay (List.length (Pz.cells py)) cy] 25)
        have ev : ∀ t, evalOf f (.tmp t) = f t := fun _ => rfl
        have ec : ∀ c, evalOf f (.const c) = c := fun _ => rfl
        have ef : ∀ g, evalOf f (.func g) = .func (.func g) #[] #[] := fun _ => rfl
        refine relUpon_value (w' := w.alloc (.cells #[.bool (Pz.nul px), .slice Ax (List.length (Pz.cells px)) cx, .bool (Pz.nul py), .slice Ay (List.length (Pz.cells py)) cy] 25)) (v := .slice (some ⟨w.heap.size, 0, none⟩) 2 2) (by go_simp) (hC.trans (hbn.mono hC.size)) hbn (PLs.two w 25 ((hrx.out.below hC).more hC.size) hcx ((hry.out.below hC).more hC.size) hcy)
      -- 50: slot 97 := call { value (Operand.func 11), args := #[t96], argTypes := #[22] }
      · intro w L f hC hLi hLd hLn hF
        obtain ⟨d96, d90, _⟩ := hF
        have d90 : f 90 = .bool true := d90
        refine Step2.live (show wantedBy _ (f 90) = true by rw [d90]; rfl) ?_
        obtain ⟨A96, c96, L96, e96, hl96, hp96⟩ := d96
        have ev : ∀ t, evalOf f (.tmp t) = f t := fun _ => rfl
        have ec : ∀ c, evalOf f (.const c) = c := fun _ => rfl
        have ef : ∀ g, evalOf f (.func g) = .func (.func g) #[] #[] := fun _ => rfl
        refine relUpon_call (f := 11) (args := #[.slice A96 2 c96]) (w := w) (by go_simp) (join_two w hl96 hp96 (by omega) (by omega)) ?_
        rintro e w1 ⟨⟨v, he, hv⟩, hB⟩
        exact ⟨_, he, hC.trans (hB.mono hC.size), hB, hv⟩
      -- 51: slot 98 := load 25 t8
      · intro w L f hC hLi hLd hLn hF
        obtain ⟨d8, d90, _⟩ := hF
        have d8 : f 8 = .pointer (some ⟨gy, 0, none⟩) := d8
        have d90 : f 90 = .bool true := d90
        refine Step2.live (show wantedBy _ (f 90) = true by rw [d90]; rfl) ?_
        have hh := hgy.out.below hC hgy.out.lt
        have f0 := (hh.fact 0 rfl).2
        have f1 := (hh.fact 1 rfl).2
        have ev : ∀ t, evalOf f (.tmp t) = f t := fun _ => rfl
        have ec : ∀ c, evalOf f (.const c) = c := fun _ => rfl
        have ef : ∀ g, evalOf f (.func g) = .func (.func g) #[] #[] := fun _ => rfl
        refine relUpon_value ?_ hC (Below.refl _ _) rfl
        go_simp
      -- 52: slot 99 := call { value (Operand.func 10), args := #[t97, t98], argTypes := #[25, 25] }
      · intro w L f hC hLi hLd hLn hF
        obtain ⟨d97, d98, d90, _⟩ := hF
        have d98 : f 98 = .agg #[.bool (Pz.nul py), .slice Ay (List.length (Pz.cells py)) cy] := d98
        have d90 : f 90 = .bool true := d90
        refine Step2.live (show wantedBy _ (f 90) = true by rw [d90]; rfl) ?_
        obtain ⟨A97, c97, e97, hr97, hc97⟩ := d97
        have ev : ∀ t, evalOf f (.tmp t) = f t := fun _ => rfl
        have ec : ∀ c, evalOf f (.const c) = c := fun _ => rfl
        have ef : ∀ g, evalOf f (.func g) = .func (.func g) #[] #[] := fun _ => rfl
        refine relUpon_call (f := 10) (args := #[.agg #[.bool (Pz.nul (J2 px py)), .slice A97 (List.length (Pz.cells (J2 px py))) c97], .agg #[.bool (Pz.nul py), .slice Ay (List.length (Pz.cells py)) cy]]) (w := w) (by go_simp) (ptsEq_any w (J2 px py) py _ _ ⟨_, _, rfl, hr97, hc97⟩ ⟨_, _, rfl, ((hry.out.below hC).more hC.size), hcy⟩ (by have := J2_len px py; omega) (by omega)) ?_
        rintro e w1 ⟨he, hB⟩
        exact ⟨_, he, hC.trans (hB.mono hC.size), hB, congrArg Value.bool (hJ.out.trans hxy.out)⟩
      -- 53: slot 100 := binOp BinOp.eql 4 t93 t99 4
      · intro w L f hC hLi hLd hLn hF
        obtain ⟨d93, d99, d90, _⟩ := hF
        have d93 : f 93 = .bool true := d93
        have d99 : f 99 = .bool true := d99
        have d90 : f 90 = .bool true := d90
        refine Step2.live (show wantedBy _ (f 90) = true by rw [d90]; rfl) ?_
        have ev : ∀ t, evalOf f (.tmp t) = f t := fun _ => rfl
        have ec : ∀ c, evalOf f (.const c) = c := fun _ => rfl
        refine relUpon_value ?_ (hC) (Below.refl _ _) rfl
        go_simp
      -- 54: slot 101 := pick t90 t100 (const (Value.bool false))
      · intro w L f hC hLi hLd hLn hF
        obtain ⟨d90, d100, _⟩ := hF
        have d90 : f 90 = .bool true := d90
        have d100 : f 100 = .bool true := d100
        refine Step2.live rfl ?_
        have ev : ∀ t, evalOf f (.tmp t) = f t := fun _ => rfl
        have ec : ∀ c, evalOf f (.const c) = c := fun _ => rfl
        refine relUpon_value ?_ (hC) (Below.refl _ _) rfl
        go_simp
      -- 55: slot 6 := assign t101
      · intro w L f hC hLi hLd hLn hF
        obtain ⟨d101, _⟩ := hF
        have d101 : f 101 = .bool true := d101
        refine Step2.live rfl ?_
        exact relUpon_value (v := f 101) rfl (hC) (Below.refl _ _) d101
    intro x w' hC hV

    have e0 := hV 55 _ rfl rfl
    clear hV
    simp only [framed]
    rw [e0]
    clear e0
    have K2 := K.up hC
    clear hC K
    go_wp2_with fail
    go_ret
    exact ⟨rfl, K2.bel⟩
end Go.Proofs.Ytkohobkeapcpfaa
