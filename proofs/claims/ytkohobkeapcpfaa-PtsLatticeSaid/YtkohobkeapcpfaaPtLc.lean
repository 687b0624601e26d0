/-
  The walk of the law PtsLattice.
-/
import Derived.Test.YtkohobkeapcpfaaPtJ
import Derived.Test.YtkohobkeapcpfaaPtK
namespace Go.Proofs.Ytkohobkeapcpfaa
open Go.RowKit

set_option maxRecDepth 100000 in
set_option maxHeartbeats 8000000 in
theorem lattice_tt (w0 : World) (pa pb pc : Pz) (Aa Ab Ac : Option Addr) (ca cb cc : Nat)
    (hra0 : Row w0 w0.heap.size Aa (pa.cells.map encStr)) (hca : pa.cells.length ≤ ca) (hma : pa.cells.length ≤ maxLen)
    (hrb0 : Row w0 w0.heap.size Ab (pb.cells.map encStr)) (hcb : pb.cells.length ≤ cb) (hmb : pb.cells.length ≤ maxLen)
    (hrc0 : Row w0 w0.heap.size Ac (pc.cells.map encStr)) (hcc : pc.cells.length ≤ cc) (hmc : pc.cells.length ≤ maxLen) (hac0 : leqS pa pc = true) (hbc0 : leqS pb pc = true) :
    Calls Try.prog 4 #[.agg #[.bool pa.nul, .slice Aa pa.cells.length ca], .agg #[.bool pb.nul, .slice Ab pb.cells.length cb], .agg #[.bool pc.nul, .slice Ac pc.cells.length cc]] w0 fun e w' => e = .returned (.bool true) ∧ Below w0.heap.size w0 w' := by
  obtain ⟨wb, hwb⟩ : ∃ w, w = ((w0.alloc (.cells #[.bool pa.nul, .slice Aa pa.cells.length ca] 25)).alloc (.cells #[.bool pb.nul, .slice Ab pb.cells.length cb] 25)).alloc (.cells #[.bool pc.nul, .slice Ac pc.cells.length cc] 25) := ⟨_, rfl⟩
  have k : Below w0.heap.size w0 wb := by
    rw [hwb]
    have k1 := below_new w0 (.cells #[.bool pa.nul, .slice Aa pa.cells.length ca] 25)
    have k2 := below_new (w0.alloc (.cells #[.bool pa.nul, .slice Aa pa.cells.length ca] 25)) (.cells #[.bool pb.nul, .slice Ab pb.cells.length cb] 25)
    have k3 := below_new ((w0.alloc (.cells #[.bool pa.nul, .slice Aa pa.cells.length ca] 25)).alloc (.cells #[.bool pb.nul, .slice Ab pb.cells.length cb] 25)) (.cells #[.bool pc.nul, .slice Ac pc.cells.length cc] 25)
    exact (k1.trans (k2.mono k1.size)).trans (k3.mono (Nat.le_trans k1.size k2.size))
  have hga0 : Holds wb w0.heap.size 25 #[.bool pa.nul, .slice Aa pa.cells.length ca] := by rw [hwb]; exact ((Holds.new w0 _ _).alloc _).alloc _
  have hgb0 : Holds wb (w0.heap.size + 1) 25 #[.bool pb.nul, .slice Ab pb.cells.length cb] := by
    rw [hwb]
    have := (Holds.new (w0.alloc (.cells #[.bool pa.nul, .slice Aa pa.cells.length ca] 25)) 25 #[.bool pb.nul, .slice Ab pb.cells.length cb]).alloc (.cells #[.bool pc.nul, .slice Ac pc.cells.length cc] 25)
    simpa using this
  have hgc0 : Holds wb (w0.heap.size + 1 + 1) 25 #[.bool pc.nul, .slice Ac pc.cells.length cc] := by
    rw [hwb]
    have := Holds.new ((w0.alloc (.cells #[.bool pa.nul, .slice Aa pa.cells.length ca] 25)).alloc (.cells #[.bool pb.nul, .slice Ab pb.cells.length cb] 25)) 25 #[.bool pc.nul, .slice Ac pc.cells.length cc]
    simpa using this
  have hra1 := (hra0.below k).more k.size
  have hrb1 := (hrb0.below k).more k.size
  have hrc1 := (hrc0.below k).more k.size
  have hk := Lib.hid k
  have hW := Lib.hid hwb
  have hgA := Lib.hid hga0
  have hgB := Lib.hid hgb0
  have hgC := Lib.hid hgc0
  have hrA := Lib.hid hra1
  have hrB := Lib.hid hrb1
  have hrC := Lib.hid hrc1
  clear k hwb hga0 hgb0 hgc0 hra0 hrb0 hrc0 hra1 hrb1 hrc1
  go_enter Try.func4, Try.ntmps4
  go_wp2_with fail
  rw [← hW.out]
  clear hW
  refine (known_any wb).mono ?_
  rintro e w1 ⟨rfl, hb1⟩
  have hk1 := Lib.hid (hk.out.trans (hb1.mono hk.out.size))
  have hga := Lib.hid (hgA.out.below hb1 hgA.out.lt)
  have hgb := Lib.hid (hgB.out.below hb1 hgB.out.lt)
  have hgc := Lib.hid (hgC.out.below hb1 hgC.out.lt)
  have hra := Lib.hid ((hrA.out.below hb1).more hb1.size)
  have hrb := Lib.hid ((hrB.out.below hb1).more hb1.size)
  have hrc := Lib.hid ((hrC.out.below hb1).more hb1.size)
  clear hb1 hgA hgB hgC hrA hrB hrC hk
  have fa0 := (hga.out.fact 0 rfl).2
  have fa1 := (hga.out.fact 1 rfl).2
  have fb0 := (hgb.out.fact 0 rfl).2
  have fb1 := (hgb.out.fact 1 rfl).2
  have fc0 := (hgc.out.fact 0 rfl).2
  have fc1 := (hgc.out.fact 1 rfl).2
  go_wp2_with fail
  have hL := PtsL.fresh w1 25 [⟨pa, Aa, ca⟩, ⟨pb, Ab, cb⟩, ⟨pc, Ac, cc⟩] _ rfl (by
    intro q hq
    simp only [List.mem_cons, List.not_mem_nil, or_false] at hq
    rcases hq with rfl | rfl | rfl
    · exact ⟨hra.out, hca⟩
    · exact ⟨hrb.out, hcb⟩
    · exact ⟨hrc.out, hcc⟩)
  have k2 := below_new w1 (.cells #[.bool pa.nul, .slice Aa pa.cells.length ca, .bool pb.nul, .slice Ab pb.cells.length cb, .bool pc.nul, .slice Ac pc.cells.length cc] 25)
  have hk2 := Lib.hid (hk1.out.trans (k2.mono hk1.out.size))
  have hga2 := Lib.hid (hga.out.alloc (.cells #[.bool pa.nul, .slice Aa pa.cells.length ca, .bool pb.nul, .slice Ab pb.cells.length cb, .bool pc.nul, .slice Ac pc.cells.length cc] 25))
  have hgb2 := Lib.hid (hgb.out.alloc (.cells #[.bool pa.nul, .slice Aa pa.cells.length ca, .bool pb.nul, .slice Ab pb.cells.length cb, .bool pc.nul, .slice Ac pc.cells.length cc] 25))
  have hgc2 := Lib.hid (hgc.out.alloc (.cells #[.bool pa.nul, .slice Aa pa.cells.length ca, .bool pb.nul, .slice Ab pb.cells.length cb, .bool pc.nul, .slice Ac pc.cells.length cc] 25))
  have hra2 := Lib.hid ((hra.out.below k2).more k2.size)
  have hrb2 := Lib.hid ((hrb.out.below k2).more k2.size)
  have hrc2 := Lib.hid ((hrc.out.below k2).more k2.size)
  clear hk1 hga hgb hgc hra hrb hrc fa0 fa1 fb0 fb1 fc0 fc1 k2
  have hli := light_any _ (some ⟨w1.heap.size, 0, none⟩) 3 3 [⟨pa, Aa, ca⟩, ⟨pb, Ab, cb⟩, ⟨pc, Ac, cc⟩] rfl (by unfold maxLen; decide) hL (by
    intro q hq
    simp only [List.mem_cons, List.not_mem_nil, or_false] at hq
    rcases hq with rfl | rfl | rfl <;> assumption)
  clear hL
  obtain ⟨wl, hwl⟩ : ∃ w, w = w1.alloc (.cells #[.bool pa.nul, .slice Aa pa.cells.length ca, .bool pb.nul, .slice Ab pb.cells.length cb, .bool pc.nul, .slice Ac pc.cells.length cc] 25) := ⟨_, rfl⟩
  rw [← hwl] at hk2 hga2 hgb2 hgc2 hra2 hrb2 hrc2
  have hwl' := Lib.hid hwl
  clear hwl
  refine hli.mono ?_
  clear hli
  rintro e w2 ⟨h, hw⟩
  have hw' : w2 = wl := hw.trans hwl'.out.symm
  clear hw hwl'
  subst hw'
  rcases h with ⟨rfl, _, hl⟩ | rfl
  case inr =>
    go_wp2_with fail
    go_ret
    exact ⟨rfl, hk2.out⟩
  have hna : pa.cells.length ≤ 10 := (hl ⟨pa, Aa, ca⟩ (by simp)).1
  have hnb : pb.cells.length ≤ 10 := (hl ⟨pb, Ab, cb⟩ (by simp)).1
  have hnc : pc.cells.length ≤ 10 := (hl ⟨pc, Ac, cc⟩ (by simp)).1
  clear hl
  have fa0 := (hga2.out.fact 0 rfl).2
  have fa1 := (hga2.out.fact 1 rfl).2
  have fb0 := (hgb2.out.fact 0 rfl).2
  have fb1 := (hgb2.out.fact 1 rfl).2
  go_wp2_with fail
  have hL2 := PtsL.fresh w2 25 [⟨pa, Aa, ca⟩, ⟨pb, Ab, cb⟩] _ rfl (by
    intro q hq
    simp only [List.mem_cons, List.not_mem_nil, or_false] at hq
    rcases hq with rfl | rfl
    · exact ⟨hra2.out, hca⟩
    · exact ⟨hrb2.out, hcb⟩)
  have k3 := below_new w2 (.cells #[.bool pa.nul, .slice Aa pa.cells.length ca, .bool pb.nul, .slice Ab pb.cells.length cb] 25)
  clear fa0 fa1 fb0 fb1
  refine (join_two _ (A := some ⟨w2.heap.size, 0, none⟩) (c := 2) (p := pa) (q := pb) (L := [⟨pa, Aa, ca⟩, ⟨pb, Ab, cb⟩]) rfl hL2 (by omega) (by omega)).mono ?_
  rintro e w3 ⟨⟨v3, rfl, Ax, cx, rfl, hrx0, hcx⟩, hb3⟩
  have k4 := k3.trans (hb3.mono k3.size)
  have k5 := below_new w3 (.cells #[.bool (J2 pa pb).nul, .slice Ax (J2 pa pb).cells.length cx] 25)
  have k6 := k4.trans (k5.mono k4.size)
  have hk4 := Lib.hid (hk2.out.trans (k6.mono hk2.out.size))
  have hga3 := Lib.hid (hga2.out.below k6 hga2.out.lt)
  have hgb3 := Lib.hid (hgb2.out.below k6 hgb2.out.lt)
  have hgc3 := Lib.hid (hgc2.out.below k6 hgc2.out.lt)
  have hra3 := Lib.hid ((hra2.out.below k6).more k6.size)
  have hrb3 := Lib.hid ((hrb2.out.below k6).more k6.size)
  have hrc3 := Lib.hid ((hrc2.out.below k6).more k6.size)
  have hrx3 := Lib.hid ((hrx0.below k5).more k5.size)
  have hgx3 := Lib.hid (Holds.new w3 25 #[.bool (J2 pa pb).nul, .slice Ax (J2 pa pb).cells.length cx])
  clear k3 k4 k5 k6 hb3 hk2 hga2 hgb2 hgc2 hra2 hrb2 hrc2 hrx0 hL2
  go_wp2_with fail
  have hkz := Lib.hid hk4.out.size
  generalize w3.alloc (.cells #[.bool (J2 pa pb).nul, .slice Ax (J2 pa pb).cells.length cx] 25) = wr at *
  generalize w3.heap.size = gx at *
  generalize hgan0 : w0.heap.size = ga at *
  have hgan := Lib.hid hgan0
  clear hgan0
  generalize hgbn : ga + 1 = gb at *
  generalize hgcn : gb + 1 = gc at *
  have hga := hga3
  have hgb := hgb3
  have hgc := hgc3
  have hgx := hgx3
  have hra := hra3
  have hrb := hrb3
  have hrc := hrc3
  have hrx := hrx3
  clear hga3 hgb3 hgc3 hgx3 hra3 hrb3 hrc3 hrx3
  have hbc := Lib.hid hbc0
  clear hbc0
  have hac := Lib.hid hac0
  clear hac0
  -- THE REGION THAT DRAWS ITS ORDER, BY ONE LEXICAL WALK OVER GENERIC VALUES (written by relgen.py)
  refine wp_region_tab ((fun _ v => v = .agg #[.bool (Pz.nul (J2 pa pb)), .slice Ax (List.length (Pz.cells (J2 pa pb))) cx]) ::
    (fun _ v => v = .agg #[.bool (Pz.nul pb), .slice Ab (List.length (Pz.cells pb)) cb]) ::
    (fun _ v => v = .agg #[.bool (Pz.nul pa), .slice Aa (List.length (Pz.cells pa)) ca]) ::
    (fun w v => PLs w [pb, pa] v) ::
    (fun w v => PtsV w ((J2 pb pa)) v) ::
    (fun _ v => v = .bool true) ::
    (fun _ v => v = .bool false) ::
    (fun _ v => v = .bool false) ::
    (fun _ v => v = .agg #[.bool (Pz.nul (J2 pa pb)), .slice Ax (List.length (Pz.cells (J2 pa pb))) cx]) ::
    (fun _ v => v = .agg #[.bool (Pz.nul pc), .slice Ac (List.length (Pz.cells pc)) cc]) ::
    (fun w v => PLs w [(J2 pa pb), pc] v) ::
    (fun w v => PtsV w ((J2 (J2 pa pb) pc)) v) ::
    (fun _ v => v = .agg #[.bool (Pz.nul pa), .slice Aa (List.length (Pz.cells pa)) ca]) ::
    (fun _ v => v = .agg #[.bool (Pz.nul pb), .slice Ab (List.length (Pz.cells pb)) cb]) ::
    (fun _ v => v = .agg #[.bool (Pz.nul pc), .slice Ac (List.length (Pz.cells pc)) cc]) ::
    (fun w v => PLs w [pb, pc] v) ::
    (fun w v => PtsV w ((J2 pb pc)) v) ::
    (fun w v => PLs w [pa, (J2 pb pc)] v) ::
    (fun w v => PtsV w ((J2 pa (J2 pb pc))) v) ::
    (fun _ v => v = .bool true) ::
    (fun _ v => v = .bool false) ::
    (fun _ v => v = .bool false) ::
    (fun _ v => v = .bool false) ::
    (fun _ v => v = .agg #[.bool (Pz.nul pa), .slice Aa (List.length (Pz.cells pa)) ca]) ::
    (fun _ v => v = .agg #[.bool (Pz.nul (J2 pa pb)), .slice Ax (List.length (Pz.cells (J2 pa pb))) cx]) ::
    (fun _ v => v = .bool true) ::
    (fun _ v => v = .bool false) ::
    (fun _ v => v = .bool false) ::
    (fun _ v => v = .bool false) ::
    (fun _ v => v = .agg #[.bool (Pz.nul pb), .slice Ab (List.length (Pz.cells pb)) cb]) ::
    (fun _ v => v = .agg #[.bool (Pz.nul (J2 pa pb)), .slice Ax (List.length (Pz.cells (J2 pa pb))) cx]) ::
    (fun _ v => v = .bool true) ::
    (fun _ v => v = .bool false) ::
    (fun _ v => v = .bool false) ::
    (fun _ v => v = .bool false) ::
    (fun _ v => v = .agg #[.bool (Pz.nul pa), .slice Aa (List.length (Pz.cells pa)) ca]) ::
    (fun _ v => v = .agg #[.bool (Pz.nul pc), .slice Ac (List.length (Pz.cells pc)) cc]) ::
    (fun _ v => v = .bool true) ::
    (fun _ v => v = .bool true) ::
    (fun _ v => v = .agg #[.bool (Pz.nul pb), .slice Ab (List.length (Pz.cells pb)) cb]) ::
    (fun _ v => v = .agg #[.bool (Pz.nul pc), .slice Ac (List.length (Pz.cells pc)) cc]) ::
    (fun _ v => v = .bool true) ::
    (fun _ v => v = .bool true) ::
    (fun _ v => v = .bool true) ::
    (fun _ v => v = .agg #[.bool (Pz.nul (J2 pa pb)), .slice Ax (List.length (Pz.cells (J2 pa pb))) cx]) ::
    (fun _ v => v = .agg #[.bool (Pz.nul pc), .slice Ac (List.length (Pz.cells pc)) cc]) ::
    (fun _ v => v = .bool true) ::
    (fun _ v => v = .bool false) ::
    (fun _ v => v = .bool false) ::
    (fun _ v => v = .bool false) :: [])
    (⟨[(7, none)], 0, []⟩ :: ⟨[(4, none)], 0, []⟩ :: ⟨[(3, none)], 0, []⟩ :: ⟨[(21, some 1), (22, some 2)], 0, []⟩ :: ⟨[(23, some 3)], 0, []⟩ :: ⟨[(20, some 0), (24, some 4)], 0, []⟩ :: ⟨[(25, some 5)], 0, []⟩ :: ⟨[(26, some 6)], 0, []⟩ :: ⟨[(7, none), (27, some 7)], 27, []⟩ :: ⟨[(5, none), (27, some 7)], 27, []⟩ :: ⟨[(28, some 8), (29, some 9), (27, some 7)], 27, []⟩ :: ⟨[(30, some 10), (27, some 7)], 27, []⟩ :: ⟨[(3, none), (27, some 7)], 27, []⟩ :: ⟨[(4, none), (27, some 7)], 27, []⟩ :: ⟨[(5, none), (27, some 7)], 27, []⟩ :: ⟨[(33, some 13), (34, some 14), (27, some 7)], 27, []⟩ :: ⟨[(35, some 15), (27, some 7)], 27, []⟩ :: ⟨[(32, some 12), (36, some 16), (27, some 7)], 27, []⟩ :: ⟨[(37, some 17), (27, some 7)], 27, []⟩ :: ⟨[(31, some 11), (38, some 18), (27, some 7)], 27, []⟩ :: ⟨[(39, some 19), (27, some 7)], 27, []⟩ :: ⟨[(27, some 7), (40, some 20)], 0, []⟩ :: ⟨[(41, some 21)], 0, []⟩ :: ⟨[(3, none), (42, some 22)], 42, []⟩ :: ⟨[(7, none), (42, some 22)], 42, []⟩ :: ⟨[(43, some 23), (44, some 24), (42, some 22)], 42, []⟩ :: ⟨[(45, some 25), (42, some 22)], 42, []⟩ :: ⟨[(42, some 22), (46, some 26)], 0, []⟩ :: ⟨[(47, some 27)], 0, []⟩ :: ⟨[(4, none), (48, some 28)], 48, []⟩ :: ⟨[(7, none), (48, some 28)], 48, []⟩ :: ⟨[(49, some 29), (50, some 30), (48, some 28)], 48, []⟩ :: ⟨[(51, some 31), (48, some 28)], 48, []⟩ :: ⟨[(48, some 28), (52, some 32)], 0, []⟩ :: ⟨[(53, some 33)], 0, []⟩ :: ⟨[(3, none), (54, some 34)], 54, []⟩ :: ⟨[(5, none), (54, some 34)], 54, []⟩ :: ⟨[(55, some 35), (56, some 36), (54, some 34)], 54, []⟩ :: ⟨[(57, some 37), (54, some 34)], 54, []⟩ :: ⟨[(4, none), (58, some 38)], 58, []⟩ :: ⟨[(5, none), (58, some 38)], 58, []⟩ :: ⟨[(59, some 39), (60, some 40), (58, some 38)], 58, []⟩ :: ⟨[(58, some 38), (61, some 41), (54, some 34)], 54, []⟩ :: ⟨[(62, some 42), (54, some 34)], 54, []⟩ :: ⟨[(7, none), (63, some 43)], 63, []⟩ :: ⟨[(5, none), (63, some 43)], 63, []⟩ :: ⟨[(64, some 44), (65, some 45), (63, some 43)], 63, []⟩ :: ⟨[(66, some 46), (63, some 43)], 63, []⟩ :: ⟨[(63, some 43), (67, some 47), (54, some 34)], 54, []⟩ :: ⟨[(54, some 34), (68, some 48)], 0, []⟩ :: [])
    (none :: none :: none :: none :: none :: none :: none :: none :: none :: none :: none :: none :: none :: none :: none :: none :: none :: none :: none :: none :: some 0 :: some 1 :: some 2 :: some 3 :: some 4 :: some 5 :: some 6 :: some 7 :: some 8 :: some 9 :: some 10 :: some 11 :: some 12 :: some 13 :: some 14 :: some 15 :: some 16 :: some 17 :: some 18 :: some 19 :: some 20 :: some 21 :: some 22 :: some 23 :: some 24 :: some 25 :: some 26 :: some 27 :: some 28 :: some 29 :: some 30 :: some 31 :: some 32 :: some 33 :: some 34 :: some 35 :: some 36 :: some 37 :: some 38 :: some 39 :: some 40 :: some 41 :: some 42 :: some 43 :: some 44 :: some 45 :: some 46 :: some 47 :: some 48 :: some 49 :: [])
    (fun _ w' => Below wr.heap.size wr w') (fun _ w w' => Below w.heap.size w w') ?mixK6lat6tt ?okK6lat6tt ?tabK6lat6tt ?frK6lat6tt ?inK6lat6tt ?keptK6lat6tt ?startK6lat6tt ?eachK6lat6tt ?finK6lat6tt
  case mixK6lat6tt => kernel_rfl
  case okK6lat6tt => kernel_rfl
  case tabK6lat6tt => kernel_rfl
  case frK6lat6tt => kernel_rfl
  case inK6lat6tt => rfl
  case keptK6lat6tt => exact ⟨fun _ _ _ _ _ _ _ h => h, fun _ _ _ _ _ _ _ h => h, fun _ _ _ _ _ _ _ h => h, fun _ _ _ => fun w w' v hG h => h.up hG, fun _ _ _ => fun w w' v hG h => h.up hG, fun _ _ _ _ _ _ _ h => h, fun _ _ _ _ _ _ _ h => h, fun _ _ _ _ _ _ _ h => h, fun _ _ _ _ _ _ _ h => h, fun _ _ _ _ _ _ _ h => h, fun _ _ _ => fun w w' v hG h => h.up hG, fun _ _ _ => fun w w' v hG h => h.up hG, fun _ _ _ _ _ _ _ h => h, fun _ _ _ _ _ _ _ h => h, fun _ _ _ _ _ _ _ h => h, fun _ _ _ => fun w w' v hG h => h.up hG, fun _ _ _ => fun w w' v hG h => h.up hG, fun _ _ _ => fun w w' v hG h => h.up hG, fun _ _ _ => fun w w' v hG h => h.up hG, fun _ _ _ _ _ _ _ h => h, fun _ _ _ _ _ _ _ h => h, fun _ _ _ _ _ _ _ h => h, fun _ _ _ _ _ _ _ h => h, fun _ _ _ _ _ _ _ h => h, fun _ _ _ _ _ _ _ h => h, fun _ _ _ _ _ _ _ h => h, fun _ _ _ _ _ _ _ h => h, fun _ _ _ _ _ _ _ h => h, fun _ _ _ _ _ _ _ h => h, fun _ _ _ _ _ _ _ h => h, fun _ _ _ _ _ _ _ h => h, fun _ _ _ _ _ _ _ h => h, fun _ _ _ _ _ _ _ h => h, fun _ _ _ _ _ _ _ h => h, fun _ _ _ _ _ _ _ h => h, fun _ _ _ _ _ _ _ h => h, fun _ _ _ _ _ _ _ h => h, fun _ _ _ _ _ _ _ h => h, fun _ _ _ _ _ _ _ h => h, fun _ _ _ _ _ _ _ h => h, fun _ _ _ _ _ _ _ h => h, fun _ _ _ _ _ _ _ h => h, fun _ _ _ _ _ _ _ h => h, fun _ _ _ _ _ _ _ h => h, fun _ _ _ _ _ _ _ h => h, fun _ _ _ _ _ _ _ h => h, fun _ _ _ _ _ _ _ h => h, fun _ _ _ _ _ _ _ h => h, fun _ _ _ _ _ _ _ h => h, fun _ _ _ _ _ _ _ h => h, trivial⟩
  case startK6lat6tt => exact (Below.refl _ _).drew
  case eachK6lat6tt =>
    refine ⟨?_, ?_, ?_, ?_, ?_, ?_, ?_, ?_, ?_, ?_, ?_, ?_, ?_, ?_, ?_, ?_, ?_, ?_, ?_, ?_, ?_, ?_, ?_, ?_, ?_, ?_, ?_, ?_, ?_, ?_, ?_, ?_, ?_, ?_, ?_, ?_, ?_, ?_, ?_, ?_, ?_, ?_, ?_, ?_, ?_, ?_, ?_, ?_, ?_, ?_, trivial⟩
    -- 0: slot 20 := load 25 t7
    · intro w L f hC hLi hLd hLn hF
      obtain ⟨d7, _⟩ := hF
      have d7 : f 7 = .pointer (some ⟨gx, 0, none⟩) := d7
      refine Step2.live rfl ?_
      have hh := hgx.out.below hC hgx.out.lt
      have f0 := (hh.fact 0 rfl).2
      have f1 := (hh.fact 1 rfl).2
      have ev : ∀ t, evalOf f (.tmp t) = f t := fun _ => rfl
      have ec : ∀ c, evalOf f (.const c) = c := fun _ => rfl
      have ef : ∀ g, evalOf f (.func g) = .func (.func g) #[] #[] := fun _ => rfl
      refine relUpon_value ?_ hC (Below.refl _ _) rfl
      go_simp
    -- 1: slot 21 := load 25 t4
    · intro w L f hC hLi hLd hLn hF
      obtain ⟨d4, _⟩ := hF
      have d4 : f 4 = .pointer (some ⟨gb, 0, none⟩) := d4
      refine Step2.live rfl ?_
      have hh := hgb.out.below hC hgb.out.lt
      have f0 := (hh.fact 0 rfl).2
      have f1 := (hh.fact 1 rfl).2
      have ev : ∀ t, evalOf f (.tmp t) = f t := fun _ => rfl
      have ec : ∀ c, evalOf f (.const c) = c := fun _ => rfl
      have ef : ∀ g, evalOf f (.func g) = .func (.func g) #[] #[] := fun _ => rfl
      refine relUpon_value ?_ hC (Below.refl _ _) rfl
      go_simp
    -- 2: slot 22 := load 25 t3
    · intro w L f hC hLi hLd hLn hF
      obtain ⟨d3, _⟩ := hF
      have d3 : f 3 = .pointer (some ⟨ga, 0, none⟩) := d3
      refine Step2.live rfl ?_
      have hh := hga.out.below hC hga.out.lt
      have f0 := (hh.fact 0 rfl).2
      have f1 := (hh.fact 1 rfl).2
      have ev : ∀ t, evalOf f (.tmp t) = f t := fun _ => rfl
      have ec : ∀ c, evalOf f (.const c) = c := fun _ => rfl
      have ef : ∀ g, evalOf f (.func g) = .func (.func g) #[] #[] := fun _ => rfl
      refine relUpon_value ?_ hC (Below.refl _ _) rfl
      go_simp
    -- 3: slot 23 := buildSlice 22 2 #[(0, t21), (1, t22)]
    · intro w L f hC hLi hLd hLn hF
      obtain ⟨d21, d22, _⟩ := hF
      have d21 : f 21 = .agg #[.bool (Pz.nul pb), .slice Ab (List.length (Pz.cells pb)) cb] := d21
      have d22 : f 22 = .agg #[.bool (Pz.nul pa), .slice Aa (List.length (Pz.cells pa)) ca] := d22
      refine Step2.live rfl ?_
      have hbn := below_new w (.cells #[.bool (Pz.nul pb), .slice Ab (List.length (Pz.cells pb)) cb, .bool (Pz.nul pa), .slice Aa (List.length (Pz.cells pa)) ca] 25)
      have ev : ∀ t, evalOf f (.tmp t) = f t := fun _ => rfl
      have ec : ∀ c, evalOf f (.const c) = c := fun _ => rfl
      have ef : ∀ g, evalOf f (.func g) = .func (.func g) #[] #[] := fun _ => rfl
      refine relUpon_value (w' := w.alloc (.cells #[.bool (Pz.nul pb), .slice Ab (List.length (Pz.cells pb)) cb, .bool (Pz.nul pa), .slice Aa (List.length (Pz.cells pa)) ca] 25)) (v := .slice (some ⟨w.heap.size, 0, none⟩) 2 2) (by go_simp) (hC.trans (hbn.mono hC.size)) hbn (PLs.two w 25 ((hrb.out.below hC).more hC.size) hcb ((hra.out.below hC).more hC.size) hca)
    -- 4: slot 24 := call { value (Operand.func 11), args := #[t23], argTypes := #[22] }
    · intro w L f hC hLi hLd hLn hF
      obtain ⟨d23, _⟩ := hF
      refine Step2.live rfl ?_
      obtain ⟨A23, c23, L23, e23, hl23, hp23⟩ := d23
      have ev : ∀ t, evalOf f (.tmp t) = f t := fun _ => rfl
      have ec : ∀ c, evalOf f (.const c) = c := fun _ => rfl
      have ef : ∀ g, evalOf f (.func g) = .func (.func g) #[] #[] := fun _ => rfl
      refine relUpon_call (f := 11) (args := #[.slice A23 2 c23]) (w := w) (by go_simp) (join_two w hl23 hp23 (by have := J2_len pa pb; have := J2_len (J2 pa pb) pc; have := J2_len pb pc; have := J2_len pa (J2 pb pc); have := J2_len pb pa; omega) (by have := J2_len pa pb; have := J2_len (J2 pa pb) pc; have := J2_len pb pc; have := J2_len pa (J2 pb pc); have := J2_len pb pa; omega)) ?_
      rintro e w1 ⟨⟨v, he, hv⟩, hB⟩
      exact ⟨_, he, hC.trans (hB.mono hC.size), hB, hv⟩
    -- 5: slot 25 := call { value (Operand.func 10), args := #[t20, t24], argTypes := #[25, 25] }
    · intro w L f hC hLi hLd hLn hF
      obtain ⟨d20, d24, _⟩ := hF
      have d20 : f 20 = .agg #[.bool (Pz.nul (J2 pa pb)), .slice Ax (List.length (Pz.cells (J2 pa pb))) cx] := d20
      refine Step2.live rfl ?_
      obtain ⟨A24, c24, e24, hr24, hc24⟩ := d24
      have ev : ∀ t, evalOf f (.tmp t) = f t := fun _ => rfl
      have ec : ∀ c, evalOf f (.const c) = c := fun _ => rfl
      have ef : ∀ g, evalOf f (.func g) = .func (.func g) #[] #[] := fun _ => rfl
      refine relUpon_call (f := 10) (args := #[.agg #[.bool (Pz.nul (J2 pa pb)), .slice Ax (List.length (Pz.cells (J2 pa pb))) cx], .agg #[.bool (Pz.nul (J2 pb pa)), .slice A24 (List.length (Pz.cells (J2 pb pa))) c24]]) (w := w) (by go_simp) (ptsEq_any w (J2 pa pb) (J2 pb pa) _ _ ⟨_, _, rfl, ((hrx.out.below hC).more hC.size), hcx⟩ ⟨_, _, rfl, hr24, hc24⟩ (by have := J2_len pa pb; have := J2_len (J2 pa pb) pc; have := J2_len pb pc; have := J2_len pa (J2 pb pc); have := J2_len pb pa; omega) (by have := J2_len pa pb; have := J2_len (J2 pa pb) pc; have := J2_len pb pc; have := J2_len pa (J2 pb pc); have := J2_len pb pa; omega)) ?_
      rintro e w1 ⟨he, hB⟩
      exact ⟨_, he, hC.trans (hB.mono hC.size), hB, congrArg Value.bool (by rw [J2_comm pb pa]; exact sameP_rfl _)⟩
    -- 6: slot 26 := unOp UnOp.not 4 t25
    · intro w L f hC hLi hLd hLn hF
      obtain ⟨d25, _⟩ := hF
      have d25 : f 25 = .bool true := d25
      refine Step2.live rfl ?_
      have ev : ∀ t, evalOf f (.tmp t) = f t := fun _ => rfl
      have ec : ∀ c, evalOf f (.const c) = c := fun _ => rfl
      refine relUpon_value ?_ (hC) (Below.refl _ _) rfl
      go_simp
    -- 7: slot 27 := move t26
    · intro w L f hC hLi hLd hLn hF
      obtain ⟨d26, _⟩ := hF
      have d26 : f 26 = .bool false := d26
      refine Step2.live rfl ?_
      exact relUpon_value (v := f 26) rfl (hC) (Below.refl _ _) d26
    -- 8: slot 28 := load 25 t7
    · intro w L f hC hLi hLd hLn hF
      obtain ⟨d7, d27, _⟩ := hF
      have d7 : f 7 = .pointer (some ⟨gx, 0, none⟩) := d7
      have d27 : f 27 = .bool false := d27
      refine Step2.live (show wantedBy _ (f 27) = true by rw [d27]; rfl) ?_
      have hh := hgx.out.below hC hgx.out.lt
      have f0 := (hh.fact 0 rfl).2
      have f1 := (hh.fact 1 rfl).2
      have ev : ∀ t, evalOf f (.tmp t) = f t := fun _ => rfl
      have ec : ∀ c, evalOf f (.const c) = c := fun _ => rfl
      have ef : ∀ g, evalOf f (.func g) = .func (.func g) #[] #[] := fun _ => rfl
      refine relUpon_value ?_ hC (Below.refl _ _) rfl
      go_simp
    -- 9: slot 29 := load 25 t5
    · intro w L f hC hLi hLd hLn hF
      obtain ⟨d5, d27, _⟩ := hF
      have d5 : f 5 = .pointer (some ⟨gc, 0, none⟩) := d5
      have d27 : f 27 = .bool false := d27
      refine Step2.live (show wantedBy _ (f 27) = true by rw [d27]; rfl) ?_
      have hh := hgc.out.below hC hgc.out.lt
      have f0 := (hh.fact 0 rfl).2
      have f1 := (hh.fact 1 rfl).2
      have ev : ∀ t, evalOf f (.tmp t) = f t := fun _ => rfl
      have ec : ∀ c, evalOf f (.const c) = c := fun _ => rfl
      have ef : ∀ g, evalOf f (.func g) = .func (.func g) #[] #[] := fun _ => rfl
      refine relUpon_value ?_ hC (Below.refl _ _) rfl
      go_simp
    -- 10: slot 30 := buildSlice 22 2 #[(0, t28), (1, t29)]
    · intro w L f hC hLi hLd hLn hF
      obtain ⟨d28, d29, d27, _⟩ := hF
      have d28 : f 28 = .agg #[.bool (Pz.nul (J2 pa pb)), .slice Ax (List.length (Pz.cells (J2 pa pb))) cx] := d28
      have d29 : f 29 = .agg #[.bool (Pz.nul pc), .slice Ac (List.length (Pz.cells pc)) cc] := d29
      have d27 : f 27 = .bool false := d27
      refine Step2.live (show wantedBy _ (f 27) = true by rw [d27]; rfl) ?_
      have hbn := below_new w (.cells #[.bool (Pz.nul (J2 pa pb)), .slice Ax (List.length (Pz.cells (J2 pa pb))) cx, .bool (Pz.nul pc), .slice Ac (List.length (Pz.cells pc)) cc] 25)
      have ev : ∀ t, evalOf f (.tmp t) = f t := fun _ => rfl
      have ec : ∀ c, evalOf f (.const c) = c := fun _ => rfl
      have ef : ∀ g, evalOf f (.func g) = .func (.func g) #[] #[] := fun _ => rfl
      refine relUpon_value (w' := w.alloc (.cells #[.bool (Pz.nul (J2 pa pb)), .slice Ax (List.length (Pz.cells (J2 pa pb))) cx, .bool (Pz.nul pc), .slice Ac (List.length (Pz.cells pc)) cc] 25)) (v := .slice (some ⟨w.heap.size, 0, none⟩) 2 2) (by go_simp) (hC.trans (hbn.mono hC.size)) hbn (PLs.two w 25 ((hrx.out.below hC).more hC.size) hcx ((hrc.out.below hC).more hC.size) hcc)
    -- 11: slot 31 := call { value (Operand.func 11), args := #[t30], argTypes := #[22] }
    · intro w L f hC hLi hLd hLn hF
      obtain ⟨d30, d27, _⟩ := hF
      have d27 : f 27 = .bool false := d27
      refine Step2.live (show wantedBy _ (f 27) = true by rw [d27]; rfl) ?_
      obtain ⟨A30, c30, L30, e30, hl30, hp30⟩ := d30
      have ev : ∀ t, evalOf f (.tmp t) = f t := fun _ => rfl
      have ec : ∀ c, evalOf f (.const c) = c := fun _ => rfl
      have ef : ∀ g, evalOf f (.func g) = .func (.func g) #[] #[] := fun _ => rfl
      refine relUpon_call (f := 11) (args := #[.slice A30 2 c30]) (w := w) (by go_simp) (join_two w hl30 hp30 (by have := J2_len pa pb; have := J2_len (J2 pa pb) pc; have := J2_len pb pc; have := J2_len pa (J2 pb pc); have := J2_len pb pa; omega) (by have := J2_len pa pb; have := J2_len (J2 pa pb) pc; have := J2_len pb pc; have := J2_len pa (J2 pb pc); have := J2_len pb pa; omega)) ?_
      rintro e w1 ⟨⟨v, he, hv⟩, hB⟩
      exact ⟨_, he, hC.trans (hB.mono hC.size), hB, hv⟩
    -- 12: slot 32 := load 25 t3
    · intro w L f hC hLi hLd hLn hF
      obtain ⟨d3, d27, _⟩ := hF
      have d3 : f 3 = .pointer (some ⟨ga, 0, none⟩) := d3
      have d27 : f 27 = .bool false := d27
      refine Step2.live (show wantedBy _ (f 27) = true by rw [d27]; rfl) ?_
      have hh := hga.out.below hC hga.out.lt
      have f0 := (hh.fact 0 rfl).2
      have f1 := (hh.fact 1 rfl).2
      have ev : ∀ t, evalOf f (.tmp t) = f t := fun _ => rfl
      have ec : ∀ c, evalOf f (.const c) = c := fun _ => rfl
      have ef : ∀ g, evalOf f (.func g) = .func (.func g) #[] #[] := fun _ => rfl
      refine relUpon_value ?_ hC (Below.refl _ _) rfl
      go_simp
    -- 13: slot 33 := load 25 t4
    · intro w L f hC hLi hLd hLn hF
      obtain ⟨d4, d27, _⟩ := hF
      have d4 : f 4 = .pointer (some ⟨gb, 0, none⟩) := d4
      have d27 : f 27 = .bool false := d27
      refine Step2.live (show wantedBy _ (f 27) = true by rw [d27]; rfl) ?_
      have hh := hgb.out.below hC hgb.out.lt
      have f0 := (hh.fact 0 rfl).2
      have f1 := (hh.fact 1 rfl).2
      have ev : ∀ t, evalOf f (.tmp t) = f t := fun _ => rfl
      have ec : ∀ c, evalOf f (.const c) = c := fun _ => rfl
      have ef : ∀ g, evalOf f (.func g) = .func (.func g) #[] #[] := fun _ => rfl
      refine relUpon_value ?_ hC (Below.refl _ _) rfl
      go_simp
    -- 14: slot 34 := load 25 t5
    · intro w L f hC hLi hLd hLn hF
      obtain ⟨d5, d27, _⟩ := hF
      have d5 : f 5 = .pointer (some ⟨gc, 0, none⟩) := d5
      have d27 : f 27 = .bool false := d27
      refine Step2.live (show wantedBy _ (f 27) = true by rw [d27]; rfl) ?_
      have hh := hgc.out.below hC hgc.out.lt
      have f0 := (hh.fact 0 rfl).2
      have f1 := (hh.fact 1 rfl).2
      have ev : ∀ t, evalOf f (.tmp t) = f t := fun _ => rfl
      have ec : ∀ c, evalOf f (.const c) = c := fun _ => rfl
      have ef : ∀ g, evalOf f (.func g) = .func (.func g) #[] #[] := fun _ => rfl
      refine relUpon_value ?_ hC (Below.refl _ _) rfl
      go_simp
    -- 15: slot 35 := buildSlice 22 2 #[(0, t33), (1, t34)]
    · intro w L f hC hLi hLd hLn hF
      obtain ⟨d33, d34, d27, _⟩ := hF
      have d33 : f 33 = .agg #[.bool (Pz.nul pb), .slice Ab (List.length (Pz.cells pb)) cb] := d33
      have d34 : f 34 = .agg #[.bool (Pz.nul pc), .slice Ac (List.length (Pz.cells pc)) cc] := d34
      have d27 : f 27 = .bool false := d27
      refine Step2.live (show wantedBy _ (f 27) = true by rw [d27]; rfl) ?_
      have hbn := below_new w (.cells #[.bool (Pz.nul pb), .slice Ab (List.length (Pz.cells pb)) cb, .bool (Pz.nul pc), .slice Ac (List.length (Pz.cells pc)) cc] 25)
      have ev : ∀ t, evalOf f (.tmp t) = f t := fun _ => rfl
      have ec : ∀ c, evalOf f (.const c) = c := fun _ => rfl
      have ef : ∀ g, evalOf f (.func g) = .func (.func g) #[] #[] := fun _ => rfl
      refine relUpon_value (w' := w.alloc (.cells #[.bool (Pz.nul pb), .slice Ab (List.length (Pz.cells pb)) cb, .bool (Pz.nul pc), .slice Ac (List.length (Pz.cells pc)) cc] 25)) (v := .slice (some ⟨w.heap.size, 0, none⟩) 2 2) (by go_simp) (hC.trans (hbn.mono hC.size)) hbn (PLs.two w 25 ((hrb.out.below hC).more hC.size) hcb ((hrc.out.below hC).more hC.size) hcc)
    -- 16: slot 36 := call { value (Operand.func 11), args := #[t35], argTypes := #[22] }
    · intro w L f hC hLi hLd hLn hF
      obtain ⟨d35, d27, _⟩ := hF
      have d27 : f 27 = .bool false := d27
      refine Step2.live (show wantedBy _ (f 27) = true by rw [d27]; rfl) ?_
      obtain ⟨A35, c35, L35, e35, hl35, hp35⟩ := d35
      have ev : ∀ t, evalOf f (.tmp t) = f t := fun _ => rfl
      have ec : ∀ c, evalOf f (.const c) = c := fun _ => rfl
      have ef : ∀ g, evalOf f (.func g) = .func (.func g) #[] #[] := fun _ => rfl
      refine relUpon_call (f := 11) (args := #[.slice A35 2 c35]) (w := w) (by go_simp) (join_two w hl35 hp35 (by have := J2_len pa pb; have := J2_len (J2 pa pb) pc; have := J2_len pb pc; have := J2_len pa (J2 pb pc); have := J2_len pb pa; omega) (by have := J2_len pa pb; have := J2_len (J2 pa pb) pc; have := J2_len pb pc; have := J2_len pa (J2 pb pc); have := J2_len pb pa; omega)) ?_
      rintro e w1 ⟨⟨v, he, hv⟩, hB⟩
      exact ⟨_, he, hC.trans (hB.mono hC.size), hB, hv⟩
    -- 17: slot 37 := buildSlice 22 2 #[(0, t32), (1, t36)]
    · intro w L f hC hLi hLd hLn hF
      obtain ⟨d32, d36, d27, _⟩ := hF
      have d32 : f 32 = .agg #[.bool (Pz.nul pa), .slice Aa (List.length (Pz.cells pa)) ca] := d32
      have d27 : f 27 = .bool false := d27
      refine Step2.live (show wantedBy _ (f 27) = true by rw [d27]; rfl) ?_
      obtain ⟨A36, c36, e36, hr36, hc36⟩ := d36
      have hbn := below_new w (.cells #[.bool (Pz.nul pa), .slice Aa (List.length (Pz.cells pa)) ca, .bool (Pz.nul (J2 pb pc)), .slice A36 (List.length (Pz.cells (J2 pb pc))) c36] 25)
      have ev : ∀ t, evalOf f (.tmp t) = f t := fun _ => rfl
      have ec : ∀ c, evalOf f (.const c) = c := fun _ => rfl
      have ef : ∀ g, evalOf f (.func g) = .func (.func g) #[] #[] := fun _ => rfl
      refine relUpon_value (w' := w.alloc (.cells #[.bool (Pz.nul pa), .slice Aa (List.length (Pz.cells pa)) ca, .bool (Pz.nul (J2 pb pc)), .slice A36 (List.length (Pz.cells (J2 pb pc))) c36] 25)) (v := .slice (some ⟨w.heap.size, 0, none⟩) 2 2) (by go_simp) (hC.trans (hbn.mono hC.size)) hbn (PLs.two w 25 ((hra.out.below hC).more hC.size) hca hr36 hc36)
    -- 18: slot 38 := call { value (Operand.func 11), args := #[t37], argTypes := #[22] }
    · intro w L f hC hLi hLd hLn hF
      obtain ⟨d37, d27, _⟩ := hF
      have d27 : f 27 = .bool false := d27
      refine Step2.live (show wantedBy _ (f 27) = true by rw [d27]; rfl) ?_
      obtain ⟨A37, c37, L37, e37, hl37, hp37⟩ := d37
      have ev : ∀ t, evalOf f (.tmp t) = f t := fun _ => rfl
      have ec : ∀ c, evalOf f (.const c) = c := fun _ => rfl
      have ef : ∀ g, evalOf f (.func g) = .func (.func g) #[] #[] := fun _ => rfl
      refine relUpon_call (f := 11) (args := #[.slice A37 2 c37]) (w := w) (by go_simp) (join_two w hl37 hp37 (by have := J2_len pa pb; have := J2_len (J2 pa pb) pc; have := J2_len pb pc; have := J2_len pa (J2 pb pc); have := J2_len pb pa; omega) (by have := J2_len pa pb; have := J2_len (J2 pa pb) pc; have := J2_len pb pc; have := J2_len pa (J2 pb pc); have := J2_len pb pa; omega)) ?_
      rintro e w1 ⟨⟨v, he, hv⟩, hB⟩
      exact ⟨_, he, hC.trans (hB.mono hC.size), hB, hv⟩
    -- 19: slot 39 := call { value (Operand.func 10), args := #[t31, t38], argTypes := #[25, 25] }
    · intro w L f hC hLi hLd hLn hF
      obtain ⟨d31, d38, d27, _⟩ := hF
      have d27 : f 27 = .bool false := d27
      refine Step2.live (show wantedBy _ (f 27) = true by rw [d27]; rfl) ?_
      obtain ⟨A31, c31, e31, hr31, hc31⟩ := d31
      obtain ⟨A38, c38, e38, hr38, hc38⟩ := d38
      have ev : ∀ t, evalOf f (.tmp t) = f t := fun _ => rfl
      have ec : ∀ c, evalOf f (.const c) = c := fun _ => rfl
      have ef : ∀ g, evalOf f (.func g) = .func (.func g) #[] #[] := fun _ => rfl
      refine relUpon_call (f := 10) (args := #[.agg #[.bool (Pz.nul (J2 (J2 pa pb) pc)), .slice A31 (List.length (Pz.cells (J2 (J2 pa pb) pc))) c31], .agg #[.bool (Pz.nul (J2 pa (J2 pb pc))), .slice A38 (List.length (Pz.cells (J2 pa (J2 pb pc)))) c38]]) (w := w) (by go_simp) (ptsEq_any w (J2 (J2 pa pb) pc) (J2 pa (J2 pb pc)) _ _ ⟨_, _, rfl, hr31, hc31⟩ ⟨_, _, rfl, hr38, hc38⟩ (by have := J2_len pa pb; have := J2_len (J2 pa pb) pc; have := J2_len pb pc; have := J2_len pa (J2 pb pc); have := J2_len pb pa; omega) (by have := J2_len pa pb; have := J2_len (J2 pa pb) pc; have := J2_len pb pc; have := J2_len pa (J2 pb pc); have := J2_len pb pa; omega)) ?_
      rintro e w1 ⟨he, hB⟩
      exact ⟨_, he, hC.trans (hB.mono hC.size), hB, congrArg Value.bool (by rw [J2_assoc]; exact sameP_rfl _)⟩
    -- 20: slot 40 := unOp UnOp.not 4 t39
    · intro w L f hC hLi hLd hLn hF
      obtain ⟨d39, d27, _⟩ := hF
      have d39 : f 39 = .bool true := d39
      have d27 : f 27 = .bool false := d27
      refine Step2.live (show wantedBy _ (f 27) = true by rw [d27]; rfl) ?_
      have ev : ∀ t, evalOf f (.tmp t) = f t := fun _ => rfl
      have ec : ∀ c, evalOf f (.const c) = c := fun _ => rfl
      refine relUpon_value ?_ (hC) (Below.refl _ _) rfl
      go_simp
    -- 21: slot 41 := pick t27 (const (Value.bool true)) t40
    · intro w L f hC hLi hLd hLn hF
      obtain ⟨d27, d40, _⟩ := hF
      have d27 : f 27 = .bool false := d27
      have d40 : f 40 = .bool false := d40
      refine Step2.live rfl ?_
      have ev : ∀ t, evalOf f (.tmp t) = f t := fun _ => rfl
      have ec : ∀ c, evalOf f (.const c) = c := fun _ => rfl
      refine relUpon_value ?_ (hC) (Below.refl _ _) rfl
      go_simp
    -- 22: slot 42 := move t41
    · intro w L f hC hLi hLd hLn hF
      obtain ⟨d41, _⟩ := hF
      have d41 : f 41 = .bool false := d41
      refine Step2.live rfl ?_
      exact relUpon_value (v := f 41) rfl (hC) (Below.refl _ _) d41
    -- 23: slot 43 := load 25 t3
    · intro w L f hC hLi hLd hLn hF
      obtain ⟨d3, d42, _⟩ := hF
      have d3 : f 3 = .pointer (some ⟨ga, 0, none⟩) := d3
      have d42 : f 42 = .bool false := d42
      refine Step2.live (show wantedBy _ (f 42) = true by rw [d42]; rfl) ?_
      have hh := hga.out.below hC hga.out.lt
      have f0 := (hh.fact 0 rfl).2
      have f1 := (hh.fact 1 rfl).2
      have ev : ∀ t, evalOf f (.tmp t) = f t := fun _ => rfl
      have ec : ∀ c, evalOf f (.const c) = c := fun _ => rfl
      have ef : ∀ g, evalOf f (.func g) = .func (.func g) #[] #[] := fun _ => rfl
      refine relUpon_value ?_ hC (Below.refl _ _) rfl
      go_simp
    -- 24: slot 44 := load 25 t7
    · intro w L f hC hLi hLd hLn hF
      obtain ⟨d7, d42, _⟩ := hF
      have d7 : f 7 = .pointer (some ⟨gx, 0, none⟩) := d7
      have d42 : f 42 = .bool false := d42
      refine Step2.live (show wantedBy _ (f 42) = true by rw [d42]; rfl) ?_
      have hh := hgx.out.below hC hgx.out.lt
      have f0 := (hh.fact 0 rfl).2
      have f1 := (hh.fact 1 rfl).2
      have ev : ∀ t, evalOf f (.tmp t) = f t := fun _ => rfl
      have ec : ∀ c, evalOf f (.const c) = c := fun _ => rfl
      have ef : ∀ g, evalOf f (.func g) = .func (.func g) #[] #[] := fun _ => rfl
      refine relUpon_value ?_ hC (Below.refl _ _) rfl
      go_simp
    -- 25: slot 45 := call { value (Operand.func 13), args := #[t43, t44], argTypes := #[25, 25] }
    · intro w L f hC hLi hLd hLn hF
      obtain ⟨d43, d44, d42, _⟩ := hF
      have d43 : f 43 = .agg #[.bool (Pz.nul pa), .slice Aa (List.length (Pz.cells pa)) ca] := d43
      have d44 : f 44 = .agg #[.bool (Pz.nul (J2 pa pb)), .slice Ax (List.length (Pz.cells (J2 pa pb))) cx] := d44
      have d42 : f 42 = .bool false := d42
      refine Step2.live (show wantedBy _ (f 42) = true by rw [d42]; rfl) ?_
      have ev : ∀ t, evalOf f (.tmp t) = f t := fun _ => rfl
      have ec : ∀ c, evalOf f (.const c) = c := fun _ => rfl
      have ef : ∀ g, evalOf f (.func g) = .func (.func g) #[] #[] := fun _ => rfl
      refine relUpon_call (f := 13) (args := #[.agg #[.bool (Pz.nul pa), .slice Aa (List.length (Pz.cells pa)) ca], .agg #[.bool (Pz.nul (J2 pa pb)), .slice Ax (List.length (Pz.cells (J2 pa pb))) cx]]) (w := w) (by go_simp) (leq_any w pa (J2 pa pb) _ _ ⟨_, _, rfl, ((hra.out.below hC).more hC.size), hca⟩ ⟨_, _, rfl, ((hrx.out.below hC).more hC.size), hcx⟩ (by have := J2_len pa pb; have := J2_len (J2 pa pb) pc; have := J2_len pb pc; have := J2_len pa (J2 pb pc); have := J2_len pb pa; omega) (by have := J2_len pa pb; have := J2_len (J2 pa pb) pc; have := J2_len pb pc; have := J2_len pa (J2 pb pc); have := J2_len pb pa; omega)) ?_
      rintro e w1 ⟨he, hB⟩
      exact ⟨_, he, hC.trans (hB.mono hC.size), hB, congrArg Value.bool (leq_left pa pb)⟩
    -- 26: slot 46 := unOp UnOp.not 4 t45
    · intro w L f hC hLi hLd hLn hF
      obtain ⟨d45, d42, _⟩ := hF
      have d45 : f 45 = .bool true := d45
      have d42 : f 42 = .bool false := d42
      refine Step2.live (show wantedBy _ (f 42) = true by rw [d42]; rfl) ?_
      have ev : ∀ t, evalOf f (.tmp t) = f t := fun _ => rfl
      have ec : ∀ c, evalOf f (.const c) = c := fun _ => rfl
      refine relUpon_value ?_ (hC) (Below.refl _ _) rfl
      go_simp
    -- 27: slot 47 := pick t42 (const (Value.bool true)) t46
    · intro w L f hC hLi hLd hLn hF
      obtain ⟨d42, d46, _⟩ := hF
      have d42 : f 42 = .bool false := d42
      have d46 : f 46 = .bool false := d46
      refine Step2.live rfl ?_
      have ev : ∀ t, evalOf f (.tmp t) = f t := fun _ => rfl
      have ec : ∀ c, evalOf f (.const c) = c := fun _ => rfl
      refine relUpon_value ?_ (hC) (Below.refl _ _) rfl
      go_simp
    -- 28: slot 48 := move t47
    · intro w L f hC hLi hLd hLn hF
      obtain ⟨d47, _⟩ := hF
      have d47 : f 47 = .bool false := d47
      refine Step2.live rfl ?_
      exact relUpon_value (v := f 47) rfl (hC) (Below.refl _ _) d47
    -- 29: slot 49 := load 25 t4
    · intro w L f hC hLi hLd hLn hF
      obtain ⟨d4, d48, _⟩ := hF
      have d4 : f 4 = .pointer (some ⟨gb, 0, none⟩) := d4
      have d48 : f 48 = .bool false := d48
      refine Step2.live (show wantedBy _ (f 48) = true by rw [d48]; rfl) ?_
      have hh := hgb.out.below hC hgb.out.lt
      have f0 := (hh.fact 0 rfl).2
      have f1 := (hh.fact 1 rfl).2
      have ev : ∀ t, evalOf f (.tmp t) = f t := fun _ => rfl
      have ec : ∀ c, evalOf f (.const c) = c := fun _ => rfl
      have ef : ∀ g, evalOf f (.func g) = .func (.func g) #[] #[] := fun _ => rfl
      refine relUpon_value ?_ hC (Below.refl _ _) rfl
      go_simp
    -- 30: slot 50 := load 25 t7
    · intro w L f hC hLi hLd hLn hF
      obtain ⟨d7, d48, _⟩ := hF
      have d7 : f 7 = .pointer (some ⟨gx, 0, none⟩) := d7
      have d48 : f 48 = .bool false := d48
      refine Step2.live (show wantedBy _ (f 48) = true by rw [d48]; rfl) ?_
      have hh := hgx.out.below hC hgx.out.lt
      have f0 := (hh.fact 0 rfl).2
      have f1 := (hh.fact 1 rfl).2
      have ev : ∀ t, evalOf f (.tmp t) = f t := fun _ => rfl
      have ec : ∀ c, evalOf f (.const c) = c := fun _ => rfl
      have ef : ∀ g, evalOf f (.func g) = .func (.func g) #[] #[] := fun _ => rfl
      refine relUpon_value ?_ hC (Below.refl _ _) rfl
      go_simp
    -- 31: slot 51 := call { value (Operand.func 13), args := #[t49, t50], argTypes := #[25, 25] }
    · intro w L f hC hLi hLd hLn hF
      obtain ⟨d49, d50, d48, _⟩ := hF
      have d49 : f 49 = .agg #[.bool (Pz.nul pb), .slice Ab (List.length (Pz.cells pb)) cb] := d49
      have d50 : f 50 = .agg #[.bool (Pz.nul (J2 pa pb)), .slice Ax (List.length (Pz.cells (J2 pa pb))) cx] := d50
      have d48 : f 48 = .bool false := d48
      refine Step2.live (show wantedBy _ (f 48) = true by rw [d48]; rfl) ?_
      have ev : ∀ t, evalOf f (.tmp t) = f t := fun _ => rfl
      have ec : ∀ c, evalOf f (.const c) = c := fun _ => rfl
      have ef : ∀ g, evalOf f (.func g) = .func (.func g) #[] #[] := fun _ => rfl
      refine relUpon_call (f := 13) (args := #[.agg #[.bool (Pz.nul pb), .slice Ab (List.length (Pz.cells pb)) cb], .agg #[.bool (Pz.nul (J2 pa pb)), .slice Ax (List.length (Pz.cells (J2 pa pb))) cx]]) (w := w) (by go_simp) (leq_any w pb (J2 pa pb) _ _ ⟨_, _, rfl, ((hrb.out.below hC).more hC.size), hcb⟩ ⟨_, _, rfl, ((hrx.out.below hC).more hC.size), hcx⟩ (by have := J2_len pa pb; have := J2_len (J2 pa pb) pc; have := J2_len pb pc; have := J2_len pa (J2 pb pc); have := J2_len pb pa; omega) (by have := J2_len pa pb; have := J2_len (J2 pa pb) pc; have := J2_len pb pc; have := J2_len pa (J2 pb pc); have := J2_len pb pa; omega)) ?_
      rintro e w1 ⟨he, hB⟩
      exact ⟨_, he, hC.trans (hB.mono hC.size), hB, congrArg Value.bool (leq_right pa pb)⟩
    -- 32: slot 52 := unOp UnOp.not 4 t51
    · intro w L f hC hLi hLd hLn hF
      obtain ⟨d51, d48, _⟩ := hF
      have d51 : f 51 = .bool true := d51
      have d48 : f 48 = .bool false := d48
      refine Step2.live (show wantedBy _ (f 48) = true by rw [d48]; rfl) ?_
      have ev : ∀ t, evalOf f (.tmp t) = f t := fun _ => rfl
      have ec : ∀ c, evalOf f (.const c) = c := fun _ => rfl
      refine relUpon_value ?_ (hC) (Below.refl _ _) rfl
      go_simp
    -- 33: slot 53 := pick t48 (const (Value.bool true)) t52
    · intro w L f hC hLi hLd hLn hF
      obtain ⟨d48, d52, _⟩ := hF
      have d48 : f 48 = .bool false := d48
      have d52 : f 52 = .bool false := d52
      refine Step2.live rfl ?_
      have ev : ∀ t, evalOf f (.tmp t) = f t := fun _ => rfl
      have ec : ∀ c, evalOf f (.const c) = c := fun _ => rfl
      refine relUpon_value ?_ (hC) (Below.refl _ _) rfl
      go_simp
    -- 34: slot 54 := move t53
    · intro w L f hC hLi hLd hLn hF
      obtain ⟨d53, _⟩ := hF
      have d53 : f 53 = .bool false := d53
      refine Step2.live rfl ?_
      exact relUpon_value (v := f 53) rfl (hC) (Below.refl _ _) d53
    -- 35: slot 55 := load 25 t3
    · intro w L f hC hLi hLd hLn hF
      obtain ⟨d3, d54, _⟩ := hF
      have d3 : f 3 = .pointer (some ⟨ga, 0, none⟩) := d3
      have d54 : f 54 = .bool false := d54
      refine Step2.live (show wantedBy _ (f 54) = true by rw [d54]; rfl) ?_
      have hh := hga.out.below hC hga.out.lt
      have f0 := (hh.fact 0 rfl).2
      have f1 := (hh.fact 1 rfl).2
      have ev : ∀ t, evalOf f (.tmp t) = f t := fun _ => rfl
      have ec : ∀ c, evalOf f (.const c) = c := fun _ => rfl
      have ef : ∀ g, evalOf f (.func g) = .func (.func g) #[] #[] := fun _ => rfl
      refine relUpon_value ?_ hC (Below.refl _ _) rfl
      go_simp
    -- 36: slot 56 := load 25 t5
    · intro w L f hC hLi hLd hLn hF
      obtain ⟨d5, d54, _⟩ := hF
      have d5 : f 5 = .pointer (some ⟨gc, 0, none⟩) := d5
      have d54 : f 54 = .bool false := d54
      refine Step2.live (show wantedBy _ (f 54) = true by rw [d54]; rfl) ?_
      have hh := hgc.out.below hC hgc.out.lt
      have f0 := (hh.fact 0 rfl).2
      have f1 := (hh.fact 1 rfl).2
      have ev : ∀ t, evalOf f (.tmp t) = f t := fun _ => rfl
      have ec : ∀ c, evalOf f (.const c) = c := fun _ => rfl
      have ef : ∀ g, evalOf f (.func g) = .func (.func g) #[] #[] := fun _ => rfl
      refine relUpon_value ?_ hC (Below.refl _ _) rfl
      go_simp
    -- 37: slot 57 := call { value (Operand.func 13), args := #[t55, t56], argTypes := #[25, 25] }
    · intro w L f hC hLi hLd hLn hF
      obtain ⟨d55, d56, d54, _⟩ := hF
      have d55 : f 55 = .agg #[.bool (Pz.nul pa), .slice Aa (List.length (Pz.cells pa)) ca] := d55
      have d56 : f 56 = .agg #[.bool (Pz.nul pc), .slice Ac (List.length (Pz.cells pc)) cc] := d56
      have d54 : f 54 = .bool false := d54
      refine Step2.live (show wantedBy _ (f 54) = true by rw [d54]; rfl) ?_
      have ev : ∀ t, evalOf f (.tmp t) = f t := fun _ => rfl
      have ec : ∀ c, evalOf f (.const c) = c := fun _ => rfl
      have ef : ∀ g, evalOf f (.func g) = .func (.func g) #[] #[] := fun _ => rfl
      refine relUpon_call (f := 13) (args := #[.agg #[.bool (Pz.nul pa), .slice Aa (List.length (Pz.cells pa)) ca], .agg #[.bool (Pz.nul pc), .slice Ac (List.length (Pz.cells pc)) cc]]) (w := w) (by go_simp) (leq_any w pa pc _ _ ⟨_, _, rfl, ((hra.out.below hC).more hC.size), hca⟩ ⟨_, _, rfl, ((hrc.out.below hC).more hC.size), hcc⟩ (by have := J2_len pa pb; have := J2_len (J2 pa pb) pc; have := J2_len pb pc; have := J2_len pa (J2 pb pc); have := J2_len pb pa; omega) (by have := J2_len pa pb; have := J2_len (J2 pa pb) pc; have := J2_len pb pc; have := J2_len pa (J2 pb pc); have := J2_len pb pa; omega)) ?_
      rintro e w1 ⟨he, hB⟩
      exact ⟨_, he, hC.trans (hB.mono hC.size), hB, congrArg Value.bool hac.out⟩
    -- 38: slot 58 := move t57
    · intro w L f hC hLi hLd hLn hF
      obtain ⟨d57, d54, _⟩ := hF
      have d57 : f 57 = .bool true := d57
      have d54 : f 54 = .bool false := d54
      refine Step2.live (show wantedBy _ (f 54) = true by rw [d54]; rfl) ?_
      exact relUpon_value (v := f 57) rfl (hC) (Below.refl _ _) d57
    -- 39: slot 59 := load 25 t4
    · intro w L f hC hLi hLd hLn hF
      obtain ⟨d4, d58, _⟩ := hF
      have d4 : f 4 = .pointer (some ⟨gb, 0, none⟩) := d4
      have d58 : f 58 = .bool true := d58
      refine Step2.live (show wantedBy _ (f 58) = true by rw [d58]; rfl) ?_
      have hh := hgb.out.below hC hgb.out.lt
      have f0 := (hh.fact 0 rfl).2
      have f1 := (hh.fact 1 rfl).2
      have ev : ∀ t, evalOf f (.tmp t) = f t := fun _ => rfl
      have ec : ∀ c, evalOf f (.const c) = c := fun _ => rfl
      have ef : ∀ g, evalOf f (.func g) = .func (.func g) #[] #[] := fun _ => rfl
      refine relUpon_value ?_ hC (Below.refl _ _) rfl
      go_simp
    -- 40: slot 60 := load 25 t5
    · intro w L f hC hLi hLd hLn hF
      obtain ⟨d5, d58, _⟩ := hF
      have d5 : f 5 = .pointer (some ⟨gc, 0, none⟩) := d5
      have d58 : f 58 = .bool true := d58
      refine Step2.live (show wantedBy _ (f 58) = true by rw [d58]; rfl) ?_
      have hh := hgc.out.below hC hgc.out.lt
      have f0 := (hh.fact 0 rfl).2
      have f1 := (hh.fact 1 rfl).2
      have ev : ∀ t, evalOf f (.tmp t) = f t := fun _ => rfl
      have ec : ∀ c, evalOf f (.const c) = c := fun _ => rfl
      have ef : ∀ g, evalOf f (.func g) = .func (.func g) #[] #[] := fun _ => rfl
      refine relUpon_value ?_ hC (Below.refl _ _) rfl
      go_simp
    -- 41: slot 61 := call { value (Operand.func 13), args := #[t59, t60], argTypes := #[25, 25] }
    · intro w L f hC hLi hLd hLn hF
      obtain ⟨d59, d60, d58, _⟩ := hF
      have d59 : f 59 = .agg #[.bool (Pz.nul pb), .slice Ab (List.length (Pz.cells pb)) cb] := d59
      have d60 : f 60 = .agg #[.bool (Pz.nul pc), .slice Ac (List.length (Pz.cells pc)) cc] := d60
      have d58 : f 58 = .bool true := d58
      refine Step2.live (show wantedBy _ (f 58) = true by rw [d58]; rfl) ?_
      have ev : ∀ t, evalOf f (.tmp t) = f t := fun _ => rfl
      have ec : ∀ c, evalOf f (.const c) = c := fun _ => rfl
      have ef : ∀ g, evalOf f (.func g) = .func (.func g) #[] #[] := fun _ => rfl
      refine relUpon_call (f := 13) (args := #[.agg #[.bool (Pz.nul pb), .slice Ab (List.length (Pz.cells pb)) cb], .agg #[.bool (Pz.nul pc), .slice Ac (List.length (Pz.cells pc)) cc]]) (w := w) (by go_simp) (leq_any w pb pc _ _ ⟨_, _, rfl, ((hrb.out.below hC).more hC.size), hcb⟩ ⟨_, _, rfl, ((hrc.out.below hC).more hC.size), hcc⟩ (by have := J2_len pa pb; have := J2_len (J2 pa pb) pc; have := J2_len pb pc; have := J2_len pa (J2 pb pc); have := J2_len pb pa; omega) (by have := J2_len pa pb; have := J2_len (J2 pa pb) pc; have := J2_len pb pc; have := J2_len pa (J2 pb pc); have := J2_len pb pa; omega)) ?_
      rintro e w1 ⟨he, hB⟩
      exact ⟨_, he, hC.trans (hB.mono hC.size), hB, congrArg Value.bool hbc.out⟩
    -- 42: slot 62 := pick t58 t61 (const (Value.bool false))
    · intro w L f hC hLi hLd hLn hF
      obtain ⟨d58, d61, d54, _⟩ := hF
      have d58 : f 58 = .bool true := d58
      have d61 : f 61 = .bool true := d61
      have d54 : f 54 = .bool false := d54
      refine Step2.live (show wantedBy _ (f 54) = true by rw [d54]; rfl) ?_
      have ev : ∀ t, evalOf f (.tmp t) = f t := fun _ => rfl
      have ec : ∀ c, evalOf f (.const c) = c := fun _ => rfl
      refine relUpon_value ?_ (hC) (Below.refl _ _) rfl
      go_simp
    -- 43: slot 63 := move t62
    · intro w L f hC hLi hLd hLn hF
      obtain ⟨d62, d54, _⟩ := hF
      have d62 : f 62 = .bool true := d62
      have d54 : f 54 = .bool false := d54
      refine Step2.live (show wantedBy _ (f 54) = true by rw [d54]; rfl) ?_
      exact relUpon_value (v := f 62) rfl (hC) (Below.refl _ _) d62
    -- 44: slot 64 := load 25 t7
    · intro w L f hC hLi hLd hLn hF
      obtain ⟨d7, d63, _⟩ := hF
      have d7 : f 7 = .pointer (some ⟨gx, 0, none⟩) := d7
      have d63 : f 63 = .bool true := d63
      refine Step2.live (show wantedBy _ (f 63) = true by rw [d63]; rfl) ?_
      have hh := hgx.out.below hC hgx.out.lt
      have f0 := (hh.fact 0 rfl).2
      have f1 := (hh.fact 1 rfl).2
      have ev : ∀ t, evalOf f (.tmp t) = f t := fun _ => rfl
      have ec : ∀ c, evalOf f (.const c) = c := fun _ => rfl
      have ef : ∀ g, evalOf f (.func g) = .func (.func g) #[] #[] := fun _ => rfl
      refine relUpon_value ?_ hC (Below.refl _ _) rfl
      go_simp
    -- 45: slot 65 := load 25 t5
    · intro w L f hC hLi hLd hLn hF
      obtain ⟨d5, d63, _⟩ := hF
      have d5 : f 5 = .pointer (some ⟨gc, 0, none⟩) := d5
      have d63 : f 63 = .bool true := d63
      refine Step2.live (show wantedBy _ (f 63) = true by rw [d63]; rfl) ?_
      have hh := hgc.out.below hC hgc.out.lt
      have f0 := (hh.fact 0 rfl).2
      have f1 := (hh.fact 1 rfl).2
      have ev : ∀ t, evalOf f (.tmp t) = f t := fun _ => rfl
      have ec : ∀ c, evalOf f (.const c) = c := fun _ => rfl
      have ef : ∀ g, evalOf f (.func g) = .func (.func g) #[] #[] := fun _ => rfl
      refine relUpon_value ?_ hC (Below.refl _ _) rfl
      go_simp
    -- 46: slot 66 := call { value (Operand.func 13), args := #[t64, t65], argTypes := #[25, 25] }
    · intro w L f hC hLi hLd hLn hF
      obtain ⟨d64, d65, d63, _⟩ := hF
      have d64 : f 64 = .agg #[.bool (Pz.nul (J2 pa pb)), .slice Ax (List.length (Pz.cells (J2 pa pb))) cx] := d64
      have d65 : f 65 = .agg #[.bool (Pz.nul pc), .slice Ac (List.length (Pz.cells pc)) cc] := d65
      have d63 : f 63 = .bool true := d63
      refine Step2.live (show wantedBy _ (f 63) = true by rw [d63]; rfl) ?_
      have ev : ∀ t, evalOf f (.tmp t) = f t := fun _ => rfl
      have ec : ∀ c, evalOf f (.const c) = c := fun _ => rfl
      have ef : ∀ g, evalOf f (.func g) = .func (.func g) #[] #[] := fun _ => rfl
      refine relUpon_call (f := 13) (args := #[.agg #[.bool (Pz.nul (J2 pa pb)), .slice Ax (List.length (Pz.cells (J2 pa pb))) cx], .agg #[.bool (Pz.nul pc), .slice Ac (List.length (Pz.cells pc)) cc]]) (w := w) (by go_simp) (leq_any w (J2 pa pb) pc _ _ ⟨_, _, rfl, ((hrx.out.below hC).more hC.size), hcx⟩ ⟨_, _, rfl, ((hrc.out.below hC).more hC.size), hcc⟩ (by have := J2_len pa pb; have := J2_len (J2 pa pb) pc; have := J2_len pb pc; have := J2_len pa (J2 pb pc); have := J2_len pb pa; omega) (by have := J2_len pa pb; have := J2_len (J2 pa pb) pc; have := J2_len pb pc; have := J2_len pa (J2 pb pc); have := J2_len pb pa; omega)) ?_
      rintro e w1 ⟨he, hB⟩
      exact ⟨_, he, hC.trans (hB.mono hC.size), hB, congrArg Value.bool (leq_lub hac.out hbc.out)⟩
    -- 47: slot 67 := unOp UnOp.not 4 t66
    · intro w L f hC hLi hLd hLn hF
      obtain ⟨d66, d63, _⟩ := hF
      have d66 : f 66 = .bool true := d66
      have d63 : f 63 = .bool true := d63
      refine Step2.live (show wantedBy _ (f 63) = true by rw [d63]; rfl) ?_
      have ev : ∀ t, evalOf f (.tmp t) = f t := fun _ => rfl
      have ec : ∀ c, evalOf f (.const c) = c := fun _ => rfl
      refine relUpon_value ?_ (hC) (Below.refl _ _) rfl
      go_simp
    -- 48: slot 68 := pick t63 t67 (const (Value.bool false))
    · intro w L f hC hLi hLd hLn hF
      obtain ⟨d63, d67, d54, _⟩ := hF
      have d63 : f 63 = .bool true := d63
      have d67 : f 67 = .bool false := d67
      have d54 : f 54 = .bool false := d54
      refine Step2.live (show wantedBy _ (f 54) = true by rw [d54]; rfl) ?_
      have ev : ∀ t, evalOf f (.tmp t) = f t := fun _ => rfl
      have ec : ∀ c, evalOf f (.const c) = c := fun _ => rfl
      refine relUpon_value ?_ (hC) (Below.refl _ _) rfl
      go_simp
    -- 49: slot 69 := pick t54 (const (Value.bool true)) t68
    · intro w L f hC hLi hLd hLn hF
      obtain ⟨d54, d68, _⟩ := hF
      have d54 : f 54 = .bool false := d54
      have d68 : f 68 = .bool false := d68
      refine Step2.live rfl ?_
      have ev : ∀ t, evalOf f (.tmp t) = f t := fun _ => rfl
      have ec : ∀ c, evalOf f (.const c) = c := fun _ => rfl
      refine relUpon_value ?_ (hC) (Below.refl _ _) rfl
      go_simp
  intro x w' hC hV

  have e0 := hV 49 _ rfl rfl
  clear hV
  simp only [framed]
  rw [e0]
  clear e0
  have hk5 := Lib.hid (hk4.out.trans (hC.mono hkz.out))
  have hkz5 := Lib.hid (Nat.le_trans hkz.out hC.size)
  have hga' := Lib.hid (hga.out.below hC hga.out.lt)
  have hra' := Lib.hid ((hra.out.below hC).more hC.size)
  clear hk4 hkz hga hgb hgc hgx hra hrb hrc hrx hC wr
  rename World => wr
  have hga := hga'
  have hra := hra'
  clear hga' hra'
  go_wp2_with fail
  by_cases hem0 : pa.cells.isEmpty = true
  · have hem := Lib.hid hem0
    clear hem0
    -- THE REGION THAT DRAWS ITS ORDER, BY ONE LEXICAL WALK OVER GENERIC VALUES (written by relgen.py)
    refine wp_region_tab ((fun _ v => v = .agg #[.bool (Pz.nul pa), .slice Aa (List.length (Pz.cells pa)) ca]) ::
      (fun w v => PtsV w ((⟨false, canon (Pz.cells pa)⟩ : Pz)) v) ::
      (fun _ v => v = .agg #[.bool (Pz.nul pa), .slice Aa (List.length (Pz.cells pa)) ca]) ::
      (fun w v => PtsV w ((⟨Pz.nul pa, []⟩ : Pz)) v) ::
      (fun w v => PLs w [(⟨false, canon (Pz.cells pa)⟩ : Pz), (⟨Pz.nul pa, []⟩ : Pz)] v) ::
      (fun w v => PtsV w ((J2 (⟨false, canon (Pz.cells pa)⟩ : Pz) (⟨Pz.nul pa, []⟩ : Pz))) v) ::
      (fun _ v => v = .agg #[.bool (Pz.nul pa), .slice Aa (List.length (Pz.cells pa)) ca]) ::
      (fun w v => PLs w [pa] v) ::
      (fun w v => PtsV w ((⟨Pz.nul pa, canon (Pz.cells pa)⟩ : Pz)) v) ::
      (fun _ v => v = .bool true) ::
      (fun _ v => v = .bool true) ::
      (fun _ v => v = .agg #[.bool (Pz.nul pa), .slice Aa (List.length (Pz.cells pa)) ca]) ::
      (fun _ v => v = .bool (!pa.nul)) ::
      (fun _ v => v = .agg #[.bool (Pz.nul pa), .slice Aa (List.length (Pz.cells pa)) ca]) ::
      (fun w v => PtsV w ((⟨false, canon (Pz.cells pa)⟩ : Pz)) v) ::
      (fun _ v => v = .bool true) ::
      (fun _ v => v = .bool true) ::
      (fun _ v => v = .agg #[.bool (Pz.nul pa), .slice Aa (List.length (Pz.cells pa)) ca]) ::
      (fun w v => PtsV w ((⟨Pz.nul pa, []⟩ : Pz)) v) ::
      (fun _ v => v = .bool (!pa.nul)) ::
      (fun _ v => v = .bool (!pa.nul)) ::
      (fun _ v => v = .bool true) ::
      (fun _ v => v = .bool true) ::
      (fun _ v => v = .bool true) :: [])
      (⟨[(3, none)], 0, []⟩ :: ⟨[(70, some 0)], 0, []⟩ :: ⟨[(3, none)], 0, []⟩ :: ⟨[(72, some 2)], 0, []⟩ :: ⟨[(71, some 1), (73, some 3)], 0, []⟩ :: ⟨[(74, some 4)], 0, []⟩ :: ⟨[(3, none)], 0, []⟩ :: ⟨[(76, some 6)], 0, []⟩ :: ⟨[(77, some 7)], 0, []⟩ :: ⟨[(75, some 5), (78, some 8)], 0, []⟩ :: ⟨[(79, some 9)], 0, []⟩ :: ⟨[(3, none), (80, some 10)], 80, []⟩ :: ⟨[(81, some 11), (80, some 10)], 80, []⟩ :: ⟨[(3, none), (80, some 10)], 80, []⟩ :: ⟨[(83, some 13), (80, some 10)], 80, []⟩ :: ⟨[(84, some 14), (80, some 10)], 80, []⟩ :: ⟨[(85, some 15), (80, some 10)], 80, []⟩ :: ⟨[(3, none), (86, some 16)], 86, []⟩ :: ⟨[(87, some 17), (86, some 16)], 86, []⟩ :: ⟨[(88, some 18), (86, some 16)], 86, []⟩ :: ⟨[(86, some 16), (89, some 19), (80, some 10)], 80, []⟩ :: ⟨[(82, some 12), (90, some 20), (80, some 10)], 80, []⟩ :: ⟨[(80, some 10), (91, some 21)], 0, []⟩ :: ⟨[(92, some 22)], 0, []⟩ :: [])
      (none :: none :: none :: none :: none :: none :: some 23 :: none :: none :: none :: none :: none :: none :: none :: none :: none :: none :: none :: none :: none :: none :: none :: none :: none :: none :: none :: none :: none :: none :: none :: none :: none :: none :: none :: none :: none :: none :: none :: none :: none :: none :: none :: none :: none :: none :: none :: none :: none :: none :: none :: none :: none :: none :: none :: none :: none :: none :: none :: none :: none :: none :: none :: none :: none :: none :: none :: none :: none :: none :: none :: some 0 :: some 1 :: some 2 :: some 3 :: some 4 :: some 5 :: some 6 :: some 7 :: some 8 :: some 9 :: some 10 :: some 11 :: some 12 :: some 13 :: some 14 :: some 15 :: some 16 :: some 17 :: some 18 :: some 19 :: some 20 :: some 21 :: some 22 :: [])
      (fun _ w' => Below wr.heap.size wr w') (fun _ w w' => Below w.heap.size w w') ?mixK8lat8t ?okK8lat8t ?tabK8lat8t ?frK8lat8t ?inK8lat8t ?keptK8lat8t ?startK8lat8t ?eachK8lat8t ?finK8lat8t
    case mixK8lat8t => kernel_rfl
    case okK8lat8t => kernel_rfl
    case tabK8lat8t => kernel_rfl
    case frK8lat8t => kernel_rfl
    case inK8lat8t => rfl
    case keptK8lat8t => exact ⟨fun _ _ _ _ _ _ _ h => h, fun _ _ _ => fun w w' v hG h => h.up hG, fun _ _ _ _ _ _ _ h => h, fun _ _ _ => fun w w' v hG h => h.up hG, fun _ _ _ => fun w w' v hG h => h.up hG, fun _ _ _ => fun w w' v hG h => h.up hG, fun _ _ _ _ _ _ _ h => h, fun _ _ _ => fun w w' v hG h => h.up hG, fun _ _ _ => fun w w' v hG h => h.up hG, fun _ _ _ _ _ _ _ h => h, fun _ _ _ _ _ _ _ h => h, fun _ _ _ _ _ _ _ h => h, fun _ _ _ _ _ _ _ h => h, fun _ _ _ _ _ _ _ h => h, fun _ _ _ => fun w w' v hG h => h.up hG, fun _ _ _ _ _ _ _ h => h, fun _ _ _ _ _ _ _ h => h, fun _ _ _ _ _ _ _ h => h, fun _ _ _ => fun w w' v hG h => h.up hG, fun _ _ _ _ _ _ _ h => h, fun _ _ _ _ _ _ _ h => h, fun _ _ _ _ _ _ _ h => h, fun _ _ _ _ _ _ _ h => h, fun _ _ _ _ _ _ _ h => h, trivial⟩
    case startK8lat8t => exact (Below.refl _ _).drew
    case eachK8lat8t =>
      refine ⟨?_, ?_, ?_, ?_, ?_, ?_, ?_, ?_, ?_, ?_, ?_, ?_, ?_, ?_, ?_, ?_, ?_, ?_, ?_, ?_, ?_, ?_, ?_, ?_, trivial⟩
      -- 0: slot 70 := load 25 t3
      · intro w L f hC hLi hLd hLn hF
        obtain ⟨d3, _⟩ := hF
        have d3 : f 3 = .pointer (some ⟨ga, 0, none⟩) := d3
        refine Step2.live rfl ?_
        have hh := hga.out.below hC hga.out.lt
        have f0 := (hh.fact 0 rfl).2
        have f1 := (hh.fact 1 rfl).2
        have ev : ∀ t, evalOf f (.tmp t) = f t := fun _ => rfl
        have ec : ∀ c, evalOf f (.const c) = c := fun _ => rfl
        have ef : ∀ g, evalOf f (.func g) = .func (.func g) #[] #[] := fun _ => rfl
        refine relUpon_value ?_ hC (Below.refl _ _) rfl
        go_simp
      -- 1: slot 71 := call { value (Operand.func 17), args := #[t70], argTypes := #[25] }
      · intro w L f hC hLi hLd hLn hF
        obtain ⟨d70, _⟩ := hF
        have d70 : f 70 = .agg #[.bool (Pz.nul pa), .slice Aa (List.length (Pz.cells pa)) ca] := d70
        refine Step2.live rfl ?_
        have ev : ∀ t, evalOf f (.tmp t) = f t := fun _ => rfl
        have ec : ∀ c, evalOf f (.const c) = c := fun _ => rfl
        have ef : ∀ g, evalOf f (.func g) = .func (.func g) #[] #[] := fun _ => rfl
        refine relUpon_call (f := 17) (args := #[.agg #[.bool (Pz.nul pa), .slice Aa (List.length (Pz.cells pa)) ca]]) (w := w) (by go_simp) (noNull_any w pa _ ⟨_, _, rfl, ((hra.out.below hC).more hC.size), hca⟩ (by have := J2_len pa pb; have := J2_len (J2 pa pb) pc; have := J2_len pb pc; have := J2_len pa (J2 pb pc); have := J2_len pb pa; omega)) ?_
        rintro e w1 ⟨⟨v, he, hv⟩, hB⟩
        exact ⟨_, he, hC.trans (hB.mono hC.size), hB, hv⟩
      -- 2: slot 72 := load 25 t3
      · intro w L f hC hLi hLd hLn hF
        obtain ⟨d3, _⟩ := hF
        have d3 : f 3 = .pointer (some ⟨ga, 0, none⟩) := d3
        refine Step2.live rfl ?_
        have hh := hga.out.below hC hga.out.lt
        have f0 := (hh.fact 0 rfl).2
        have f1 := (hh.fact 1 rfl).2
        have ev : ∀ t, evalOf f (.tmp t) = f t := fun _ => rfl
        have ec : ∀ c, evalOf f (.const c) = c := fun _ => rfl
        have ef : ∀ g, evalOf f (.func g) = .func (.func g) #[] #[] := fun _ => rfl
        refine relUpon_value ?_ hC (Below.refl _ _) rfl
        go_simp
      -- 3: slot 73 := call { value (Operand.func 18), args := #[t72], argTypes := #[25] }
      · intro w L f hC hLi hLd hLn hF
        obtain ⟨d72, _⟩ := hF
        have d72 : f 72 = .agg #[.bool (Pz.nul pa), .slice Aa (List.length (Pz.cells pa)) ca] := d72
        refine Step2.live rfl ?_
        have ev : ∀ t, evalOf f (.tmp t) = f t := fun _ => rfl
        have ec : ∀ c, evalOf f (.const c) = c := fun _ => rfl
        have ef : ∀ g, evalOf f (.func g) = .func (.func g) #[] #[] := fun _ => rfl
        refine relUpon_call (f := 18) (args := #[.agg #[.bool (Pz.nul pa), .slice Aa (List.length (Pz.cells pa)) ca]]) (w := w) (by go_simp) (onlyNull_any w pa _ ⟨_, _, rfl, ((hra.out.below hC).more hC.size), hca⟩) ?_
        rintro e w1 ⟨⟨v, he, hv⟩, hB⟩
        exact ⟨_, he, hC.trans (hB.mono hC.size), hB, hv⟩
      -- 4: slot 74 := buildSlice 22 2 #[(0, t71), (1, t73)]
      · intro w L f hC hLi hLd hLn hF
        obtain ⟨d71, d73, _⟩ := hF
        refine Step2.live rfl ?_
        obtain ⟨A71, c71, e71, hr71, hc71⟩ := d71
        obtain ⟨A73, c73, e73, hr73, hc73⟩ := d73
        have hbn := below_new w (.cells #[.bool (Pz.nul (⟨false, canon (Pz.cells pa)⟩ : Pz)), .slice A71 (List.length (Pz.cells (⟨false, canon (Pz.cells pa)⟩ : Pz))) c71, .bool (Pz.nul (⟨Pz.nul pa, []⟩ : Pz)), .slice A73 (List.length (Pz.cells (⟨Pz.nul pa, []⟩ : Pz))) c73] 25)
        have ev : ∀ t, evalOf f (.tmp t) = f t := fun _ => rfl
        have ec : ∀ c, evalOf f (.const c) = c := fun _ => rfl
        have ef : ∀ g, evalOf f (.func g) = .func (.func g) #[] #[] := fun _ => rfl
        refine relUpon_value (w' := w.alloc (.cells #[.bool (Pz.nul (⟨false, canon (Pz.cells pa)⟩ : Pz)), .slice A71 (List.length (Pz.cells (⟨false, canon (Pz.cells pa)⟩ : Pz))) c71, .bool (Pz.nul (⟨Pz.nul pa, []⟩ : Pz)), .slice A73 (List.length (Pz.cells (⟨Pz.nul pa, []⟩ : Pz))) c73] 25)) (v := .slice (some ⟨w.heap.size, 0, none⟩) 2 2) (by go_simp) (hC.trans (hbn.mono hC.size)) hbn (PLs.two w 25 hr71 hc71 hr73 hc73)
      -- 5: slot 75 := call { value (Operand.func 11), args := #[t74], argTypes := #[22] }
      · intro w L f hC hLi hLd hLn hF
        obtain ⟨d74, _⟩ := hF
        refine Step2.live rfl ?_
        obtain ⟨A74, c74, L74, e74, hl74, hp74⟩ := d74
        have ev : ∀ t, evalOf f (.tmp t) = f t := fun _ => rfl
        have ec : ∀ c, evalOf f (.const c) = c := fun _ => rfl
        have ef : ∀ g, evalOf f (.func g) = .func (.func g) #[] #[] := fun _ => rfl
        refine relUpon_call (f := 11) (args := #[.slice A74 2 c74]) (w := w) (by go_simp) (join_two w hl74 hp74 (by show (canon pa.cells).length ≤ _; have := canon_len pa.cells; omega) (Nat.zero_le _)) ?_
        rintro e w1 ⟨⟨v, he, hv⟩, hB⟩
        exact ⟨_, he, hC.trans (hB.mono hC.size), hB, hv⟩
      -- 6: slot 76 := load 25 t3
      · intro w L f hC hLi hLd hLn hF
        obtain ⟨d3, _⟩ := hF
        have d3 : f 3 = .pointer (some ⟨ga, 0, none⟩) := d3
        refine Step2.live rfl ?_
        have hh := hga.out.below hC hga.out.lt
        have f0 := (hh.fact 0 rfl).2
        have f1 := (hh.fact 1 rfl).2
        have ev : ∀ t, evalOf f (.tmp t) = f t := fun _ => rfl
        have ec : ∀ c, evalOf f (.const c) = c := fun _ => rfl
        have ef : ∀ g, evalOf f (.func g) = .func (.func g) #[] #[] := fun _ => rfl
        refine relUpon_value ?_ hC (Below.refl _ _) rfl
        go_simp
      -- 7: slot 77 := buildSlice 22 1 #[(0, t76)]
      · intro w L f hC hLi hLd hLn hF
        obtain ⟨d76, _⟩ := hF
        have d76 : f 76 = .agg #[.bool (Pz.nul pa), .slice Aa (List.length (Pz.cells pa)) ca] := d76
        refine Step2.live rfl ?_
        have hbn := below_new w (.cells #[.bool (Pz.nul pa), .slice Aa (List.length (Pz.cells pa)) ca] 25)
        have ev : ∀ t, evalOf f (.tmp t) = f t := fun _ => rfl
        have ec : ∀ c, evalOf f (.const c) = c := fun _ => rfl
        have ef : ∀ g, evalOf f (.func g) = .func (.func g) #[] #[] := fun _ => rfl
        refine relUpon_value (w' := w.alloc (.cells #[.bool (Pz.nul pa), .slice Aa (List.length (Pz.cells pa)) ca] 25)) (v := .slice (some ⟨w.heap.size, 0, none⟩) 1 1) (by go_simp) (hC.trans (hbn.mono hC.size)) hbn (PLs.one w 25 ((hra.out.below hC).more hC.size) hca)
      -- 8: slot 78 := call { value (Operand.func 11), args := #[t77], argTypes := #[22] }
      · intro w L f hC hLi hLd hLn hF
        obtain ⟨d77, _⟩ := hF
        refine Step2.live rfl ?_
        obtain ⟨A77, c77, L77, e77, hl77, hp77⟩ := d77
        have ev : ∀ t, evalOf f (.tmp t) = f t := fun _ => rfl
        have ec : ∀ c, evalOf f (.const c) = c := fun _ => rfl
        have ef : ∀ g, evalOf f (.func g) = .func (.func g) #[] #[] := fun _ => rfl
        refine relUpon_call (f := 11) (args := #[.slice A77 1 c77]) (w := w) (by go_simp) (join_one w hl77 hp77 (by have := J2_len pa pb; have := J2_len (J2 pa pb) pc; have := J2_len pb pc; have := J2_len pa (J2 pb pc); have := J2_len pb pa; omega)) ?_
        rintro e w1 ⟨⟨v, he, hv⟩, hB⟩
        exact ⟨_, he, hC.trans (hB.mono hC.size), hB, hv⟩
      -- 9: slot 79 := call { value (Operand.func 10), args := #[t75, t78], argTypes := #[25, 25] }
      · intro w L f hC hLi hLd hLn hF
        obtain ⟨d75, d78, _⟩ := hF
        refine Step2.live rfl ?_
        obtain ⟨A75, c75, e75, hr75, hc75⟩ := d75
        obtain ⟨A78, c78, e78, hr78, hc78⟩ := d78
        have ev : ∀ t, evalOf f (.tmp t) = f t := fun _ => rfl
        have ec : ∀ c, evalOf f (.const c) = c := fun _ => rfl
        have ef : ∀ g, evalOf f (.func g) = .func (.func g) #[] #[] := fun _ => rfl
        refine relUpon_call (f := 10) (args := #[.agg #[.bool (Pz.nul (J2 (⟨false, canon (Pz.cells pa)⟩ : Pz) (⟨Pz.nul pa, []⟩ : Pz))), .slice A75 (List.length (Pz.cells (J2 (⟨false, canon (Pz.cells pa)⟩ : Pz) (⟨Pz.nul pa, []⟩ : Pz)))) c75], .agg #[.bool (Pz.nul (⟨Pz.nul pa, canon (Pz.cells pa)⟩ : Pz)), .slice A78 (List.length (Pz.cells (⟨Pz.nul pa, canon (Pz.cells pa)⟩ : Pz))) c78]]) (w := w) (by go_simp) (ptsEq_any w (J2 (⟨false, canon (Pz.cells pa)⟩ : Pz) (⟨Pz.nul pa, []⟩ : Pz)) (⟨Pz.nul pa, canon (Pz.cells pa)⟩ : Pz) _ _ ⟨_, _, rfl, hr75, hc75⟩ ⟨_, _, rfl, hr78, hc78⟩ (Nat.le_trans (J2_len _ _) (by show (canon pa.cells).length + 0 ≤ _; have := canon_len pa.cells; omega)) (by show (canon pa.cells).length ≤ _; have := canon_len pa.cells; omega)) ?_
        rintro e w1 ⟨he, hB⟩
        exact ⟨_, he, hC.trans (hB.mono hC.size), hB, congrArg Value.bool (by rw [parts_whole]; exact sameP_rfl _)⟩
      -- 10: slot 80 := move t79
      · intro w L f hC hLi hLd hLn hF
        obtain ⟨d79, _⟩ := hF
        have d79 : f 79 = .bool true := d79
        refine Step2.live rfl ?_
        exact relUpon_value (v := f 79) rfl (hC) (Below.refl _ _) d79
      -- 11: slot 81 := load 25 t3
      · intro w L f hC hLi hLd hLn hF
        obtain ⟨d3, d80, _⟩ := hF
        have d3 : f 3 = .pointer (some ⟨ga, 0, none⟩) := d3
        have d80 : f 80 = .bool true := d80
        refine Step2.live (show wantedBy _ (f 80) = true by rw [d80]; rfl) ?_
        have hh := hga.out.below hC hga.out.lt
        have f0 := (hh.fact 0 rfl).2
        have f1 := (hh.fact 1 rfl).2
        have ev : ∀ t, evalOf f (.tmp t) = f t := fun _ => rfl
        have ec : ∀ c, evalOf f (.const c) = c := fun _ => rfl
        have ef : ∀ g, evalOf f (.func g) = .func (.func g) #[] #[] := fun _ => rfl
        refine relUpon_value ?_ hC (Below.refl _ _) rfl
        go_simp
      -- 12: slot 82 := call { value (Operand.func 15), args := #[t81], argTypes := #[25] }
      · intro w L f hC hLi hLd hLn hF
        obtain ⟨d81, d80, _⟩ := hF
        have d81 : f 81 = .agg #[.bool (Pz.nul pa), .slice Aa (List.length (Pz.cells pa)) ca] := d81
        have d80 : f 80 = .bool true := d80
        refine Step2.live (show wantedBy _ (f 80) = true by rw [d80]; rfl) ?_
        have ev : ∀ t, evalOf f (.tmp t) = f t := fun _ => rfl
        have ec : ∀ c, evalOf f (.const c) = c := fun _ => rfl
        have ef : ∀ g, evalOf f (.func g) = .func (.func g) #[] #[] := fun _ => rfl
        refine relUpon_call (f := 15) (args := #[.agg #[.bool (Pz.nul pa), .slice Aa (List.length (Pz.cells pa)) ca]]) (w := w) (by go_simp) (empty_any w pa _ ⟨_, _, rfl, ((hra.out.below hC).more hC.size), hca⟩ (by have := J2_len pa pb; have := J2_len (J2 pa pb) pc; have := J2_len pb pc; have := J2_len pa (J2 pb pc); have := J2_len pb pa; omega)) ?_
        rintro e w1 ⟨he, hB⟩
        exact ⟨_, he, hC.trans (hB.mono hC.size), hB, congrArg Value.bool (by rw [hem.out]; simp)⟩
      -- 13: slot 83 := load 25 t3
      · intro w L f hC hLi hLd hLn hF
        obtain ⟨d3, d80, _⟩ := hF
        have d3 : f 3 = .pointer (some ⟨ga, 0, none⟩) := d3
        have d80 : f 80 = .bool true := d80
        refine Step2.live (show wantedBy _ (f 80) = true by rw [d80]; rfl) ?_
        have hh := hga.out.below hC hga.out.lt
        have f0 := (hh.fact 0 rfl).2
        have f1 := (hh.fact 1 rfl).2
        have ev : ∀ t, evalOf f (.tmp t) = f t := fun _ => rfl
        have ec : ∀ c, evalOf f (.const c) = c := fun _ => rfl
        have ef : ∀ g, evalOf f (.func g) = .func (.func g) #[] #[] := fun _ => rfl
        refine relUpon_value ?_ hC (Below.refl _ _) rfl
        go_simp
      -- 14: slot 84 := call { value (Operand.func 17), args := #[t83], argTypes := #[25] }
      · intro w L f hC hLi hLd hLn hF
        obtain ⟨d83, d80, _⟩ := hF
        have d83 : f 83 = .agg #[.bool (Pz.nul pa), .slice Aa (List.length (Pz.cells pa)) ca] := d83
        have d80 : f 80 = .bool true := d80
        refine Step2.live (show wantedBy _ (f 80) = true by rw [d80]; rfl) ?_
        have ev : ∀ t, evalOf f (.tmp t) = f t := fun _ => rfl
        have ec : ∀ c, evalOf f (.const c) = c := fun _ => rfl
        have ef : ∀ g, evalOf f (.func g) = .func (.func g) #[] #[] := fun _ => rfl
        refine relUpon_call (f := 17) (args := #[.agg #[.bool (Pz.nul pa), .slice Aa (List.length (Pz.cells pa)) ca]]) (w := w) (by go_simp) (noNull_any w pa _ ⟨_, _, rfl, ((hra.out.below hC).more hC.size), hca⟩ (by have := J2_len pa pb; have := J2_len (J2 pa pb) pc; have := J2_len pb pc; have := J2_len pa (J2 pb pc); have := J2_len pb pa; omega)) ?_
        rintro e w1 ⟨⟨v, he, hv⟩, hB⟩
        exact ⟨_, he, hC.trans (hB.mono hC.size), hB, hv⟩
      -- 15: slot 85 := call { value (Operand.func 15), args := #[t84], argTypes := #[25] }
      · intro w L f hC hLi hLd hLn hF
        obtain ⟨d84, d80, _⟩ := hF
        have d80 : f 80 = .bool true := d80
        refine Step2.live (show wantedBy _ (f 80) = true by rw [d80]; rfl) ?_
        obtain ⟨A84, c84, e84, hr84, hc84⟩ := d84
        have ev : ∀ t, evalOf f (.tmp t) = f t := fun _ => rfl
        have ec : ∀ c, evalOf f (.const c) = c := fun _ => rfl
        have ef : ∀ g, evalOf f (.func g) = .func (.func g) #[] #[] := fun _ => rfl
        refine relUpon_call (f := 15) (args := #[.agg #[.bool (Pz.nul (⟨false, canon (Pz.cells pa)⟩ : Pz)), .slice A84 (List.length (Pz.cells (⟨false, canon (Pz.cells pa)⟩ : Pz))) c84]]) (w := w) (by go_simp) (empty_any w (⟨false, canon (Pz.cells pa)⟩ : Pz) _ ⟨_, _, rfl, hr84, hc84⟩ (by show (canon pa.cells).length ≤ _; have := canon_len pa.cells; omega)) ?_
        rintro e w1 ⟨he, hB⟩
        exact ⟨_, he, hC.trans (hB.mono hC.size), hB, congrArg Value.bool (by simp only [canon_empty]; rw [hem.out]; rfl)⟩
      -- 16: slot 86 := move t85
      · intro w L f hC hLi hLd hLn hF
        obtain ⟨d85, d80, _⟩ := hF
        have d85 : f 85 = .bool true := d85
        have d80 : f 80 = .bool true := d80
        refine Step2.live (show wantedBy _ (f 80) = true by rw [d80]; rfl) ?_
        exact relUpon_value (v := f 85) rfl (hC) (Below.refl _ _) d85
      -- 17: slot 87 := load 25 t3
      · intro w L f hC hLi hLd hLn hF
        obtain ⟨d3, d86, _⟩ := hF
        have d3 : f 3 = .pointer (some ⟨ga, 0, none⟩) := d3
        have d86 : f 86 = .bool true := d86
        refine Step2.live (show wantedBy _ (f 86) = true by rw [d86]; rfl) ?_
        have hh := hga.out.below hC hga.out.lt
        have f0 := (hh.fact 0 rfl).2
        have f1 := (hh.fact 1 rfl).2
        have ev : ∀ t, evalOf f (.tmp t) = f t := fun _ => rfl
        have ec : ∀ c, evalOf f (.const c) = c := fun _ => rfl
        have ef : ∀ g, evalOf f (.func g) = .func (.func g) #[] #[] := fun _ => rfl
        refine relUpon_value ?_ hC (Below.refl _ _) rfl
        go_simp
      -- 18: slot 88 := call { value (Operand.func 18), args := #[t87], argTypes := #[25] }
      · intro w L f hC hLi hLd hLn hF
        obtain ⟨d87, d86, _⟩ := hF
        have d87 : f 87 = .agg #[.bool (Pz.nul pa), .slice Aa (List.length (Pz.cells pa)) ca] := d87
        have d86 : f 86 = .bool true := d86
        refine Step2.live (show wantedBy _ (f 86) = true by rw [d86]; rfl) ?_
        have ev : ∀ t, evalOf f (.tmp t) = f t := fun _ => rfl
        have ec : ∀ c, evalOf f (.const c) = c := fun _ => rfl
        have ef : ∀ g, evalOf f (.func g) = .func (.func g) #[] #[] := fun _ => rfl
        refine relUpon_call (f := 18) (args := #[.agg #[.bool (Pz.nul pa), .slice Aa (List.length (Pz.cells pa)) ca]]) (w := w) (by go_simp) (onlyNull_any w pa _ ⟨_, _, rfl, ((hra.out.below hC).more hC.size), hca⟩) ?_
        rintro e w1 ⟨⟨v, he, hv⟩, hB⟩
        exact ⟨_, he, hC.trans (hB.mono hC.size), hB, hv⟩
      -- 19: slot 89 := call { value (Operand.func 15), args := #[t88], argTypes := #[25] }
      · intro w L f hC hLi hLd hLn hF
        obtain ⟨d88, d86, _⟩ := hF
        have d86 : f 86 = .bool true := d86
        refine Step2.live (show wantedBy _ (f 86) = true by rw [d86]; rfl) ?_
        obtain ⟨A88, c88, e88, hr88, hc88⟩ := d88
        have ev : ∀ t, evalOf f (.tmp t) = f t := fun _ => rfl
        have ec : ∀ c, evalOf f (.const c) = c := fun _ => rfl
        have ef : ∀ g, evalOf f (.func g) = .func (.func g) #[] #[] := fun _ => rfl
        refine relUpon_call (f := 15) (args := #[.agg #[.bool (Pz.nul (⟨Pz.nul pa, []⟩ : Pz)), .slice A88 (List.length (Pz.cells (⟨Pz.nul pa, []⟩ : Pz))) c88]]) (w := w) (by go_simp) (empty_any w (⟨Pz.nul pa, []⟩ : Pz) _ ⟨_, _, rfl, hr88, hc88⟩ (Nat.zero_le _)) ?_
        rintro e w1 ⟨he, hB⟩
        exact ⟨_, he, hC.trans (hB.mono hC.size), hB, congrArg Value.bool (by simp)⟩
      -- 20: slot 90 := pick t86 t89 (const (Value.bool false))
      · intro w L f hC hLi hLd hLn hF
        obtain ⟨d86, d89, d80, _⟩ := hF
        have d86 : f 86 = .bool true := d86
        have d89 : f 89 = .bool (!pa.nul) := d89
        have d80 : f 80 = .bool true := d80
        refine Step2.live (show wantedBy _ (f 80) = true by rw [d80]; rfl) ?_
        have ev : ∀ t, evalOf f (.tmp t) = f t := fun _ => rfl
        have ec : ∀ c, evalOf f (.const c) = c := fun _ => rfl
        refine relUpon_value ?_ (hC) (Below.refl _ _) rfl
        go_simp
      -- 21: slot 91 := binOp BinOp.eql 4 t82 t90 4
      · intro w L f hC hLi hLd hLn hF
        obtain ⟨d82, d90, d80, _⟩ := hF
        have d82 : f 82 = .bool (!pa.nul) := d82
        have d90 : f 90 = .bool (!pa.nul) := d90
        have d80 : f 80 = .bool true := d80
        refine Step2.live (show wantedBy _ (f 80) = true by rw [d80]; rfl) ?_
        have ev : ∀ t, evalOf f (.tmp t) = f t := fun _ => rfl
        have ec : ∀ c, evalOf f (.const c) = c := fun _ => rfl
        refine relUpon_value ?_ (hC) (Below.refl _ _) rfl
        go_simp
      -- 22: slot 92 := pick t80 t91 (const (Value.bool false))
      · intro w L f hC hLi hLd hLn hF
        obtain ⟨d80, d91, _⟩ := hF
        have d80 : f 80 = .bool true := d80
        have d91 : f 91 = .bool true := d91
        refine Step2.live rfl ?_
        have ev : ∀ t, evalOf f (.tmp t) = f t := fun _ => rfl
        have ec : ∀ c, evalOf f (.const c) = c := fun _ => rfl
        refine relUpon_value ?_ (hC) (Below.refl _ _) rfl
        go_simp
      -- 23: slot 6 := assign t92
      · intro w L f hC hLi hLd hLn hF
        obtain ⟨d92, _⟩ := hF
        have d92 : f 92 = .bool true := d92
        refine Step2.live rfl ?_
        exact relUpon_value (v := f 92) rfl (hC) (Below.refl _ _) d92
    intro x w' hC hV

    have e0 := hV 23 _ rfl rfl
    clear hV
    simp only [framed]
    rw [e0]
    clear e0
    go_wp2_with fail
    go_ret
    exact ⟨rfl, by rw [hgan.out]; exact hk5.out.trans (hC.mono hkz5.out)⟩
  · have hem : Hid (pa.cells.isEmpty = false) := Lib.hid (by simpa using hem0)
    clear hem0
    -- THE REGION THAT DRAWS ITS ORDER, BY ONE LEXICAL WALK OVER GENERIC VALUES (written by relgen.py)
    refine wp_region_tab ((fun _ v => v = .agg #[.bool (Pz.nul pa), .slice Aa (List.length (Pz.cells pa)) ca]) ::
      (fun w v => PtsV w ((⟨false, canon (Pz.cells pa)⟩ : Pz)) v) ::
      (fun _ v => v = .agg #[.bool (Pz.nul pa), .slice Aa (List.length (Pz.cells pa)) ca]) ::
      (fun w v => PtsV w ((⟨Pz.nul pa, []⟩ : Pz)) v) ::
      (fun w v => PLs w [(⟨false, canon (Pz.cells pa)⟩ : Pz), (⟨Pz.nul pa, []⟩ : Pz)] v) ::
      (fun w v => PtsV w ((J2 (⟨false, canon (Pz.cells pa)⟩ : Pz) (⟨Pz.nul pa, []⟩ : Pz))) v) ::
      (fun _ v => v = .agg #[.bool (Pz.nul pa), .slice Aa (List.length (Pz.cells pa)) ca]) ::
      (fun w v => PLs w [pa] v) ::
      (fun w v => PtsV w ((⟨Pz.nul pa, canon (Pz.cells pa)⟩ : Pz)) v) ::
      (fun _ v => v = .bool true) ::
      (fun _ v => v = .bool true) ::
      (fun _ v => v = .agg #[.bool (Pz.nul pa), .slice Aa (List.length (Pz.cells pa)) ca]) ::
      (fun _ v => v = .bool false) ::
      (fun _ v => v = .agg #[.bool (Pz.nul pa), .slice Aa (List.length (Pz.cells pa)) ca]) ::
      (fun w v => PtsV w ((⟨false, canon (Pz.cells pa)⟩ : Pz)) v) ::
      (fun _ v => v = .bool false) ::
      (fun _ v => v = .bool false) ::
      (fun _ _ => True /- slot 87 ?? load 25 t3 -/) ::
      (fun _ _ => True /- slot 88 ?? call { value (Operand.func 18), args := #[t87], argTypes :=  -/) ::
      (fun _ _ => True /- slot 89 ?? call { value (Operand.func 15), args := #[t88], argTypes :=  -/) ::
      (fun _ v => v = .bool false) ::
      (fun _ v => v = .bool true) ::
      (fun _ v => v = .bool true) ::
      (fun _ v => v = .bool true) :: [])
      (⟨[(3, none)], 0, []⟩ :: ⟨[(70, some 0)], 0, []⟩ :: ⟨[(3, none)], 0, []⟩ :: ⟨[(72, some 2)], 0, []⟩ :: ⟨[(71, some 1), (73, some 3)], 0, []⟩ :: ⟨[(74, some 4)], 0, []⟩ :: ⟨[(3, none)], 0, []⟩ :: ⟨[(76, some 6)], 0, []⟩ :: ⟨[(77, some 7)], 0, []⟩ :: ⟨[(75, some 5), (78, some 8)], 0, []⟩ :: ⟨[(79, some 9)], 0, []⟩ :: ⟨[(3, none), (80, some 10)], 80, []⟩ :: ⟨[(81, some 11), (80, some 10)], 80, []⟩ :: ⟨[(3, none), (80, some 10)], 80, []⟩ :: ⟨[(83, some 13), (80, some 10)], 80, []⟩ :: ⟨[(84, some 14), (80, some 10)], 80, []⟩ :: ⟨[(85, some 15), (80, some 10)], 80, []⟩ :: ⟨[(3, none), (86, some 16)], 86, []⟩ :: ⟨[(87, some 17), (86, some 16)], 86, []⟩ :: ⟨[(88, some 18), (86, some 16)], 86, []⟩ :: ⟨[(86, some 16), (89, some 19), (80, some 10)], 80, []⟩ :: ⟨[(82, some 12), (90, some 20), (80, some 10)], 80, []⟩ :: ⟨[(80, some 10), (91, some 21)], 0, []⟩ :: ⟨[(92, some 22)], 0, []⟩ :: [])
      (none :: none :: none :: none :: none :: none :: some 23 :: none :: none :: none :: none :: none :: none :: none :: none :: none :: none :: none :: none :: none :: none :: none :: none :: none :: none :: none :: none :: none :: none :: none :: none :: none :: none :: none :: none :: none :: none :: none :: none :: none :: none :: none :: none :: none :: none :: none :: none :: none :: none :: none :: none :: none :: none :: none :: none :: none :: none :: none :: none :: none :: none :: none :: none :: none :: none :: none :: none :: none :: none :: none :: some 0 :: some 1 :: some 2 :: some 3 :: some 4 :: some 5 :: some 6 :: some 7 :: some 8 :: some 9 :: some 10 :: some 11 :: some 12 :: some 13 :: some 14 :: some 15 :: some 16 :: some 17 :: some 18 :: some 19 :: some 20 :: some 21 :: some 22 :: [])
      (fun _ w' => Below wr.heap.size wr w') (fun _ w w' => Below w.heap.size w w') ?mixK8lat8f ?okK8lat8f ?tabK8lat8f ?frK8lat8f ?inK8lat8f ?keptK8lat8f ?startK8lat8f ?eachK8lat8f ?finK8lat8f
    case mixK8lat8f => kernel_rfl
    case okK8lat8f => kernel_rfl
    case tabK8lat8f => kernel_rfl
    case frK8lat8f => kernel_rfl
    case inK8lat8f => rfl
    case keptK8lat8f => exact ⟨fun _ _ _ _ _ _ _ h => h, fun _ _ _ => fun w w' v hG h => h.up hG, fun _ _ _ _ _ _ _ h => h, fun _ _ _ => fun w w' v hG h => h.up hG, fun _ _ _ => fun w w' v hG h => h.up hG, fun _ _ _ => fun w w' v hG h => h.up hG, fun _ _ _ _ _ _ _ h => h, fun _ _ _ => fun w w' v hG h => h.up hG, fun _ _ _ => fun w w' v hG h => h.up hG, fun _ _ _ _ _ _ _ h => h, fun _ _ _ _ _ _ _ h => h, fun _ _ _ _ _ _ _ h => h, fun _ _ _ _ _ _ _ h => h, fun _ _ _ _ _ _ _ h => h, fun _ _ _ => fun w w' v hG h => h.up hG, fun _ _ _ _ _ _ _ h => h, fun _ _ _ _ _ _ _ h => h, fun _ _ _ _ _ _ _ h => h, fun _ _ _ _ _ _ _ h => h, fun _ _ _ _ _ _ _ h => h, fun _ _ _ _ _ _ _ h => h, fun _ _ _ _ _ _ _ h => h, fun _ _ _ _ _ _ _ h => h, fun _ _ _ _ _ _ _ h => h, trivial⟩
    case startK8lat8f => exact (Below.refl _ _).drew
    case eachK8lat8f =>
      refine ⟨?_, ?_, ?_, ?_, ?_, ?_, ?_, ?_, ?_, ?_, ?_, ?_, ?_, ?_, ?_, ?_, ?_, ?_, ?_, ?_, ?_, ?_, ?_, ?_, trivial⟩
      -- 0: slot 70 := load 25 t3
      · intro w L f hC hLi hLd hLn hF
        obtain ⟨d3, _⟩ := hF
        have d3 : f 3 = .pointer (some ⟨ga, 0, none⟩) := d3
        refine Step2.live rfl ?_
        have hh := hga.out.below hC hga.out.lt
        have f0 := (hh.fact 0 rfl).2
        have f1 := (hh.fact 1 rfl).2
        have ev : ∀ t, evalOf f (.tmp t) = f t := fun _ => rfl
        have ec : ∀ c, evalOf f (.const c) = c := fun _ => rfl
        have ef : ∀ g, evalOf f (.func g) = .func (.func g) #[] #[] := fun _ => rfl
        refine relUpon_value ?_ hC (Below.refl _ _) rfl
        go_simp
      -- 1: slot 71 := call { value (Operand.func 17), args := #[t70], argTypes := #[25] }
      · intro w L f hC hLi hLd hLn hF
        obtain ⟨d70, _⟩ := hF
        have d70 : f 70 = .agg #[.bool (Pz.nul pa), .slice Aa (List.length (Pz.cells pa)) ca] := d70
        refine Step2.live rfl ?_
        have ev : ∀ t, evalOf f (.tmp t) = f t := fun _ => rfl
        have ec : ∀ c, evalOf f (.const c) = c := fun _ => rfl
        have ef : ∀ g, evalOf f (.func g) = .func (.func g) #[] #[] := fun _ => rfl
        refine relUpon_call (f := 17) (args := #[.agg #[.bool (Pz.nul pa), .slice Aa (List.length (Pz.cells pa)) ca]]) (w := w) (by go_simp) (noNull_any w pa _ ⟨_, _, rfl, ((hra.out.below hC).more hC.size), hca⟩ (by have := J2_len pa pb; have := J2_len (J2 pa pb) pc; have := J2_len pb pc; have := J2_len pa (J2 pb pc); have := J2_len pb pa; omega)) ?_
        rintro e w1 ⟨⟨v, he, hv⟩, hB⟩
        exact ⟨_, he, hC.trans (hB.mono hC.size), hB, hv⟩
      -- 2: slot 72 := load 25 t3
      · intro w L f hC hLi hLd hLn hF
        obtain ⟨d3, _⟩ := hF
        have d3 : f 3 = .pointer (some ⟨ga, 0, none⟩) := d3
        refine Step2.live rfl ?_
        have hh := hga.out.below hC hga.out.lt
        have f0 := (hh.fact 0 rfl).2
        have f1 := (hh.fact 1 rfl).2
        have ev : ∀ t, evalOf f (.tmp t) = f t := fun _ => rfl
        have ec : ∀ c, evalOf f (.const c) = c := fun _ => rfl
        have ef : ∀ g, evalOf f (.func g) = .func (.func g) #[] #[] := fun _ => rfl
        refine relUpon_value ?_ hC (Below.refl _ _) rfl
        go_simp
      -- 3: slot 73 := call { value (Operand.func 18), args := #[t72], argTypes := #[25] }
      · intro w L f hC hLi hLd hLn hF
        obtain ⟨d72, _⟩ := hF
        have d72 : f 72 = .agg #[.bool (Pz.nul pa), .slice Aa (List.length (Pz.cells pa)) ca] := d72
        refine Step2.live rfl ?_
        have ev : ∀ t, evalOf f (.tmp t) = f t := fun _ => rfl
        have ec : ∀ c, evalOf f (.const c) = c := fun _ => rfl
        have ef : ∀ g, evalOf f (.func g) = .func (.func g) #[] #[] := fun _ => rfl
        refine relUpon_call (f := 18) (args := #[.agg #[.bool (Pz.nul pa), .slice Aa (List.length (Pz.cells pa)) ca]]) (w := w) (by go_simp) (onlyNull_any w pa _ ⟨_, _, rfl, ((hra.out.below hC).more hC.size), hca⟩) ?_
        rintro e w1 ⟨⟨v, he, hv⟩, hB⟩
        exact ⟨_, he, hC.trans (hB.mono hC.size), hB, hv⟩
      -- 4: slot 74 := buildSlice 22 2 #[(0, t71), (1, t73)]
      · intro w L f hC hLi hLd hLn hF
        obtain ⟨d71, d73, _⟩ := hF
        refine Step2.live rfl ?_
        obtain ⟨A71, c71, e71, hr71, hc71⟩ := d71
        obtain ⟨A73, c73, e73, hr73, hc73⟩ := d73
        have hbn := below_new w (.cells #[.bool (Pz.nul (⟨false, canon (Pz.cells pa)⟩ : Pz)), .slice A71 (List.length (Pz.cells (⟨false, canon (Pz.cells pa)⟩ : Pz))) c71, .bool (Pz.nul (⟨Pz.nul pa, []⟩ : Pz)), .slice A73 (List.length (Pz.cells (⟨Pz.nul pa, []⟩ : Pz))) c73] 25)
        have ev : ∀ t, evalOf f (.tmp t) = f t := fun _ => rfl
        have ec : ∀ c, evalOf f (.const c) = c := fun _ => rfl
        have ef : ∀ g, evalOf f (.func g) = .func (.func g) #[] #[] := fun _ => rfl
        refine relUpon_value (w' := w.alloc (.cells #[.bool (Pz.nul (⟨false, canon (Pz.cells pa)⟩ : Pz)), .slice A71 (List.length (Pz.cells (⟨false, canon (Pz.cells pa)⟩ : Pz))) c71, .bool (Pz.nul (⟨Pz.nul pa, []⟩ : Pz)), .slice A73 (List.length (Pz.cells (⟨Pz.nul pa, []⟩ : Pz))) c73] 25)) (v := .slice (some ⟨w.heap.size, 0, none⟩) 2 2) (by go_simp) (hC.trans (hbn.mono hC.size)) hbn (PLs.two w 25 hr71 hc71 hr73 hc73)
      -- 5: slot 75 := call { value (Operand.func 11), args := #[t74], argTypes := #[22] }
      · intro w L f hC hLi hLd hLn hF
        obtain ⟨d74, _⟩ := hF
        refine Step2.live rfl ?_
        obtain ⟨A74, c74, L74, e74, hl74, hp74⟩ := d74
        have ev : ∀ t, evalOf f (.tmp t) = f t := fun _ => rfl
        have ec : ∀ c, evalOf f (.const c) = c := fun _ => rfl
        have ef : ∀ g, evalOf f (.func g) = .func (.func g) #[] #[] := fun _ => rfl
        refine relUpon_call (f := 11) (args := #[.slice A74 2 c74]) (w := w) (by go_simp) (join_two w hl74 hp74 (by show (canon pa.cells).length ≤ _; have := canon_len pa.cells; omega) (Nat.zero_le _)) ?_
        rintro e w1 ⟨⟨v, he, hv⟩, hB⟩
        exact ⟨_, he, hC.trans (hB.mono hC.size), hB, hv⟩
      -- 6: slot 76 := load 25 t3
      · intro w L f hC hLi hLd hLn hF
        obtain ⟨d3, _⟩ := hF
        have d3 : f 3 = .pointer (some ⟨ga, 0, none⟩) := d3
        refine Step2.live rfl ?_
        have hh := hga.out.below hC hga.out.lt
        have f0 := (hh.fact 0 rfl).2
        have f1 := (hh.fact 1 rfl).2
        have ev : ∀ t, evalOf f (.tmp t) = f t := fun _ => rfl
        have ec : ∀ c, evalOf f (.const c) = c := fun _ => rfl
        have ef : ∀ g, evalOf f (.func g) = .func (.func g) #[] #[] := fun _ => rfl
        refine relUpon_value ?_ hC (Below.refl _ _) rfl
        go_simp
      -- 7: slot 77 := buildSlice 22 1 #[(0, t76)]
      · intro w L f hC hLi hLd hLn hF
        obtain ⟨d76, _⟩ := hF
        have d76 : f 76 = .agg #[.bool (Pz.nul pa), .slice Aa (List.length (Pz.cells pa)) ca] := d76
        refine Step2.live rfl ?_
        have hbn := below_new w (.cells #[.bool (Pz.nul pa), .slice Aa (List.length (Pz.cells pa)) ca] 25)
        have ev : ∀ t, evalOf f (.tmp t) = f t := fun _ => rfl
        have ec : ∀ c, evalOf f (.const c) = c := fun _ => rfl
        have ef : ∀ g, evalOf f (.func g) = .func (.func g) #[] #[] := fun _ => rfl
        refine relUpon_value (w' := w.alloc (.cells #[.bool (Pz.nul pa), .slice Aa (List.length (Pz.cells pa)) ca] 25)) (v := .slice (some ⟨w.heap.size, 0, none⟩) 1 1) (by go_simp) (hC.trans (hbn.mono hC.size)) hbn (PLs.one w 25 ((hra.out.below hC).more hC.size) hca)
      -- 8: slot 78 := call { value (Operand.func 11), args := #[t77], argTypes := #[22] }
      · intro w L f hC hLi hLd hLn hF
        obtain ⟨d77, _⟩ := hF
        refine Step2.live rfl ?_
        obtain ⟨A77, c77, L77, e77, hl77, hp77⟩ := d77
        have ev : ∀ t, evalOf f (.tmp t) = f t := fun _ => rfl
        have ec : ∀ c, evalOf f (.const c) = c := fun _ => rfl
        have ef : ∀ g, evalOf f (.func g) = .func (.func g) #[] #[] := fun _ => rfl
        refine relUpon_call (f := 11) (args := #[.slice A77 1 c77]) (w := w) (by go_simp) (join_one w hl77 hp77 (by have := J2_len pa pb; have := J2_len (J2 pa pb) pc; have := J2_len pb pc; have := J2_len pa (J2 pb pc); have := J2_len pb pa; omega)) ?_
        rintro e w1 ⟨⟨v, he, hv⟩, hB⟩
        exact ⟨_, he, hC.trans (hB.mono hC.size), hB, hv⟩
      -- 9: slot 79 := call { value (Operand.func 10), args := #[t75, t78], argTypes := #[25, 25] }
      · intro w L f hC hLi hLd hLn hF
        obtain ⟨d75, d78, _⟩ := hF
        refine Step2.live rfl ?_
        obtain ⟨A75, c75, e75, hr75, hc75⟩ := d75
        obtain ⟨A78, c78, e78, hr78, hc78⟩ := d78
        have ev : ∀ t, evalOf f (.tmp t) = f t := fun _ => rfl
        have ec : ∀ c, evalOf f (.const c) = c := fun _ => rfl
        have ef : ∀ g, evalOf f (.func g) = .func (.func g) #[] #[] := fun _ => rfl
        refine relUpon_call (f := 10) (args := #[.agg #[.bool (Pz.nul (J2 (⟨false, canon (Pz.cells pa)⟩ : Pz) (⟨Pz.nul pa, []⟩ : Pz))), .slice A75 (List.length (Pz.cells (J2 (⟨false, canon (Pz.cells pa)⟩ : Pz) (⟨Pz.nul pa, []⟩ : Pz)))) c75], .agg #[.bool (Pz.nul (⟨Pz.nul pa, canon (Pz.cells pa)⟩ : Pz)), .slice A78 (List.length (Pz.cells (⟨Pz.nul pa, canon (Pz.cells pa)⟩ : Pz))) c78]]) (w := w) (by go_simp) (ptsEq_any w (J2 (⟨false, canon (Pz.cells pa)⟩ : Pz) (⟨Pz.nul pa, []⟩ : Pz)) (⟨Pz.nul pa, canon (Pz.cells pa)⟩ : Pz) _ _ ⟨_, _, rfl, hr75, hc75⟩ ⟨_, _, rfl, hr78, hc78⟩ (Nat.le_trans (J2_len _ _) (by show (canon pa.cells).length + 0 ≤ _; have := canon_len pa.cells; omega)) (by show (canon pa.cells).length ≤ _; have := canon_len pa.cells; omega)) ?_
        rintro e w1 ⟨he, hB⟩
        exact ⟨_, he, hC.trans (hB.mono hC.size), hB, congrArg Value.bool (by rw [parts_whole]; exact sameP_rfl _)⟩
      -- 10: slot 80 := move t79
      · intro w L f hC hLi hLd hLn hF
        obtain ⟨d79, _⟩ := hF
        have d79 : f 79 = .bool true := d79
        refine Step2.live rfl ?_
        exact relUpon_value (v := f 79) rfl (hC) (Below.refl _ _) d79
      -- 11: slot 81 := load 25 t3
      · intro w L f hC hLi hLd hLn hF
        obtain ⟨d3, d80, _⟩ := hF
        have d3 : f 3 = .pointer (some ⟨ga, 0, none⟩) := d3
        have d80 : f 80 = .bool true := d80
        refine Step2.live (show wantedBy _ (f 80) = true by rw [d80]; rfl) ?_
        have hh := hga.out.below hC hga.out.lt
        have f0 := (hh.fact 0 rfl).2
        have f1 := (hh.fact 1 rfl).2
        have ev : ∀ t, evalOf f (.tmp t) = f t := fun _ => rfl
        have ec : ∀ c, evalOf f (.const c) = c := fun _ => rfl
        have ef : ∀ g, evalOf f (.func g) = .func (.func g) #[] #[] := fun _ => rfl
        refine relUpon_value ?_ hC (Below.refl _ _) rfl
        go_simp
      -- 12: slot 82 := call { value (Operand.func 15), args := #[t81], argTypes := #[25] }
      · intro w L f hC hLi hLd hLn hF
        obtain ⟨d81, d80, _⟩ := hF
        have d81 : f 81 = .agg #[.bool (Pz.nul pa), .slice Aa (List.length (Pz.cells pa)) ca] := d81
        have d80 : f 80 = .bool true := d80
        refine Step2.live (show wantedBy _ (f 80) = true by rw [d80]; rfl) ?_
        have ev : ∀ t, evalOf f (.tmp t) = f t := fun _ => rfl
        have ec : ∀ c, evalOf f (.const c) = c := fun _ => rfl
        have ef : ∀ g, evalOf f (.func g) = .func (.func g) #[] #[] := fun _ => rfl
        refine relUpon_call (f := 15) (args := #[.agg #[.bool (Pz.nul pa), .slice Aa (List.length (Pz.cells pa)) ca]]) (w := w) (by go_simp) (empty_any w pa _ ⟨_, _, rfl, ((hra.out.below hC).more hC.size), hca⟩ (by have := J2_len pa pb; have := J2_len (J2 pa pb) pc; have := J2_len pb pc; have := J2_len pa (J2 pb pc); have := J2_len pb pa; omega)) ?_
        rintro e w1 ⟨he, hB⟩
        exact ⟨_, he, hC.trans (hB.mono hC.size), hB, congrArg Value.bool (by rw [hem.out]; simp)⟩
      -- 13: slot 83 := load 25 t3
      · intro w L f hC hLi hLd hLn hF
        obtain ⟨d3, d80, _⟩ := hF
        have d3 : f 3 = .pointer (some ⟨ga, 0, none⟩) := d3
        have d80 : f 80 = .bool true := d80
        refine Step2.live (show wantedBy _ (f 80) = true by rw [d80]; rfl) ?_
        have hh := hga.out.below hC hga.out.lt
        have f0 := (hh.fact 0 rfl).2
        have f1 := (hh.fact 1 rfl).2
        have ev : ∀ t, evalOf f (.tmp t) = f t := fun _ => rfl
        have ec : ∀ c, evalOf f (.const c) = c := fun _ => rfl
        have ef : ∀ g, evalOf f (.func g) = .func (.func g) #[] #[] := fun _ => rfl
        refine relUpon_value ?_ hC (Below.refl _ _) rfl
        go_simp
      -- 14: slot 84 := call { value (Operand.func 17), args := #[t83], argTypes := #[25] }
      · intro w L f hC hLi hLd hLn hF
        obtain ⟨d83, d80, _⟩ := hF
        have d83 : f 83 = .agg #[.bool (Pz.nul pa), .slice Aa (List.length (Pz.cells pa)) ca] := d83
        have d80 : f 80 = .bool true := d80
        refine Step2.live (show wantedBy _ (f 80) = true by rw [d80]; rfl) ?_
        have ev : ∀ t, evalOf f (.tmp t) = f t := fun _ => rfl
        have ec : ∀ c, evalOf f (.const c) = c := fun _ => rfl
        have ef : ∀ g, evalOf f (.func g) = .func (.func g) #[] #[] := fun _ => rfl
        refine relUpon_call (f := 17) (args := #[.agg #[.bool (Pz.nul pa), .slice Aa (List.length (Pz.cells pa)) ca]]) (w := w) (by go_simp) (noNull_any w pa _ ⟨_, _, rfl, ((hra.out.below hC).more hC.size), hca⟩ (by have := J2_len pa pb; have := J2_len (J2 pa pb) pc; have := J2_len pb pc; have := J2_len pa (J2 pb pc); have := J2_len pb pa; omega)) ?_
        rintro e w1 ⟨⟨v, he, hv⟩, hB⟩
        exact ⟨_, he, hC.trans (hB.mono hC.size), hB, hv⟩
      -- 15: slot 85 := call { value (Operand.func 15), args := #[t84], argTypes := #[25] }
      · intro w L f hC hLi hLd hLn hF
        obtain ⟨d84, d80, _⟩ := hF
        have d80 : f 80 = .bool true := d80
        refine Step2.live (show wantedBy _ (f 80) = true by rw [d80]; rfl) ?_
        obtain ⟨A84, c84, e84, hr84, hc84⟩ := d84
        have ev : ∀ t, evalOf f (.tmp t) = f t := fun _ => rfl
        have ec : ∀ c, evalOf f (.const c) = c := fun _ => rfl
        have ef : ∀ g, evalOf f (.func g) = .func (.func g) #[] #[] := fun _ => rfl
        refine relUpon_call (f := 15) (args := #[.agg #[.bool (Pz.nul (⟨false, canon (Pz.cells pa)⟩ : Pz)), .slice A84 (List.length (Pz.cells (⟨false, canon (Pz.cells pa)⟩ : Pz))) c84]]) (w := w) (by go_simp) (empty_any w (⟨false, canon (Pz.cells pa)⟩ : Pz) _ ⟨_, _, rfl, hr84, hc84⟩ (by show (canon pa.cells).length ≤ _; have := canon_len pa.cells; omega)) ?_
        rintro e w1 ⟨he, hB⟩
        exact ⟨_, he, hC.trans (hB.mono hC.size), hB, congrArg Value.bool (by simp only [canon_empty]; rw [hem.out]; rfl)⟩
      -- 16: slot 86 := move t85
      · intro w L f hC hLi hLd hLn hF
        obtain ⟨d85, d80, _⟩ := hF
        have d85 : f 85 = .bool false := d85
        have d80 : f 80 = .bool true := d80
        refine Step2.live (show wantedBy _ (f 80) = true by rw [d80]; rfl) ?_
        exact relUpon_value (v := f 85) rfl (hC) (Below.refl _ _) d85
      -- 17: slot 87 := load 25 t3
      · intro w L f hC hLi hLd hLn hF
        obtain ⟨d3, d86, _⟩ := hF
        have d3 : f 3 = .pointer (some ⟨ga, 0, none⟩) := d3
        have d86 : f 86 = .bool false := d86
        refine Step2.dead (show wantedBy _ (f 86) = false by rw [d86]; rfl) (hC) ?_
        trivial
      -- 18: slot 88 := call { value (Operand.func 18), args := #[t87], argTypes := #[25] }
      · intro w L f hC hLi hLd hLn hF
        obtain ⟨d87, d86, _⟩ := hF
        have d86 : f 86 = .bool false := d86
        refine Step2.dead (show wantedBy _ (f 86) = false by rw [d86]; rfl) (hC) ?_
        trivial
      -- 19: slot 89 := call { value (Operand.func 15), args := #[t88], argTypes := #[25] }
      · intro w L f hC hLi hLd hLn hF
        obtain ⟨d88, d86, _⟩ := hF
        have d86 : f 86 = .bool false := d86
        refine Step2.dead (show wantedBy _ (f 86) = false by rw [d86]; rfl) (hC) ?_
        trivial
      -- 20: slot 90 := pick t86 t89 (const (Value.bool false))
      · intro w L f hC hLi hLd hLn hF
        obtain ⟨d86, d89, d80, _⟩ := hF
        have d86 : f 86 = .bool false := d86
        have d80 : f 80 = .bool true := d80
        refine Step2.live (show wantedBy _ (f 80) = true by rw [d80]; rfl) ?_
        have ev : ∀ t, evalOf f (.tmp t) = f t := fun _ => rfl
        have ec : ∀ c, evalOf f (.const c) = c := fun _ => rfl
        refine relUpon_value ?_ (hC) (Below.refl _ _) rfl
        go_simp
      -- 21: slot 91 := binOp BinOp.eql 4 t82 t90 4
      · intro w L f hC hLi hLd hLn hF
        obtain ⟨d82, d90, d80, _⟩ := hF
        have d82 : f 82 = .bool false := d82
        have d90 : f 90 = .bool false := d90
        have d80 : f 80 = .bool true := d80
        refine Step2.live (show wantedBy _ (f 80) = true by rw [d80]; rfl) ?_
        have ev : ∀ t, evalOf f (.tmp t) = f t := fun _ => rfl
        have ec : ∀ c, evalOf f (.const c) = c := fun _ => rfl
        refine relUpon_value ?_ (hC) (Below.refl _ _) rfl
        go_simp
      -- 22: slot 92 := pick t80 t91 (const (Value.bool false))
      · intro w L f hC hLi hLd hLn hF
        obtain ⟨d80, d91, _⟩ := hF
        have d80 : f 80 = .bool true := d80
        have d91 : f 91 = .bool true := d91
        refine Step2.live rfl ?_
        have ev : ∀ t, evalOf f (.tmp t) = f t := fun _ => rfl
        have ec : ∀ c, evalOf f (.const c) = c := fun _ => rfl
        refine relUpon_value ?_ (hC) (Below.refl _ _) rfl
        go_simp
      -- 23: slot 6 := assign t92
      · intro w L f hC hLi hLd hLn hF
        obtain ⟨d92, _⟩ := hF
        have d92 : f 92 = .bool true := d92
        refine Step2.live rfl ?_
        exact relUpon_value (v := f 92) rfl (hC) (Below.refl _ _) d92
    intro x w' hC hV

    have e0 := hV 23 _ rfl rfl
    clear hV
    simp only [framed]
    rw [e0]
    clear e0
    go_wp2_with fail
    go_ret
    exact ⟨rfl, by rw [hgan.out]; exact hk5.out.trans (hC.mono hkz5.out)⟩
end Go.Proofs.Ytkohobkeapcpfaa
