/-
  The walk of the statement WalForeign.
-/
import Derived.Test.YtncddkbagmelkaaWi
namespace Go.Proofs.Ytncddkbagmelkaa
open Go.RowKit Go.Deep

theorem xor_bytes (a b : UInt8) : ∃ c : UInt8, bits .xor .u8 (a.toNat : Int) (b.toNat : Int) = (c.toNat : Int) := by
  have h1 := a.toNat_lt
  have h2 := b.toNat_lt
  exact ⟨a ^^^ b, by rw [u8_xor_nat a.toNat b.toNat h1 h2, UInt8.toNat_xor]⟩
theorem place_any (w : World) (k : Int) (n : Nat) (h0 : 0 < n) (hn : n ≤ 100000000000) :
    Calls Try.prog 16 #[.int .i64 k, .int .i64 n] w fun e w' => (∃ r : Nat, e = .returned (.int .i64 r) ∧ r < n) ∧ w' = w := by
  have hr1 := Int.tmod_lt_of_pos k (show (0 : Int) < n by omega)
  have hr2 : -(n : Int) < Int.tmod k n := by
    have := Int.tmod_lt_of_pos (-k) (show (0 : Int) < n by omega)
    rw [Int.neg_tmod] at this
    omega
  have hne : ¬ (n : Int) = 0 := by omega
  by_cases hneg : Int.tmod k n < 0
  · go_enter Try.func16, Try.ntmps16
    go_wp2
    go_ret
    exact ⟨⟨(Int.tmod k n + n).toNat, ret_int (by omega), by omega⟩, rfl⟩
  · go_enter Try.func16, Try.ntmps16
    go_wp2
    go_ret
    exact ⟨⟨(Int.tmod k n).toNat, ret_int (by omega), by omega⟩, rfl⟩
/-- A disk with power, new since B. -/
structure Dk (B n s gq : Nat) (q : DR) (w : World) : Prop where
  disk : DiskP q w
  hi : Hi B q
  dead : q.dead = false
  cut : q.cut = false
  hn : q.n = n
  hs : q.size = s
  eq : q.g = gq
theorem Dk.below {B n s gq : Nat} {q : DR} {w w' : World} (h : Dk B n s gq q w) (hb : Below w.heap.size w w') : Dk B n s gq q w' := ⟨h.disk.below hb, h.hi, h.dead, h.cut, h.hn, h.hs, h.eq⟩
/-- A write, or a flush, is done where there is power. -/
theorem Left.dk {B n s gq : Nat} {q : DR} {w w' : World} {r : AD × Nat} {e : Ending} (h : Left q w r e w') (hd : Dk B n s gq q w) (hB : B ≤ w.heap.size) (h0 : r.2 = 0) (h1 : r.1.dead = false) (h2 : r.1.cut = false) (h3 : r.1.n = n) (h4 : r.1.size = s) : e = .returned (.int .i64 0) ∧ ∃ q', Dk B n s gq q' w' ∧ Below B w w' ∧ DStep q w q' w' := by
  obtain ⟨rfl, q', hst, hab⟩ := h
  obtain ⟨b1, b2⟩ := hst.hi hB hd.hi
  refine ⟨by rw [h0]; rfl, q', ⟨hst.post, b2, ?_, ?_, ?_, ?_, hst.g.trans hd.eq⟩, b1, hst⟩
  · rw [← hab] at h1; exact h1
  · rw [← hab] at h2; exact h2
  · rw [← hab] at h3; exact h3
  · rw [← hab] at h4; exact h4
set_option maxRecDepth 100000 in
set_option maxHeartbeats 8000000 in
theorem foreign_walk (W : World) (v0 v1 v2 : Value) (o0 : ArgOk 22 W v0) (o1 : ArgOk 23 W v1) (o2 : ArgOk 23 W v2) :
    Calls Try.prog 3 #[v0, v1, v2] W fun e w' => e = .returned (.bool true) ∧ Below W.heap.size W w' := by
  obtain ⟨At, mt, ct, lt, rfl, hlt, hmt, hct, hut, hbt⟩ := o0.u16s
  obtain ⟨Ax, mx, cx, lx, rfl, hlx, hmx, hcx, hbx⟩ := o1.bytes
  obtain ⟨Al, ml, cl, ll, rfl, hll, hml, hcl, hbl⟩ := o2.bytes
  clear o0 o1 o2
  have hkn := known_any W
  have hbt' := Lib.hid hbt
  have hbx' := Lib.hid hbx
  have hbl' := Lib.hid hbl
  have hlt' := Lib.hid hlt
  have hlx' := Lib.hid hlx
  have hll' := Lib.hid hll
  have hut' := Lib.hid hut
  clear hbt hbx hbl hlt hlx hll hut hmt hmx hml hct hcx hcl
  go_enter Try.func3, Try.ntmps3
  go_wp2_with fail
  refine hkn.mono ?_
  clear hkn
  rintro e w1 ⟨rfl, hb1⟩
  have hB1 := Lib.hid hb1
  clear hb1
  by_cases h30 : 30 < mt
  · have hmi : (30 : Int) < (mt : Int) := by omega
    go_wp2_with fail
    go_ret
    exact ⟨rfl, hB1.out⟩
  have hm1 : ¬ (30 : Int) < (mt : Int) := by omega
  by_cases hxt : mx < mt
  · have hmi : (mx : Int) < (mt : Int) := by omega
    go_wp2_with fail
    go_ret
    exact ⟨rfl, hB1.out⟩
  have hm2 : ¬ (mx : Int) < (mt : Int) := by omega
  by_cases h6 : 6 < ml
  · have hmi : (6 : Int) < (ml : Int) := by omega
    go_wp2_with fail
    go_ret
    exact ⟨rfl, hB1.out⟩
  have hm3 : ¬ (6 : Int) < (ml : Int) := by omega
  have hnd : Calls Try.prog 12 #[.int .i64 60, .int .i64 256] w1 _ := newd_any w1 60 256 (by omega) (by omega) (by omega) (by omega)
  go_wp2_with fail
  refine hnd.mono ?_
  clear hnd
  rintro e w2 ⟨q0, rfl, hN, hge, hb2, hF⟩
  have hB2 := Lib.hid (hB1.out.trans (hb2.mono hB1.out.size))
  have hop := open_new (B := W.heap.size) (by omega) (by omega) hN (fun x hx => Nat.le_trans hB1.out.size (hF x hx)) hB2.out.size
  clear hN hge hb2 hF
  go_wp2_with fail
  refine hop.mono ?_
  clear hop
  rintro e w3 ⟨q1, l1, c1, A1, rfl, hL, hs0, hu0, hb3, _⟩
  have hB3 := Lib.hid (hB2.out.trans hb3)
  obtain ⟨gl, hgl⟩ : ∃ g, g = l1.g := ⟨_, rfl⟩
  obtain ⟨gq, hgq⟩ : ∃ g, g = q0.g := ⟨_, rfl⟩
  rw [← hgl, ← hgq] at hL ⊢
  have hL3 := Lib.hid hL
  have hsu : Hid (l1.serial = 0 ∧ l1.used = 0) := Lib.hid ⟨hs0, hu0⟩
  clear hb3 hgl hgq hL hs0 hu0
  have hbt : Calls Try.prog 15 #[.int .i64 3, .slice Al ml cl] w3 _ := batch_sl w3 3 (by omega) Al ml cl ll hll'.out (by omega) ((hbl'.out.below hB3.out).more hB3.out.size)
  go_wp2_with fail
  refine hbt.mono ?_
  clear hbt
  rintro e w4 ⟨A2, c2, rfl, hsl, hc2, hb4⟩
  have hB4 := Lib.hid (hB3.out.trans (hb4.mono hB3.out.size))
  have hL4 := Lib.hid (hL3.out.below hb4)
  have hf4 : (framesF (batchF 3 ll)).length ≤ 1578 := by have := batchF_bound 3 ll; rw [hll'.out] at this; omega
  have hcm := commit_done (by omega) (by omega) hL4.out hB4.out.size (by have := hsu.out; omega) A2 ml c2 (batchF 3 ll) (by rw [batchF_length, hll'.out]) (by omega) hsl (batchF_notlong _ _) (by have := hsu.out; have : half 60 = 29 := rfl; omega)
  clear hsl hb4 hL3 hf4
  go_wp2_with fail
  refine hcm.mono ?_
  clear hcm
  rintro e w5 ⟨l5, q5, rfl, hD5, _, _⟩
  have hB5 := Lib.hid (hB4.out.trans hD5.bel)
  have hK5 : Hid (Dk W.heap.size 60 256 gq q5 w5) := Lib.hid ⟨hD5.lg.st.disk, hD5.lg.hi, hD5.lg.st.dead, hD5.lg.cut, hD5.lg.st.hn, hD5.lg.st.hsz, hD5.lg.eq⟩
  clear hD5 hL4 hB4 hsu
  go_wp2_with fail
  go_loopw [11] (fun iv wr => ∃ (i : Nat) (q : DR), i ≤ mt ∧ iv = .int .i64 i ∧ Hid (Dk W.heap.size 60 256 gq q wr) ∧ Hid (Below W.heap.size W wr)) (fun iv _ => mt - (intOf iv).toNat)
  case atStart => exact ⟨0, q5, by omega, rfl, hK5, hB5⟩
  obtain ⟨i, q, hi, rfl, hK, hB⟩ := hrel
  rename World => w0
  by_cases hit : i < mt
  · have hii : (i : Int) < (mt : Int) := by omega
    have hiw : IntKind.i64.wrap ((i : Int) + 1) = ((i + 1 : Nat) : Int) := by rw [IntWalk.i64_in _ (by omega)]; omega
    obtain ⟨bt, ot, rfl, _, hcell⟩ := (hbt'.out.below hB.out).at_ (k := i) (by simpa [hlt'.out] using hit)
    rw [List.getElem_map] at hcell
    obtain ⟨a, ha⟩ : ∃ a, a = lt[i]'(by rw [hlt'.out]; exact hit) := ⟨_, rfl⟩
    have hal : a < 65536 := by rw [ha]; exact hut'.out _ (List.getElem_mem _)
    rw [← ha] at hcell
    unfold u16V at hcell
    clear ha
    have hpl : Calls Try.prog 16 #[.int .i64 a, .int .i64 15360] w0 _ := place_any w0 a 15360 (by omega) (by omega)
    go_wp2_with fail
    refine hpl.mono ?_
    clear hpl
    rintro e w6 ⟨⟨p, rfl, hp⟩, e6⟩
    rw [e6]
    clear e6 w6
    have hrd := read_ok w0 q hK.out.disk hK.out.dead ((p : Int) / 256) (by rw [hK.out.hn]; omega)
    have hlw : Hid ((q.last ((p : Int) / 256)).length = 256) := Lib.hid (by rw [hK.out.disk.last_len, hK.out.hs])
    rw [hK.out.eq, hK.out.hs] at hrd
    go_wp2_with fail
    refine hrd.mono ?_
    clear hrd
    rintro e w7 ⟨⟨gb, cb, rfl, hbf⟩, hb7⟩
    obtain ⟨b, hbe⟩ : ∃ b, b = q.last ((p : Int) / 256) := ⟨_, rfl⟩
    rw [← hbe] at hbf hlw
    have hcb : 256 ≤ cb := by
      obtain ⟨_, _, _, h3, _⟩ := hbf.parts
      rw [hlw.out] at h3
      exact h3
    obtain ⟨bx, ox, hAx, _, hcx⟩ := (hbx'.out.below (hB.out.trans (hb7.mono hB.out.size))).at_ (k := i) (by rw [hlx'.out]; omega)
    subst hAx
    obtain ⟨x1, hx1⟩ : ∃ x, x = lx[i]'(by rw [hlx'.out]; omega) := ⟨_, rfl⟩
    rw [← hx1] at hcx
    clear hx1
    obtain ⟨pm, hpme⟩ : ∃ k, k = p % 256 := ⟨_, rfl⟩
    have hpml : pm < 256 := by omega
    obtain ⟨x0, hx0⟩ : ∃ x, x = b[pm]'(by rw [hlw.out]; exact hpml) := ⟨_, rfl⟩
    have hcb0 := hbf.cell (i := pm) (by rw [hlw.out]; exact hpml)
    rw [← hx0] at hcb0
    obtain ⟨y, hy⟩ := xor_bytes x0 x1
    obtain ⟨c0, hc0e⟩ : ∃ c, c = x0.toNat := ⟨_, rfl⟩
    obtain ⟨c1x, hc1e⟩ : ∃ c, c = x1.toNat := ⟨_, rfl⟩
    rw [← hc0e, ← hc1e] at hy
    have hgb : Hid (w0.heap.size ≤ gb) := Lib.hid (by obtain ⟨_, h1, _⟩ := hbf.parts; exact h1)
    obtain ⟨wr, hwr⟩ : ∃ x, x = w7 := ⟨_, rfl⟩
    rw [← hwr] at hbf hb7 hcx hcb0 ⊢
    clear hwr
    have hc0 : Hid (wr.cell? ⟨gb, pm, none⟩ = some (.int .u8 (c0 : Nat))) := Lib.hid (by rw [hcb0, hc0e]; rfl)
    have hc1 : Hid (wr.cell? ⟨bx, ox + i, none⟩ = some (.int .u8 (c1x : Nat))) := Lib.hid (by rw [hcx, hc1e])
    have hgl : Hid (gb < wr.heap.size) := Lib.hid hbf.lt
    have hbl : Hid (bx < wr.heap.size) := Lib.hid (cell_lt hcx)
    have hxor := Lib.hid hy
    have hpm : Hid ((p : Int) % 256 = (pm : Int)) := Lib.hid (by omega)
    have hbuf := Lib.hid hbf
    have hbl2 := hlw
    have hK7 := Lib.hid (hK.out.below hb7)
    have hB7 := Lib.hid (hB.out.trans (hb7.mono hB.out.size))
    clear hbe hx0 hcb0 hcx hc0e hc1e hy hbf hb7 hlw hcell hpme
    go_upto_region 16 with (fail)
    -- THE REGION THAT DRAWS ITS ORDER, BY ONE LEXICAL WALK OVER GENERIC VALUES (written by relgen.py)
    refine wp_region_tabL ((fun _ _ v => v = .slice (some ⟨gb, 0, none⟩) 256 cb) ::
      (fun _ _ v => v = .int .i64 p) ::
      (fun _ _ v => v = .int .i64 pm) ::
      (fun _ _ v => v = .pointer (some ⟨gb, pm, none⟩)) ::
      (fun _ _ v => v = .int .u8 (c0 : Nat)) ::
      (fun _ _ v => v = .slice (some ⟨bx, ox, none⟩) mx cx) ::
      (fun _ _ v => v = .int .i64 i) ::
      (fun _ _ v => v = .pointer (some ⟨bx, ox + i, none⟩)) ::
      (fun _ _ v => v = .int .u8 (c1x : Nat)) ::
      (fun _ _ v => v = .int .u8 ((y.toNat : Nat) : Int)) ::
      (fun _ _ v => v = .pointer (some ⟨gb, pm, none⟩)) ::
      (fun _ _ _ => True) :: [])
      (⟨[(13, none)], 0, [11]⟩ :: ⟨[(12, none)], 0, [11]⟩ :: ⟨[(74, some 1)], 0, [11]⟩ :: ⟨[(73, some 0), (75, some 2)], 0, [11]⟩ :: ⟨[(76, some 3)], 0, [11]⟩ :: ⟨[(1, none)], 0, [11]⟩ :: ⟨[(11, none)], 0, [11]⟩ :: ⟨[(78, some 5), (79, some 6)], 0, [11]⟩ :: ⟨[(80, some 7)], 0, [11]⟩ :: ⟨[(77, some 4), (81, some 8)], 0, [11]⟩ :: ⟨[(73, some 0), (75, some 2)], 0, [11]⟩ :: ⟨[(83, some 10), (82, some 9)], 0, []⟩ :: [])
      (none :: none :: none :: none :: none :: none :: none :: none :: none :: none :: none :: none :: none :: none :: none :: none :: none :: none :: none :: none :: none :: none :: none :: none :: none :: none :: none :: none :: none :: none :: none :: none :: none :: none :: none :: none :: none :: none :: none :: none :: none :: none :: none :: none :: none :: none :: none :: none :: none :: none :: none :: none :: none :: none :: none :: none :: none :: none :: none :: none :: none :: none :: none :: none :: none :: none :: none :: none :: none :: none :: none :: none :: none :: some 0 :: some 1 :: some 2 :: some 3 :: some 4 :: some 5 :: some 6 :: some 7 :: some 8 :: some 9 :: some 10 :: [])
      (fun L w' => CS 11 10 wr (fun w' => Buf w' w0.heap.size gb cb (b.set pm y) ∧ Writes [some gb] wr w') L w') (fun i w w' => i ≠ 11 → Below w.heap.size w w') ?mixK16for16 ?okK16for16 ?tabK16for16 ?frK16for16 ?inK16for16 ?keptK16for16 ?startK16for16 ?eachK16for16 ?finK16for16
    case mixK16for16 => kernel_rfl
    case okK16for16 => kernel_rfl
    case tabK16for16 => kernel_rfl
    case frK16for16 => kernel_rfl
    case inK16for16 => rfl
    case keptK16for16 => exact ⟨fun _ _ _ _ _ _ _ _ _ _ _ h => h, fun _ _ _ _ _ _ _ _ _ _ _ h => h, fun _ _ _ _ _ _ _ _ _ _ _ h => h, fun _ _ _ _ _ _ _ _ _ _ _ h => h, fun _ _ _ _ _ _ _ _ _ _ _ h => h, fun _ _ _ _ _ _ _ _ _ _ _ h => h, fun _ _ _ _ _ _ _ _ _ _ _ h => h, fun _ _ _ _ _ _ _ _ _ _ _ h => h, fun _ _ _ _ _ _ _ _ _ _ _ h => h, fun _ _ _ _ _ _ _ _ _ _ _ h => h, fun _ _ _ _ _ _ _ _ _ _ _ h => h, fun _ _ _ _ _ _ _ _ _ _ _ h => h, trivial⟩
    case startK16for16 => exact ⟨fun _ => (Below.refl _ _).drew, fun e => by simp at e⟩
    case eachK16for16 =>
      refine ⟨?_, ?_, ?_, ?_, ?_, ?_, ?_, ?_, ?_, ?_, ?_, ?_, trivial⟩
      -- 0: slot 73 := move t13
      · intro w L f hC hLi hLd hLn hF
        obtain ⟨d13, _⟩ := hF
        have d13 : f 13 = .slice (some ⟨gb, 0, none⟩) 256 cb := d13
        refine Step2.live rfl ?_
        exact relUpon_value (v := f 13) rfl (hC.go (i := 0) (hLn 11 (by simp)) (by decide) (Below.refl _ _)) (fun _ => Below.refl _ _) d13
      -- 1: slot 74 := move t12
      · intro w L f hC hLi hLd hLn hF
        obtain ⟨d12, _⟩ := hF
        have d12 : f 12 = .int .i64 p := d12
        refine Step2.live rfl ?_
        exact relUpon_value (v := f 12) rfl (hC.go (i := 1) (hLn 11 (by simp)) (by decide) (Below.refl _ _)) (fun _ => Below.refl _ _) d12
      -- 2: slot 75 := binOp BinOp.rem 3 t74 (const (256:i64)) 3
      · intro w L f hC hLi hLd hLn hF
        obtain ⟨d74, _⟩ := hF
        have d74 : f 74 = .int .i64 p := d74
        refine Step2.live rfl ?_
        have ev : ∀ t, evalOf f (.tmp t) = f t := fun _ => rfl
        have ec : ∀ c, evalOf f (.const c) = c := fun _ => rfl
        have ef : ∀ g, evalOf f (.func g) = .func (.func g) #[] #[] := fun _ => rfl
        refine relUpon_value ?_ (hC.go (i := 2) (hLn 11 (by simp)) (by decide) (Below.refl _ _)) (fun _ => Below.refl _ _) rfl
        go_simp
        exact hpm.out
      -- 3: slot 76 := indexAddr 23 t73 t75
      · intro w L f hC hLi hLd hLn hF
        obtain ⟨d73, d75, _⟩ := hF
        have d73 : f 73 = .slice (some ⟨gb, 0, none⟩) 256 cb := d73
        have d75 : f 75 = .int .i64 pm := d75
        refine Step2.live rfl ?_
        have ev : ∀ t, evalOf f (.tmp t) = f t := fun _ => rfl
        have ec : ∀ c, evalOf f (.const c) = c := fun _ => rfl
        have ef : ∀ g, evalOf f (.func g) = .func (.func g) #[] #[] := fun _ => rfl
        refine relUpon_value ?_ (hC.go (i := 3) (hLn 11 (by simp)) (by decide) (Below.refl _ _)) (fun _ => Below.refl _ _) rfl
        go_simp
        intro hcon
        omega
      -- 4: slot 77 := load 5 t76
      · intro w L f hC hLi hLd hLn hF
        obtain ⟨d76, _⟩ := hF
        have d76 : f 76 = .pointer (some ⟨gb, pm, none⟩) := d76
        refine Step2.live rfl ?_
        have hw := hC.bel (hLn 11 (by simp))
        have f0 := (hw.cell (p := ⟨gb, pm, none⟩) hgl.out).trans hc0.out
        have ev : ∀ t, evalOf f (.tmp t) = f t := fun _ => rfl
        have ec : ∀ c, evalOf f (.const c) = c := fun _ => rfl
        have ef : ∀ g, evalOf f (.func g) = .func (.func g) #[] #[] := fun _ => rfl
        refine relUpon_value ?_ (hC.go (i := 4) (hLn 11 (by simp)) (by decide) (Below.refl _ _)) (fun _ => Below.refl _ _) rfl
        go_simp
      -- 5: slot 78 := move t1
      · intro w L f hC hLi hLd hLn hF
        obtain ⟨d1, _⟩ := hF
        have d1 : f 1 = .slice (some ⟨bx, ox, none⟩) mx cx := d1
        refine Step2.live rfl ?_
        exact relUpon_value (v := f 1) rfl (hC.go (i := 5) (hLn 11 (by simp)) (by decide) (Below.refl _ _)) (fun _ => Below.refl _ _) d1
      -- 6: slot 79 := move t11
      · intro w L f hC hLi hLd hLn hF
        obtain ⟨d11, _⟩ := hF
        have d11 : f 11 = .int .i64 i := d11
        refine Step2.live rfl ?_
        exact relUpon_value (v := f 11) rfl (hC.go (i := 6) (hLn 11 (by simp)) (by decide) (Below.refl _ _)) (fun _ => Below.refl _ _) d11
      -- 7: slot 80 := indexAddr 23 t78 t79
      · intro w L f hC hLi hLd hLn hF
        obtain ⟨d78, d79, _⟩ := hF
        have d78 : f 78 = .slice (some ⟨bx, ox, none⟩) mx cx := d78
        have d79 : f 79 = .int .i64 i := d79
        refine Step2.live rfl ?_
        have ev : ∀ t, evalOf f (.tmp t) = f t := fun _ => rfl
        have ec : ∀ c, evalOf f (.const c) = c := fun _ => rfl
        have ef : ∀ g, evalOf f (.func g) = .func (.func g) #[] #[] := fun _ => rfl
        refine relUpon_value ?_ (hC.go (i := 7) (hLn 11 (by simp)) (by decide) (Below.refl _ _)) (fun _ => Below.refl _ _) rfl
        go_simp
        intro hcon
        omega
      -- 8: slot 81 := load 5 t80
      · intro w L f hC hLi hLd hLn hF
        obtain ⟨d80, _⟩ := hF
        have d80 : f 80 = .pointer (some ⟨bx, ox + i, none⟩) := d80
        refine Step2.live rfl ?_
        have hw := hC.bel (hLn 11 (by simp))
        have f0 := (hw.cell (p := ⟨bx, ox + i, none⟩) hbl.out).trans hc1.out
        have ev : ∀ t, evalOf f (.tmp t) = f t := fun _ => rfl
        have ec : ∀ c, evalOf f (.const c) = c := fun _ => rfl
        have ef : ∀ g, evalOf f (.func g) = .func (.func g) #[] #[] := fun _ => rfl
        refine relUpon_value ?_ (hC.go (i := 8) (hLn 11 (by simp)) (by decide) (Below.refl _ _)) (fun _ => Below.refl _ _) rfl
        go_simp
      -- 9: slot 82 := binOp BinOp.xor 5 t77 t81 5
      · intro w L f hC hLi hLd hLn hF
        obtain ⟨d77, d81, _⟩ := hF
        have d77 : f 77 = .int .u8 (c0 : Nat) := d77
        have d81 : f 81 = .int .u8 (c1x : Nat) := d81
        refine Step2.live rfl ?_
        have hxo := hxor.out
        have ev : ∀ t, evalOf f (.tmp t) = f t := fun _ => rfl
        have ec : ∀ c, evalOf f (.const c) = c := fun _ => rfl
        have ef : ∀ g, evalOf f (.func g) = .func (.func g) #[] #[] := fun _ => rfl
        refine relUpon_value ?_ (hC.go (i := 9) (hLn 11 (by simp)) (by decide) (Below.refl _ _)) (fun _ => Below.refl _ _) rfl
        go_simp
      -- 10: slot 83 := indexAddr 23 t73 t75
      · intro w L f hC hLi hLd hLn hF
        obtain ⟨d73, d75, _⟩ := hF
        have d73 : f 73 = .slice (some ⟨gb, 0, none⟩) 256 cb := d73
        have d75 : f 75 = .int .i64 pm := d75
        refine Step2.live rfl ?_
        have ev : ∀ t, evalOf f (.tmp t) = f t := fun _ => rfl
        have ec : ∀ c, evalOf f (.const c) = c := fun _ => rfl
        have ef : ∀ g, evalOf f (.func g) = .func (.func g) #[] #[] := fun _ => rfl
        refine relUpon_value ?_ (hC.go (i := 10) (hLn 11 (by simp)) (by decide) (Below.refl _ _)) (fun _ => Below.refl _ _) rfl
        go_simp
        intro hcon
        omega
      -- 11: slot None := store 5 t83 t82
      · intro w L f hC hLi hLd hLn hF
        obtain ⟨d83, d82, _⟩ := hF
        have d83 : f 83 = .pointer (some ⟨gb, pm, none⟩) := d83
        have d82 : f 82 = .int .u8 ((y.toNat : Nat) : Int) := d82
        refine Step2.live rfl ?_
        have hw := hC.bel hLi
        have hh := hbuf.out.below hw
        have c0' := hh.cell (i := pm) (by rw [hbl2.out]; omega)
        have z0 := hh.frozen pm
        have ev : ∀ t, evalOf f (.tmp t) = f t := fun _ => rfl
        have ec : ∀ c, evalOf f (.const c) = c := fun _ => rfl
        have ef : ∀ g, evalOf f (.func g) = .func (.func g) #[] #[] := fun _ => rfl
        refine relUpon_skip (w' := w.setCell ⟨gb, pm, none⟩ (.int .u8 (y.toNat : Nat))) ?_ (CS.last (hLd 10 (by decide)) ⟨hh.store pm y, (Writes.of_below hw _).trans (Writes.store w (p := ⟨gb, pm, none⟩) (by simp) _)⟩) (fun h => absurd rfl h) trivial
        go_simp
    intro x w' hC hV

    obtain ⟨hbf2, hW2⟩ := (hC.2 rfl).2
    clear hV hC
    simp only [framed]
    have hB8 : Hid (Below W.heap.size W w') := Lib.hid (hB7.out.trans (hW2.below hB7.out.size (fun k hk => by simp at hk; have := hgb.out; have := hB.out.size; omega)))
    have hbw8 : Hid (Below w0.heap.size w0 w0) := Lib.hid (Below.refl _ _)
    have hK8 : Hid (Dk W.heap.size 60 256 gq q w') := Lib.hid ⟨hK7.out.disk.loc (fun x hx => hW2.block x (hK7.out.disk.lt x hx) (by
      simp
      have := hK.out.disk.lt x hx
      have := hgb.out
      omega)), hK7.out.hi, hK7.out.dead, hK7.out.cut, hK7.out.hn, hK7.out.hs, hK7.out.eq⟩
    have hwt := write_abs w' q hK8.out.disk ((p : Int) / 256) (by rw [hK8.out.hn]; omega) (some ⟨gb, 0, none⟩) 256 cb (b.set pm y) (by rw [List.length_set, hbl2.out]) hK8.out.hs.symm hbf2.rowAt
    rw [hK8.out.eq] at hwt
    clear hbf2 hW2 hK7 hB7 hc0 hc1 hgl hxor hpm hbuf hbw8
    go_wp2_with fail
    refine hwt.mono ?_
    clear hwt
    rintro e w9 hLf
    have hlv := write_live (d := q.abs) hK8.out.dead hK8.out.cut ((p : Int) / 256) (b.set pm y)
    rw [hlv] at hLf
    obtain ⟨rfl, q9, hK9, hb9, _⟩ := hLf.dk hK8.out hB8.out.size rfl hK8.out.dead hK8.out.cut hK8.out.hn hK8.out.hs
    have hK9' := Lib.hid hK9
    have hB9 := Lib.hid (hB8.out.trans hb9)
    clear hLf hlv hK9 hb9
    go_wp2_with fail
    refine ⟨⟨i + 1, q9, by omega, by simp, hK9', hB9⟩, by simp [intOf]; omega⟩
  · obtain rfl : i = mt := by omega
    have hii : ¬ (i : Int) < (i : Int) := by omega
    have hfl := flush_abs w0 q hK.out.disk
    rw [hK.out.eq] at hfl
    go_wp2_with fail
    refine hfl.mono ?_
    clear hfl
    rintro e w6 hLf
    have hlv := flush_live (d := q.abs) hK.out.dead hK.out.cut
    rw [hlv] at hLf
    obtain ⟨rfl, q6, hK6, hb6, _⟩ := hLf.dk hK.out hB.out.size rfl hK.out.dead hK.out.cut hK.out.hn hK.out.hs
    have hB6 := Lib.hid (hB.out.trans hb6)
    have hop := open_any w6 q6 hK6.disk (by rw [hK6.hn]; omega) (by rw [hK6.hs]; omega)
    rw [hK6.eq] at hop
    have hK6' := Lib.hid hK6
    clear hLf hlv hK6 hb6
    go_wp2_with fail
    refine hop.mono ?_
    clear hop
    rintro e w7 hO
    unfold OpenE at hO
    rw [flush_live (d := q6.abs) hK6'.out.dead hK6'.out.cut, if_neg (by simp)] at hO
    obtain ⟨q7, g7, v7, ps7, rfl, hst7, _⟩ := hO
    have hfin : Hid (Below W.heap.size W w7) := Lib.hid (hB6.out.trans (hst7.hi hB6.out.size hK6'.out.hi).1)
    clear hst7
    go_wp2_with fail
    go_ret
    exact ⟨rfl, hfin.out⟩
end Go.Proofs.Ytncddkbagmelkaa
