/-
  Package wal: the walks of clean, put, Commit and Reset.
-/
import Derived.Test.YtelglbblgkhcmaaGreatWc
namespace Go.Proofs.YtelglbblgkhcmaaGreat
open Go.RowKit Go.Deep

def zerosB (n : Nat) : List UInt8 := List.replicate n 0
/-- A slot that may stay as it is: an elder header, or nothing. -/
def keepB (serial n s : Nat) (b : List UInt8) : Bool := (match parseF b n s with | some h => decide (h.serial < serial) | none => false) || decide (b = zerosB s)
/-- Slots from k on that could be taken for a header are zeroed, and made sure. -/
def cleanF (l : LR) : Nat → AD → Nat → Bool → AD × Nat
  | 0, d, _, z => if z = true then d.flush else (d, 0)
  | f + 1, d, k, z =>
    if k = l.slot then cleanF l f d (k + 1) z
    else if keepB l.serial d.n d.size (d.last k) = true then cleanF l f d (k + 1) z
    else if (d.write k (zerosB d.size)).2 ≠ 0 then d.write k (zerosB d.size)
    else cleanF l f (d.write k (zerosB d.size)).1 (k + 1) true
def cleanA (d : AD) (l : LR) : AD × Nat := cleanF l 2 d 0 false
structure CleanL (w : World) (l : LR) (q : DR) (r0 : AD × Nat) (z : Bool) (k f gz : Nat) (q' : DR) (wr : World) : Prop where
  eq : r0 = cleanF l f q'.abs k z
  zr : RowAt wr (some ⟨gz, 0, none⟩) ((zerosB q.size).map byteV)
  st : DStep q w q' wr
  log : LogP l q' wr
  dead : q'.dead = false
  n : q'.n = q.n
  size : q'.size = q.size
set_option maxRecDepth 100000 in
set_option maxHeartbeats 4000000 in
theorem clean_any (w : World) (l : LR) (q : DR) (hl : LogP l q w) (hq : DiskP q w) (hd : q.dead = false) (hn1 : 16 ≤ q.n) (hs3 : 128 ≤ q.size) :
    Calls Tryz.prog 109 #[.pointer (some ⟨l.g, 0, none⟩)] w (Left q w (cleanA q.abs l)) := by
  have hn2 := hq.n2
  have hs2 := hq.s2
  have hLg : Hid (LogP l q w) := Lib.hid hl
  have hD := Lib.hid hq
  have hdd := Lib.hid hd
  have hmk := run_make_row' (P := Tryz.prog) 37 5 (.int .u8 0) 1 Tryz.underlying37 Tryz.infoU8 rfl .i64 .i64 q.size (by omega) (by omega)
  rw [made_bytes] at hmk
  obtain ⟨zs, hzs⟩ : ∃ zs, zs = (List.replicate q.size (0 : UInt8)).map byteV := ⟨_, rfl⟩
  rw [← hzs] at hmk
  have hb0 := below_new w (.cells zs.toArray 5)
  have hz0 := Buf.made w (zerosB q.size) (by simp [zerosB]; omega)
  have e0 : ((zerosB q.size).map byteV).toArray = zs.toArray := by rw [hzs]; rfl
  have e1 : (zerosB q.size).length = q.size := by simp [zerosB]
  rw [e0, e1] at hz0
  have hsz := size_any w q hq
  have c0 := hl.c0
  have hB0 := Lib.hid hb0
  have hZ0 := Lib.hid hz0
  have hzs' := Lib.hid hzs
  clear hb0 hz0 hzs hl hq hd e0 e1
  go_enter Tryz.func109, Tryz.ntmps109
  go_wp2_with fail
  refine hsz.mono ?_
  clear hsz
  rintro e w2 ⟨rfl, e2⟩
  rw [e2]
  clear e2 w2
  go_wp2_with fail
  obtain ⟨gz, hgz⟩ : ∃ gz, gz = w.heap.size := ⟨_, rfl⟩
  rw [← hgz] at ⊢
  obtain ⟨w1, hw1⟩ : ∃ x, x = w.alloc (.cells zs.toArray 5) := ⟨_, rfl⟩
  have hB1 : Hid (Below w.heap.size w w1) := Lib.hid (by rw [hw1]; exact hB0.out)
  have hZ1 : Hid (RowAt w1 (some ⟨gz, 0, none⟩) ((zerosB q.size).map byteV)) := Lib.hid (by rw [hw1, hgz]; exact hZ0.out.rowAt)
  rw [← hw1]
  clear hw1 hgz hB0 hZ0 hmk c0
  obtain ⟨r0, hr0⟩ : ∃ r0, r0 = cleanA q.abs l := ⟨_, rfl⟩
  rw [← hr0]
  have hF0 : Hid (CleanL w l q r0 false 0 2 gz q w1) := Lib.hid ⟨hr0, hZ1.out, (DStep.refl hD.out).below hB1.out, hLg.out.below hB1.out, hdd.out, rfl, rfl⟩
  have hr0' := Lib.hid hr0
  clear hr0 hB1 hZ1
  go_loopw [4, 19] (fun zv iv wr => ∃ (z : Bool) (k f : Nat) (q' : DR), zv = .bool z ∧ iv = .int .i64 (k : Nat) ∧ k + f = 2 ∧ Hid (CleanL w l q r0 z k f gz q' wr)) (fun _ iv _ => 2 - (intOf iv).toNat)
  case atStart => exact ⟨false, 0, 2, q, rfl, rfl, rfl, hF0⟩
  obtain ⟨z, k, f, q', rfl, rfl, hkf, hF⟩ := hrel
  clear hF0
  have hD' := Lib.hid hF.out.st.post
  have hL' := Lib.hid hF.out.log
  have hst' := Lib.hid hF.out.st
  have hzr' := Lib.hid hF.out.zr
  have hqn := Lib.hid hF.out.n
  have hqs := Lib.hid hF.out.size
  have hqd := Lib.hid hF.out.dead
  have c0 := hL'.out.c0
  have c5 := hL'.out.c5
  by_cases hk2 : k = 2
  · subst hk2
    obtain rfl : f = 0 := by omega
    have hr1 : Hid (r0 = if z = true then q'.abs.flush else (q'.abs, 0)) := Lib.hid (by rw [hF.out.eq]; rfl)
    clear hF hkf
    cases z with
    | false =>
      have hr2 : Hid (r0 = (q'.abs, 0)) := Lib.hid hr1.out
      clear hr1
      go_wp2_with fail
      go_ret
      rw [← hr0'.out]
      exact Left.mk' (by rw [hr2.out]; rfl) hst'.out (by rw [hr2.out])
    | true =>
      have hr2 : Hid (r0 = q'.abs.flush) := Lib.hid hr1.out
      clear hr1
      have hfl := flush_abs wr q' hD'.out
      go_wp2_with fail
      refine hfl.mono ?_
      clear hfl
      rintro e w3 ⟨rfl, q3, hst3, hab3⟩
      have hfin : Hid (Left q w r0 (.returned (.int .i64 q'.abs.flush.2)) w3) := Lib.hid (Left.mk' (by rw [hr2.out]) (hst'.out.trans hst3) (by rw [hr2.out]; exact hab3))
      generalize q'.abs.flush.2 = err at hfin ⊢
      clear hst3 hab3
      go_wp2_with fail
      go_ret
      rw [← hr0'.out]
      exact hfin.out
  · obtain ⟨f, rfl⟩ : ∃ f1, f = f1 + 1 := ⟨f - 1, by omega⟩
    have hlt : ((k : Int) < 2) := by omega
    have hkw : IntKind.i64.wrap ((k : Int) + 1) = ((k + 1 : Nat) : Int) := by rw [IntWalk.i64_in _ (by omega)]; omega
    by_cases hks : k = l.slot
    · subst hks
      have hF1 : Hid (CleanL w l q r0 z (l.slot + 1) f gz q' wr) := Lib.hid ⟨by rw [hF.out.eq, cleanF, if_pos rfl], hzr'.out, hst'.out, hL'.out, hqd.out, hqn.out, hqs.out⟩
      clear hF
      go_wp2_with fail
      refine ⟨⟨z, l.slot + 1, f, q', rfl, by simp, by omega, hF1⟩, by simp [intOf]; omega⟩
    · have hkd : ((k : Int) == (l.slot : Int)) = false := by simp; omega
      have hkn : ¬ (k : Int) = (l.slot : Int) := by omega
      have hrd := read_ok wr q' hD'.out hqd.out (k : Int) (by rw [hqn.out]; omega)
      have hlw : Hid ((q'.last k).length = q.size) := Lib.hid (by rw [hD'.out.last_len, hqs.out])
      rw [hqs.out] at hrd
      go_wp2_with fail
      refine hrd.mono ?_
      clear hrd
      rintro e w2 ⟨⟨gb, cb, rfl, hbuf⟩, hb2⟩
      obtain ⟨b, hbe⟩ : ∃ x, x = q'.last k := ⟨_, rfl⟩
      rw [← hbe] at hbuf hlw
      have hcb : q.size ≤ cb := by
        obtain ⟨_, _, _, h3, _⟩ := hbuf.parts
        rw [hlw.out] at h3
        exact h3
      have hbr := Lib.hid hbuf.rowAt
      have hb2' := Lib.hid hb2
      have hbe' := Lib.hid hbe
      have hbl := hlw
      have hL2 := Lib.hid (hL'.out.below hb2)
      have hD2 := Lib.hid (hD'.out.below hb2)
      have hzr2 := Lib.hid (hzr'.out.below hb2)
      clear hbuf hb2 hbe c0 c5 hlw
      have hsh := lshape_any w2 l q' hL2.out hD2.out
      rw [hqn.out, hqs.out] at hsh
      unfold shV at hsh
      go_wp2_with fail
      refine hsh.mono ?_
      clear hsh
      rintro e w3 ⟨rfl, hb3⟩
      have hpa := parse_any w3 gb cb q.n q.size b hn1 hn2 hs3 hs2 hbl.out hcb (hbr.out.below hb3)
      unfold shV at hpa
      have hb3' := Lib.hid hb3
      clear hb3
      go_wp2_with fail
      refine hpa.mono ?_
      clear hpa
      rintro e w4 ⟨⟨hx, rfl, hpx⟩, hb4⟩
      unfold Hdr.cells
      have hpx' := Lib.hid hpx
      have hB4 : Hid (Below wr.heap.size wr w4) := Lib.hid (by
        have h1 := hb2'.out
        have h2 := hb3'.out
        exact (h1.trans (h2.mono h1.size)).trans (hb4.mono (Nat.le_trans h1.size h2.size)))
      have hbr4 := Lib.hid ((hbr.out.below hb3'.out).below hb4)
      clear hpx hb4 hb2' hb3' hbr hL2 hD2 hzr2
      obtain ⟨ok, hok⟩ : ∃ ok, ok = (parseF b q.n q.size).isSome := ⟨_, rfl⟩
      rw [← hok]
      have hok' := Lib.hid hok
      clear hok
      go_wp2_with fail
      obtain ⟨w5, hw5⟩ : ∃ x, x = w4.alloc (.cells #[.int .u64 hx.serial, .int .i64 hx.area, .int .i64 hx.used, .int .i64 hx.count] 100) := ⟨_, rfl⟩
      obtain ⟨g2, hg2⟩ : ∃ x, x = w4.heap.size := ⟨_, rfl⟩
      have hH : Hid (Holds w5 g2 100 #[.int .u64 hx.serial, .int .i64 hx.area, .int .i64 hx.used, .int .i64 hx.count]) := Lib.hid (by rw [hw5, hg2]; exact Holds.new w4 _ _)
      have hb5 : Below w4.heap.size w4 w5 := by rw [hw5]; exact below_new w4 _
      have hB5 := Lib.hid (hB4.out.trans (hb5.mono hB4.out.size))
      have hbr5 := Lib.hid (hbr4.out.below hb5)
      rw [← hw5, ← hg2]
      clear hb5 hw5 hg2 hB4 hbr4
      have hLr := Lib.hid (hL'.out.below hB5.out)
      have hzr := Lib.hid (hzr'.out.below hB5.out)
      have hbr := hbr5
      clear hbr5
      go_cut [9, 62] (fun _ s wc => s = .bool (keepB l.serial q.n q.size b) ∧ Hid (Below w5.heap.size w5 wc))
      case' first =>
        cases hok : ok with
        | false =>
          have hkb : Hid (keepB l.serial q.n q.size b = decide (b = List.replicate q.size 0)) := Lib.hid (by
            have h1 := hok'.out
            rw [hok] at h1
            unfold keepB
            cases h2 : parseF b q.n q.size with
            | none => rfl
            | some y => rw [h2] at h1; cases h1)
          clear hok
          -- THE REGION THAT DRAWS ITS ORDER, BY ONE LEXICAL WALK OVER GENERIC VALUES (written by relgen.py)
          refine wp_region_tab ((fun _ v => v = .bool false) ::
            (fun _ v => v = .bool false) ::
            (fun _ _ => True) ::
            (fun _ _ => True) ::
            (fun _ _ => True) ::
            (fun _ _ => True) ::
            (fun _ _ => True) ::
            (fun _ _ => True) ::
            (fun _ _ => True) ::
            (fun _ _ => True) ::
            (fun _ v => v = .bool false) ::
            (fun _ v => v = .bool false) ::
            (fun _ v => v = .slice (some ⟨gb, 0, none⟩) q.size cb) ::
            (fun _ v => v = .slice (some ⟨gz, 0, none⟩) q.size q.size) ::
            (fun _ v => v = .bool (decide (b = List.replicate q.size 0))) ::
            (fun _ v => v = .bool (decide (b = List.replicate q.size 0))) :: [])
            (⟨[(9, none)], 0, []⟩ :: ⟨[(47, some 0)], 0, []⟩ :: ⟨[(8, none), (48, some 1)], 48, []⟩ :: ⟨[(49, some 2), (48, some 1)], 48, []⟩ :: ⟨[(0, none), (48, some 1)], 48, []⟩ :: ⟨[(51, some 4), (48, some 1)], 48, []⟩ :: ⟨[(52, some 5), (48, some 1)], 48, []⟩ :: ⟨[(53, some 6), (48, some 1)], 48, []⟩ :: ⟨[(54, some 7), (48, some 1)], 48, []⟩ :: ⟨[(50, some 3), (55, some 8), (48, some 1)], 48, []⟩ :: ⟨[(48, some 1), (56, some 9)], 0, []⟩ :: ⟨[(57, some 10)], 0, []⟩ :: ⟨[(6, none), (58, some 11)], 58, []⟩ :: ⟨[(3, none), (58, some 11)], 58, []⟩ :: ⟨[(59, some 12), (60, some 13), (58, some 11)], 58, []⟩ :: ⟨[(58, some 11), (61, some 14)], 0, []⟩ :: [])
            (none :: none :: none :: none :: none :: none :: none :: none :: none :: none :: none :: none :: none :: none :: none :: none :: none :: none :: none :: none :: none :: none :: none :: none :: none :: none :: none :: none :: none :: none :: none :: none :: none :: none :: none :: none :: none :: none :: none :: none :: none :: none :: none :: none :: none :: none :: none :: some 0 :: some 1 :: some 2 :: some 3 :: some 4 :: some 5 :: some 6 :: some 7 :: some 8 :: some 9 :: some 10 :: some 11 :: some 12 :: some 13 :: some 14 :: some 15 :: [])
            (fun _ w' => Below w5.heap.size w5 w') (fun _ w w' => Below w.heap.size w w') ?mixK11clean1a ?okK11clean1a ?tabK11clean1a ?frK11clean1a ?inK11clean1a ?keptK11clean1a ?startK11clean1a ?eachK11clean1a ?finK11clean1a
          case mixK11clean1a => kernel_rfl
          case okK11clean1a => kernel_rfl
          case tabK11clean1a => kernel_rfl
          case frK11clean1a => kernel_rfl
          case inK11clean1a => rfl
          case keptK11clean1a => exact ⟨fun _ _ _ _ _ _ _ h => h, fun _ _ _ _ _ _ _ h => h, fun _ _ _ => fun _ _ _ _ h => h, fun _ _ _ => fun _ _ _ _ h => h, fun _ _ _ => fun _ _ _ _ h => h, fun _ _ _ => fun _ _ _ _ h => h, fun _ _ _ => fun _ _ _ _ h => h, fun _ _ _ => fun _ _ _ _ h => h, fun _ _ _ => fun _ _ _ _ h => h, fun _ _ _ => fun _ _ _ _ h => h, fun _ _ _ _ _ _ _ h => h, fun _ _ _ _ _ _ _ h => h, fun _ _ _ _ _ _ _ h => h, fun _ _ _ _ _ _ _ h => h, fun _ _ _ _ _ _ _ h => h, fun _ _ _ _ _ _ _ h => h, trivial⟩
          case startK11clean1a => exact (Below.refl _ _).drew
          case eachK11clean1a =>
            refine ⟨?_, ?_, ?_, ?_, ?_, ?_, ?_, ?_, ?_, ?_, ?_, ?_, ?_, ?_, ?_, ?_, trivial⟩
            -- 0: slot 47 := move t9
            · intro w L f hC hLi hLd hLn hF
              obtain ⟨d9, _⟩ := hF
              have d9 : f 9 = .bool false := d9
              refine Step2.live rfl ?_
              exact relUpon_value (v := f 9) rfl (hC) (Below.refl _ _) d9
            -- 1: slot 48 := move t47
            · intro w L f hC hLi hLd hLn hF
              obtain ⟨d47, _⟩ := hF
              have d47 : f 47 = .bool false := d47
              refine Step2.live rfl ?_
              exact relUpon_value (v := f 47) rfl (hC) (Below.refl _ _) d47
            -- 2: slot 49 := fieldAddr 100 t8 0
            · intro w L f hC hLi hLd hLn hF
              obtain ⟨d8, d48, _⟩ := hF
              have d8 : f 8 = .pointer (some ⟨g2, 0, none⟩) := d8
              have d48 : f 48 = .bool false := d48
              refine Step2.dead (show wantedBy _ (f 48) = false by rw [d48]; rfl) (hC) ?_
              trivial
            -- 3: slot 50 := load 59 t49
            · intro w L f hC hLi hLd hLn hF
              obtain ⟨d49, d48, _⟩ := hF
              have d48 : f 48 = .bool false := d48
              refine Step2.dead (show wantedBy _ (f 48) = false by rw [d48]; rfl) (hC) ?_
              trivial
            -- 4: slot 51 := move t0
            · intro w L f hC hLi hLd hLn hF
              obtain ⟨d0, d48, _⟩ := hF
              have d0 : f 0 = .pointer (some ⟨l.g, 0, none⟩) := d0
              have d48 : f 48 = .bool false := d48
              refine Step2.dead (show wantedBy _ (f 48) = false by rw [d48]; rfl) (hC) ?_
              trivial
            -- 5: slot 52 := nilCheck t51
            · intro w L f hC hLi hLd hLn hF
              obtain ⟨d51, d48, _⟩ := hF
              have d48 : f 48 = .bool false := d48
              refine Step2.dead (show wantedBy _ (f 48) = false by rw [d48]; rfl) (hC) ?_
              trivial
            -- 6: slot 53 := fieldAddr 104 t52 1
            · intro w L f hC hLi hLd hLn hF
              obtain ⟨d52, d48, _⟩ := hF
              have d48 : f 48 = .bool false := d48
              refine Step2.dead (show wantedBy _ (f 48) = false by rw [d48]; rfl) (hC) ?_
              trivial
            -- 7: slot 54 := fieldAddr 100 t53 0
            · intro w L f hC hLi hLd hLn hF
              obtain ⟨d53, d48, _⟩ := hF
              have d48 : f 48 = .bool false := d48
              refine Step2.dead (show wantedBy _ (f 48) = false by rw [d48]; rfl) (hC) ?_
              trivial
            -- 8: slot 55 := load 59 t54
            · intro w L f hC hLi hLd hLn hF
              obtain ⟨d54, d48, _⟩ := hF
              have d48 : f 48 = .bool false := d48
              refine Step2.dead (show wantedBy _ (f 48) = false by rw [d48]; rfl) (hC) ?_
              trivial
            -- 9: slot 56 := binOp BinOp.lss 59 t50 t55 59
            · intro w L f hC hLi hLd hLn hF
              obtain ⟨d50, d55, d48, _⟩ := hF
              have d48 : f 48 = .bool false := d48
              refine Step2.dead (show wantedBy _ (f 48) = false by rw [d48]; rfl) (hC) ?_
              trivial
            -- 10: slot 57 := pick t48 t56 (const (Value.bool false))
            · intro w L f hC hLi hLd hLn hF
              obtain ⟨d48, d56, _⟩ := hF
              have d48 : f 48 = .bool false := d48
              refine Step2.live rfl ?_
              have ev : ∀ t, evalOf f (.tmp t) = f t := fun _ => rfl
              have ec : ∀ c, evalOf f (.const c) = c := fun _ => rfl
              have ef : ∀ g, evalOf f (.func g) = .func (.func g) #[] #[] := fun _ => rfl
              refine relUpon_value ?_ hC (Below.refl _ _) rfl
              go_simp
            -- 11: slot 58 := move t57
            · intro w L f hC hLi hLd hLn hF
              obtain ⟨d57, _⟩ := hF
              have d57 : f 57 = .bool false := d57
              refine Step2.live rfl ?_
              exact relUpon_value (v := f 57) rfl (hC) (Below.refl _ _) d57
            -- 12: slot 59 := move t6
            · intro w L f hC hLi hLd hLn hF
              obtain ⟨d6, d58, _⟩ := hF
              have d6 : f 6 = .slice (some ⟨gb, 0, none⟩) q.size cb := d6
              have d58 : f 58 = .bool false := d58
              refine Step2.live (show wantedBy _ (f 58) = true by rw [d58]; rfl) ?_
              exact relUpon_value (v := f 6) rfl (hC) (Below.refl _ _) d6
            -- 13: slot 60 := move t3
            · intro w L f hC hLi hLd hLn hF
              obtain ⟨d3, d58, _⟩ := hF
              have d3 : f 3 = .slice (some ⟨gz, 0, none⟩) q.size q.size := d3
              have d58 : f 58 = .bool false := d58
              refine Step2.live (show wantedBy _ (f 58) = true by rw [d58]; rfl) ?_
              exact relUpon_value (v := f 3) rfl (hC) (Below.refl _ _) d3
            -- 14: slot 61 := call { value (Operand.func 101), args := #[t59, t60], argTypes := #[37, 37] }
            · intro w L f hC hLi hLd hLn hF
              obtain ⟨d59, d60, d58, _⟩ := hF
              have d59 : f 59 = .slice (some ⟨gb, 0, none⟩) q.size cb := d59
              have d60 : f 60 = .slice (some ⟨gz, 0, none⟩) q.size q.size := d60
              have d58 : f 58 = .bool false := d58
              refine Step2.live (show wantedBy _ (f 58) = true by rw [d58]; rfl) ?_
              have ev : ∀ t, evalOf f (.tmp t) = f t := fun _ => rfl
              have ec : ∀ c, evalOf f (.const c) = c := fun _ => rfl
              have ef : ∀ g, evalOf f (.func g) = .func (.func g) #[] #[] := fun _ => rfl
              refine relUpon_call (f := 101) (args := #[.slice (some ⟨gb, 0, none⟩) q.size cb, .slice (some ⟨gz, 0, none⟩) q.size q.size]) (w := w) (by go_simp) (equal_any w _ _ q.size cb q.size q.size b (List.replicate q.size 0) hbl.out (by simp) (by omega) (by omega) (hbr.out.below hC) (hzr.out.below hC)) ?_
              rintro e w1 ⟨he, hB⟩
              exact ⟨_, he, hC.trans (hB.mono hC.size), hB, rfl⟩
            -- 15: slot 62 := pick t58 (const (Value.bool true)) t61
            · intro w L f hC hLi hLd hLn hF
              obtain ⟨d58, d61, _⟩ := hF
              have d58 : f 58 = .bool false := d58
              have d61 : f 61 = .bool (decide (b = List.replicate q.size 0)) := d61
              refine Step2.live rfl ?_
              have ev : ∀ t, evalOf f (.tmp t) = f t := fun _ => rfl
              have ec : ∀ c, evalOf f (.const c) = c := fun _ => rfl
              have ef : ∀ g, evalOf f (.func g) = .func (.func g) #[] #[] := fun _ => rfl
              refine relUpon_value ?_ hC (Below.refl _ _) rfl
              go_simp
          intro x w' hC hV

          have e62 := hV 15 _ rfl rfl
          clear hV
          simp only [framed]
          rw [e62]
          clear e62
          go_wp2_with fail
          go_meet
          case rel => exact ⟨by rw [hkb.out], Lib.hid hC⟩
        | true =>
          have hps : Hid (parseF b q.n q.size = some hx) := Lib.hid (by
            have h1 := hok'.out
            rw [hok] at h1
            cases h2 : parseF b q.n q.size with
            | none => rw [h2] at h1; cases h1
            | some y => rw [hpx'.out y h2])
          clear hok
          by_cases hl1 : hx.serial < l.serial
          · have hkb : Hid (keepB l.serial q.n q.size b = true) := Lib.hid (by unfold keepB; rw [hps.out]; simp [hl1])
            have hlt : Hid (hx.serial < l.serial) := Lib.hid hl1
            clear hl1
            -- THE REGION THAT DRAWS ITS ORDER, BY ONE LEXICAL WALK OVER GENERIC VALUES (written by relgen.py)
            refine wp_region_tab ((fun _ v => v = .bool true) ::
              (fun _ v => v = .bool true) ::
              (fun _ v => v = .pointer (some ⟨g2, 0, none⟩)) ::
              (fun _ v => v = .int .u64 hx.serial) ::
              (fun _ v => v = .pointer (some ⟨l.g, 0, none⟩)) ::
              (fun _ v => v = .pointer (some ⟨l.g, 0, none⟩)) ::
              (fun _ v => v = .pointer (some ⟨l.g, 1, none⟩)) ::
              (fun _ v => v = .pointer (some ⟨l.g, 1, none⟩)) ::
              (fun _ v => v = .int .u64 l.serial) ::
              (fun _ v => v = .bool true) ::
              (fun _ v => v = .bool true) ::
              (fun _ v => v = .bool true) ::
              (fun _ _ => True) ::
              (fun _ _ => True) ::
              (fun _ _ => True) ::
              (fun _ v => v = .bool true) :: [])
              (⟨[(9, none)], 0, []⟩ :: ⟨[(47, some 0)], 0, []⟩ :: ⟨[(8, none), (48, some 1)], 48, []⟩ :: ⟨[(49, some 2), (48, some 1)], 48, []⟩ :: ⟨[(0, none), (48, some 1)], 48, []⟩ :: ⟨[(51, some 4), (48, some 1)], 48, []⟩ :: ⟨[(52, some 5), (48, some 1)], 48, []⟩ :: ⟨[(53, some 6), (48, some 1)], 48, []⟩ :: ⟨[(54, some 7), (48, some 1)], 48, []⟩ :: ⟨[(50, some 3), (55, some 8), (48, some 1)], 48, []⟩ :: ⟨[(48, some 1), (56, some 9)], 0, []⟩ :: ⟨[(57, some 10)], 0, []⟩ :: ⟨[(6, none), (58, some 11)], 58, []⟩ :: ⟨[(3, none), (58, some 11)], 58, []⟩ :: ⟨[(59, some 12), (60, some 13), (58, some 11)], 58, []⟩ :: ⟨[(58, some 11), (61, some 14)], 0, []⟩ :: [])
              (none :: none :: none :: none :: none :: none :: none :: none :: none :: none :: none :: none :: none :: none :: none :: none :: none :: none :: none :: none :: none :: none :: none :: none :: none :: none :: none :: none :: none :: none :: none :: none :: none :: none :: none :: none :: none :: none :: none :: none :: none :: none :: none :: none :: none :: none :: none :: some 0 :: some 1 :: some 2 :: some 3 :: some 4 :: some 5 :: some 6 :: some 7 :: some 8 :: some 9 :: some 10 :: some 11 :: some 12 :: some 13 :: some 14 :: some 15 :: [])
              (fun _ w' => Below w5.heap.size w5 w') (fun _ w w' => Below w.heap.size w w') ?mixK11clean1b ?okK11clean1b ?tabK11clean1b ?frK11clean1b ?inK11clean1b ?keptK11clean1b ?startK11clean1b ?eachK11clean1b ?finK11clean1b
            case mixK11clean1b => kernel_rfl
            case okK11clean1b => kernel_rfl
            case tabK11clean1b => kernel_rfl
            case frK11clean1b => kernel_rfl
            case inK11clean1b => rfl
            case keptK11clean1b => exact ⟨fun _ _ _ _ _ _ _ h => h, fun _ _ _ _ _ _ _ h => h, fun _ _ _ _ _ _ _ h => h, fun _ _ _ _ _ _ _ h => h, fun _ _ _ _ _ _ _ h => h, fun _ _ _ _ _ _ _ h => h, fun _ _ _ _ _ _ _ h => h, fun _ _ _ _ _ _ _ h => h, fun _ _ _ _ _ _ _ h => h, fun _ _ _ _ _ _ _ h => h, fun _ _ _ _ _ _ _ h => h, fun _ _ _ _ _ _ _ h => h, fun _ _ _ => fun _ _ _ _ h => h, fun _ _ _ => fun _ _ _ _ h => h, fun _ _ _ => fun _ _ _ _ h => h, fun _ _ _ _ _ _ _ h => h, trivial⟩
            case startK11clean1b => exact (Below.refl _ _).drew
            case eachK11clean1b =>
              refine ⟨?_, ?_, ?_, ?_, ?_, ?_, ?_, ?_, ?_, ?_, ?_, ?_, ?_, ?_, ?_, ?_, trivial⟩
              -- 0: slot 47 := move t9
              · intro w L f hC hLi hLd hLn hF
                obtain ⟨d9, _⟩ := hF
                have d9 : f 9 = .bool true := d9
                refine Step2.live rfl ?_
                exact relUpon_value (v := f 9) rfl (hC) (Below.refl _ _) d9
              -- 1: slot 48 := move t47
              · intro w L f hC hLi hLd hLn hF
                obtain ⟨d47, _⟩ := hF
                have d47 : f 47 = .bool true := d47
                refine Step2.live rfl ?_
                exact relUpon_value (v := f 47) rfl (hC) (Below.refl _ _) d47
              -- 2: slot 49 := fieldAddr 100 t8 0
              · intro w L f hC hLi hLd hLn hF
                obtain ⟨d8, d48, _⟩ := hF
                have d8 : f 8 = .pointer (some ⟨g2, 0, none⟩) := d8
                have d48 : f 48 = .bool true := d48
                refine Step2.live (show wantedBy _ (f 48) = true by rw [d48]; rfl) ?_
                have ev : ∀ t, evalOf f (.tmp t) = f t := fun _ => rfl
                have ec : ∀ c, evalOf f (.const c) = c := fun _ => rfl
                have ef : ∀ g, evalOf f (.func g) = .func (.func g) #[] #[] := fun _ => rfl
                refine relUpon_value ?_ hC (Below.refl _ _) rfl
                go_simp
              -- 3: slot 50 := load 59 t49
              · intro w L f hC hLi hLd hLn hF
                obtain ⟨d49, d48, _⟩ := hF
                have d49 : f 49 = .pointer (some ⟨g2, 0, none⟩) := d49
                have d48 : f 48 = .bool true := d48
                refine Step2.live (show wantedBy _ (f 48) = true by rw [d48]; rfl) ?_
                have f0 := (hC.cell (p := ⟨g2, 0, none⟩) hH.out.lt).trans (hH.out.cell 0)
                have ev : ∀ t, evalOf f (.tmp t) = f t := fun _ => rfl
                have ec : ∀ c, evalOf f (.const c) = c := fun _ => rfl
                have ef : ∀ g, evalOf f (.func g) = .func (.func g) #[] #[] := fun _ => rfl
                refine relUpon_value ?_ hC (Below.refl _ _) rfl
                go_simp
              -- 4: slot 51 := move t0
              · intro w L f hC hLi hLd hLn hF
                obtain ⟨d0, d48, _⟩ := hF
                have d0 : f 0 = .pointer (some ⟨l.g, 0, none⟩) := d0
                have d48 : f 48 = .bool true := d48
                refine Step2.live (show wantedBy _ (f 48) = true by rw [d48]; rfl) ?_
                exact relUpon_value (v := f 0) rfl (hC) (Below.refl _ _) d0
              -- 5: slot 52 := nilCheck t51
              · intro w L f hC hLi hLd hLn hF
                obtain ⟨d51, d48, _⟩ := hF
                have d51 : f 51 = .pointer (some ⟨l.g, 0, none⟩) := d51
                have d48 : f 48 = .bool true := d48
                refine Step2.live (show wantedBy _ (f 48) = true by rw [d48]; rfl) ?_
                have ev : ∀ t, evalOf f (.tmp t) = f t := fun _ => rfl
                have ec : ∀ c, evalOf f (.const c) = c := fun _ => rfl
                have ef : ∀ g, evalOf f (.func g) = .func (.func g) #[] #[] := fun _ => rfl
                refine relUpon_value ?_ hC (Below.refl _ _) rfl
                go_simp
              -- 6: slot 53 := fieldAddr 104 t52 1
              · intro w L f hC hLi hLd hLn hF
                obtain ⟨d52, d48, _⟩ := hF
                have d52 : f 52 = .pointer (some ⟨l.g, 0, none⟩) := d52
                have d48 : f 48 = .bool true := d48
                refine Step2.live (show wantedBy _ (f 48) = true by rw [d48]; rfl) ?_
                have ev : ∀ t, evalOf f (.tmp t) = f t := fun _ => rfl
                have ec : ∀ c, evalOf f (.const c) = c := fun _ => rfl
                have ef : ∀ g, evalOf f (.func g) = .func (.func g) #[] #[] := fun _ => rfl
                refine relUpon_value ?_ hC (Below.refl _ _) rfl
                go_simp
              -- 7: slot 54 := fieldAddr 100 t53 0
              · intro w L f hC hLi hLd hLn hF
                obtain ⟨d53, d48, _⟩ := hF
                have d53 : f 53 = .pointer (some ⟨l.g, 1, none⟩) := d53
                have d48 : f 48 = .bool true := d48
                refine Step2.live (show wantedBy _ (f 48) = true by rw [d48]; rfl) ?_
                have ev : ∀ t, evalOf f (.tmp t) = f t := fun _ => rfl
                have ec : ∀ c, evalOf f (.const c) = c := fun _ => rfl
                have ef : ∀ g, evalOf f (.func g) = .func (.func g) #[] #[] := fun _ => rfl
                refine relUpon_value ?_ hC (Below.refl _ _) rfl
                go_simp
              -- 8: slot 55 := load 59 t54
              · intro w L f hC hLi hLd hLn hF
                obtain ⟨d54, d48, _⟩ := hF
                have d54 : f 54 = .pointer (some ⟨l.g, 1, none⟩) := d54
                have d48 : f 48 = .bool true := d48
                refine Step2.live (show wantedBy _ (f 48) = true by rw [d48]; rfl) ?_
                have f0 := (hLr.out.below hC).c1
                have ev : ∀ t, evalOf f (.tmp t) = f t := fun _ => rfl
                have ec : ∀ c, evalOf f (.const c) = c := fun _ => rfl
                have ef : ∀ g, evalOf f (.func g) = .func (.func g) #[] #[] := fun _ => rfl
                refine relUpon_value ?_ hC (Below.refl _ _) rfl
                go_simp
              -- 9: slot 56 := binOp BinOp.lss 59 t50 t55 59
              · intro w L f hC hLi hLd hLn hF
                obtain ⟨d50, d55, d48, _⟩ := hF
                have d50 : f 50 = .int .u64 hx.serial := d50
                have d55 : f 55 = .int .u64 l.serial := d55
                have d48 : f 48 = .bool true := d48
                refine Step2.live (show wantedBy _ (f 48) = true by rw [d48]; rfl) ?_
                have ev : ∀ t, evalOf f (.tmp t) = f t := fun _ => rfl
                have ec : ∀ c, evalOf f (.const c) = c := fun _ => rfl
                have ef : ∀ g, evalOf f (.func g) = .func (.func g) #[] #[] := fun _ => rfl
                refine relUpon_value ?_ hC (Below.refl _ _) rfl
                go_simp
                exact hlt.out
              -- 10: slot 57 := pick t48 t56 (const (Value.bool false))
              · intro w L f hC hLi hLd hLn hF
                obtain ⟨d48, d56, _⟩ := hF
                have d48 : f 48 = .bool true := d48
                have d56 : f 56 = .bool true := d56
                refine Step2.live rfl ?_
                have ev : ∀ t, evalOf f (.tmp t) = f t := fun _ => rfl
                have ec : ∀ c, evalOf f (.const c) = c := fun _ => rfl
                have ef : ∀ g, evalOf f (.func g) = .func (.func g) #[] #[] := fun _ => rfl
                refine relUpon_value ?_ hC (Below.refl _ _) rfl
                go_simp
              -- 11: slot 58 := move t57
              · intro w L f hC hLi hLd hLn hF
                obtain ⟨d57, _⟩ := hF
                have d57 : f 57 = .bool true := d57
                refine Step2.live rfl ?_
                exact relUpon_value (v := f 57) rfl (hC) (Below.refl _ _) d57
              -- 12: slot 59 := move t6
              · intro w L f hC hLi hLd hLn hF
                obtain ⟨d6, d58, _⟩ := hF
                have d6 : f 6 = .slice (some ⟨gb, 0, none⟩) q.size cb := d6
                have d58 : f 58 = .bool true := d58
                refine Step2.dead (show wantedBy _ (f 58) = false by rw [d58]; rfl) (hC) ?_
                trivial
              -- 13: slot 60 := move t3
              · intro w L f hC hLi hLd hLn hF
                obtain ⟨d3, d58, _⟩ := hF
                have d3 : f 3 = .slice (some ⟨gz, 0, none⟩) q.size q.size := d3
                have d58 : f 58 = .bool true := d58
                refine Step2.dead (show wantedBy _ (f 58) = false by rw [d58]; rfl) (hC) ?_
                trivial
              -- 14: slot 61 := call { value (Operand.func 101), args := #[t59, t60], argTypes := #[37, 37] }
              · intro w L f hC hLi hLd hLn hF
                obtain ⟨d59, d60, d58, _⟩ := hF
                have d58 : f 58 = .bool true := d58
                refine Step2.dead (show wantedBy _ (f 58) = false by rw [d58]; rfl) (hC) ?_
                trivial
              -- 15: slot 62 := pick t58 (const (Value.bool true)) t61
              · intro w L f hC hLi hLd hLn hF
                obtain ⟨d58, d61, _⟩ := hF
                have d58 : f 58 = .bool true := d58
                refine Step2.live rfl ?_
                have ev : ∀ t, evalOf f (.tmp t) = f t := fun _ => rfl
                have ec : ∀ c, evalOf f (.const c) = c := fun _ => rfl
                have ef : ∀ g, evalOf f (.func g) = .func (.func g) #[] #[] := fun _ => rfl
                refine relUpon_value ?_ hC (Below.refl _ _) rfl
                go_simp
            intro x w' hC hV

            have e62 := hV 15 _ rfl rfl
            clear hV
            simp only [framed]
            rw [e62]
            clear e62
            go_wp2_with fail
            go_meet
            case rel => exact ⟨by rw [hkb.out], Lib.hid hC⟩
          · have hkb : Hid (keepB l.serial q.n q.size b = decide (b = List.replicate q.size 0)) := Lib.hid (by unfold keepB; rw [hps.out]; show (decide (hx.serial < l.serial) || decide (b = zerosB q.size)) = _; rw [decide_eq_false hl1]; rfl)
            have hlt : Hid (l.serial ≤ hx.serial) := Lib.hid (by omega)
            clear hl1
            -- THE REGION THAT DRAWS ITS ORDER, BY ONE LEXICAL WALK OVER GENERIC VALUES (written by relgen.py)
            refine wp_region_tab ((fun _ v => v = .bool true) ::
              (fun _ v => v = .bool true) ::
              (fun _ v => v = .pointer (some ⟨g2, 0, none⟩)) ::
              (fun _ v => v = .int .u64 hx.serial) ::
              (fun _ v => v = .pointer (some ⟨l.g, 0, none⟩)) ::
              (fun _ v => v = .pointer (some ⟨l.g, 0, none⟩)) ::
              (fun _ v => v = .pointer (some ⟨l.g, 1, none⟩)) ::
              (fun _ v => v = .pointer (some ⟨l.g, 1, none⟩)) ::
              (fun _ v => v = .int .u64 l.serial) ::
              (fun _ v => v = .bool false) ::
              (fun _ v => v = .bool false) ::
              (fun _ v => v = .bool false) ::
              (fun _ v => v = .slice (some ⟨gb, 0, none⟩) q.size cb) ::
              (fun _ v => v = .slice (some ⟨gz, 0, none⟩) q.size q.size) ::
              (fun _ v => v = .bool (decide (b = List.replicate q.size 0))) ::
              (fun _ v => v = .bool (decide (b = List.replicate q.size 0))) :: [])
              (⟨[(9, none)], 0, []⟩ :: ⟨[(47, some 0)], 0, []⟩ :: ⟨[(8, none), (48, some 1)], 48, []⟩ :: ⟨[(49, some 2), (48, some 1)], 48, []⟩ :: ⟨[(0, none), (48, some 1)], 48, []⟩ :: ⟨[(51, some 4), (48, some 1)], 48, []⟩ :: ⟨[(52, some 5), (48, some 1)], 48, []⟩ :: ⟨[(53, some 6), (48, some 1)], 48, []⟩ :: ⟨[(54, some 7), (48, some 1)], 48, []⟩ :: ⟨[(50, some 3), (55, some 8), (48, some 1)], 48, []⟩ :: ⟨[(48, some 1), (56, some 9)], 0, []⟩ :: ⟨[(57, some 10)], 0, []⟩ :: ⟨[(6, none), (58, some 11)], 58, []⟩ :: ⟨[(3, none), (58, some 11)], 58, []⟩ :: ⟨[(59, some 12), (60, some 13), (58, some 11)], 58, []⟩ :: ⟨[(58, some 11), (61, some 14)], 0, []⟩ :: [])
              (none :: none :: none :: none :: none :: none :: none :: none :: none :: none :: none :: none :: none :: none :: none :: none :: none :: none :: none :: none :: none :: none :: none :: none :: none :: none :: none :: none :: none :: none :: none :: none :: none :: none :: none :: none :: none :: none :: none :: none :: none :: none :: none :: none :: none :: none :: none :: some 0 :: some 1 :: some 2 :: some 3 :: some 4 :: some 5 :: some 6 :: some 7 :: some 8 :: some 9 :: some 10 :: some 11 :: some 12 :: some 13 :: some 14 :: some 15 :: [])
              (fun _ w' => Below w5.heap.size w5 w') (fun _ w w' => Below w.heap.size w w') ?mixK11clean1c ?okK11clean1c ?tabK11clean1c ?frK11clean1c ?inK11clean1c ?keptK11clean1c ?startK11clean1c ?eachK11clean1c ?finK11clean1c
            case mixK11clean1c => kernel_rfl
            case okK11clean1c => kernel_rfl
            case tabK11clean1c => kernel_rfl
            case frK11clean1c => kernel_rfl
            case inK11clean1c => rfl
            case keptK11clean1c => exact ⟨fun _ _ _ _ _ _ _ h => h, fun _ _ _ _ _ _ _ h => h, fun _ _ _ _ _ _ _ h => h, fun _ _ _ _ _ _ _ h => h, fun _ _ _ _ _ _ _ h => h, fun _ _ _ _ _ _ _ h => h, fun _ _ _ _ _ _ _ h => h, fun _ _ _ _ _ _ _ h => h, fun _ _ _ _ _ _ _ h => h, fun _ _ _ _ _ _ _ h => h, fun _ _ _ _ _ _ _ h => h, fun _ _ _ _ _ _ _ h => h, fun _ _ _ _ _ _ _ h => h, fun _ _ _ _ _ _ _ h => h, fun _ _ _ _ _ _ _ h => h, fun _ _ _ _ _ _ _ h => h, trivial⟩
            case startK11clean1c => exact (Below.refl _ _).drew
            case eachK11clean1c =>
              refine ⟨?_, ?_, ?_, ?_, ?_, ?_, ?_, ?_, ?_, ?_, ?_, ?_, ?_, ?_, ?_, ?_, trivial⟩
              -- 0: slot 47 := move t9
              · intro w L f hC hLi hLd hLn hF
                obtain ⟨d9, _⟩ := hF
                have d9 : f 9 = .bool true := d9
                refine Step2.live rfl ?_
                exact relUpon_value (v := f 9) rfl (hC) (Below.refl _ _) d9
              -- 1: slot 48 := move t47
              · intro w L f hC hLi hLd hLn hF
                obtain ⟨d47, _⟩ := hF
                have d47 : f 47 = .bool true := d47
                refine Step2.live rfl ?_
                exact relUpon_value (v := f 47) rfl (hC) (Below.refl _ _) d47
              -- 2: slot 49 := fieldAddr 100 t8 0
              · intro w L f hC hLi hLd hLn hF
                obtain ⟨d8, d48, _⟩ := hF
                have d8 : f 8 = .pointer (some ⟨g2, 0, none⟩) := d8
                have d48 : f 48 = .bool true := d48
                refine Step2.live (show wantedBy _ (f 48) = true by rw [d48]; rfl) ?_
                have ev : ∀ t, evalOf f (.tmp t) = f t := fun _ => rfl
                have ec : ∀ c, evalOf f (.const c) = c := fun _ => rfl
                have ef : ∀ g, evalOf f (.func g) = .func (.func g) #[] #[] := fun _ => rfl
                refine relUpon_value ?_ hC (Below.refl _ _) rfl
                go_simp
              -- 3: slot 50 := load 59 t49
              · intro w L f hC hLi hLd hLn hF
                obtain ⟨d49, d48, _⟩ := hF
                have d49 : f 49 = .pointer (some ⟨g2, 0, none⟩) := d49
                have d48 : f 48 = .bool true := d48
                refine Step2.live (show wantedBy _ (f 48) = true by rw [d48]; rfl) ?_
                have f0 := (hC.cell (p := ⟨g2, 0, none⟩) hH.out.lt).trans (hH.out.cell 0)
                have ev : ∀ t, evalOf f (.tmp t) = f t := fun _ => rfl
                have ec : ∀ c, evalOf f (.const c) = c := fun _ => rfl
                have ef : ∀ g, evalOf f (.func g) = .func (.func g) #[] #[] := fun _ => rfl
                refine relUpon_value ?_ hC (Below.refl _ _) rfl
                go_simp
              -- 4: slot 51 := move t0
              · intro w L f hC hLi hLd hLn hF
                obtain ⟨d0, d48, _⟩ := hF
                have d0 : f 0 = .pointer (some ⟨l.g, 0, none⟩) := d0
                have d48 : f 48 = .bool true := d48
                refine Step2.live (show wantedBy _ (f 48) = true by rw [d48]; rfl) ?_
                exact relUpon_value (v := f 0) rfl (hC) (Below.refl _ _) d0
              -- 5: slot 52 := nilCheck t51
              · intro w L f hC hLi hLd hLn hF
                obtain ⟨d51, d48, _⟩ := hF
                have d51 : f 51 = .pointer (some ⟨l.g, 0, none⟩) := d51
                have d48 : f 48 = .bool true := d48
                refine Step2.live (show wantedBy _ (f 48) = true by rw [d48]; rfl) ?_
                have ev : ∀ t, evalOf f (.tmp t) = f t := fun _ => rfl
                have ec : ∀ c, evalOf f (.const c) = c := fun _ => rfl
                have ef : ∀ g, evalOf f (.func g) = .func (.func g) #[] #[] := fun _ => rfl
                refine relUpon_value ?_ hC (Below.refl _ _) rfl
                go_simp
              -- 6: slot 53 := fieldAddr 104 t52 1
              · intro w L f hC hLi hLd hLn hF
                obtain ⟨d52, d48, _⟩ := hF
                have d52 : f 52 = .pointer (some ⟨l.g, 0, none⟩) := d52
                have d48 : f 48 = .bool true := d48
                refine Step2.live (show wantedBy _ (f 48) = true by rw [d48]; rfl) ?_
                have ev : ∀ t, evalOf f (.tmp t) = f t := fun _ => rfl
                have ec : ∀ c, evalOf f (.const c) = c := fun _ => rfl
                have ef : ∀ g, evalOf f (.func g) = .func (.func g) #[] #[] := fun _ => rfl
                refine relUpon_value ?_ hC (Below.refl _ _) rfl
                go_simp
              -- 7: slot 54 := fieldAddr 100 t53 0
              · intro w L f hC hLi hLd hLn hF
                obtain ⟨d53, d48, _⟩ := hF
                have d53 : f 53 = .pointer (some ⟨l.g, 1, none⟩) := d53
                have d48 : f 48 = .bool true := d48
                refine Step2.live (show wantedBy _ (f 48) = true by rw [d48]; rfl) ?_
                have ev : ∀ t, evalOf f (.tmp t) = f t := fun _ => rfl
                have ec : ∀ c, evalOf f (.const c) = c := fun _ => rfl
                have ef : ∀ g, evalOf f (.func g) = .func (.func g) #[] #[] := fun _ => rfl
                refine relUpon_value ?_ hC (Below.refl _ _) rfl
                go_simp
              -- 8: slot 55 := load 59 t54
              · intro w L f hC hLi hLd hLn hF
                obtain ⟨d54, d48, _⟩ := hF
                have d54 : f 54 = .pointer (some ⟨l.g, 1, none⟩) := d54
                have d48 : f 48 = .bool true := d48
                refine Step2.live (show wantedBy _ (f 48) = true by rw [d48]; rfl) ?_
                have f0 := (hLr.out.below hC).c1
                have ev : ∀ t, evalOf f (.tmp t) = f t := fun _ => rfl
                have ec : ∀ c, evalOf f (.const c) = c := fun _ => rfl
                have ef : ∀ g, evalOf f (.func g) = .func (.func g) #[] #[] := fun _ => rfl
                refine relUpon_value ?_ hC (Below.refl _ _) rfl
                go_simp
              -- 9: slot 56 := binOp BinOp.lss 59 t50 t55 59
              · intro w L f hC hLi hLd hLn hF
                obtain ⟨d50, d55, d48, _⟩ := hF
                have d50 : f 50 = .int .u64 hx.serial := d50
                have d55 : f 55 = .int .u64 l.serial := d55
                have d48 : f 48 = .bool true := d48
                refine Step2.live (show wantedBy _ (f 48) = true by rw [d48]; rfl) ?_
                have ev : ∀ t, evalOf f (.tmp t) = f t := fun _ => rfl
                have ec : ∀ c, evalOf f (.const c) = c := fun _ => rfl
                have ef : ∀ g, evalOf f (.func g) = .func (.func g) #[] #[] := fun _ => rfl
                refine relUpon_value ?_ hC (Below.refl _ _) rfl
                go_simp
                exact hlt.out
              -- 10: slot 57 := pick t48 t56 (const (Value.bool false))
              · intro w L f hC hLi hLd hLn hF
                obtain ⟨d48, d56, _⟩ := hF
                have d48 : f 48 = .bool true := d48
                have d56 : f 56 = .bool false := d56
                refine Step2.live rfl ?_
                have ev : ∀ t, evalOf f (.tmp t) = f t := fun _ => rfl
                have ec : ∀ c, evalOf f (.const c) = c := fun _ => rfl
                have ef : ∀ g, evalOf f (.func g) = .func (.func g) #[] #[] := fun _ => rfl
                refine relUpon_value ?_ hC (Below.refl _ _) rfl
                go_simp
              -- 11: slot 58 := move t57
              · intro w L f hC hLi hLd hLn hF
                obtain ⟨d57, _⟩ := hF
                have d57 : f 57 = .bool false := d57
                refine Step2.live rfl ?_
                exact relUpon_value (v := f 57) rfl (hC) (Below.refl _ _) d57
              -- 12: slot 59 := move t6
              · intro w L f hC hLi hLd hLn hF
                obtain ⟨d6, d58, _⟩ := hF
                have d6 : f 6 = .slice (some ⟨gb, 0, none⟩) q.size cb := d6
                have d58 : f 58 = .bool false := d58
                refine Step2.live (show wantedBy _ (f 58) = true by rw [d58]; rfl) ?_
                exact relUpon_value (v := f 6) rfl (hC) (Below.refl _ _) d6
              -- 13: slot 60 := move t3
              · intro w L f hC hLi hLd hLn hF
                obtain ⟨d3, d58, _⟩ := hF
                have d3 : f 3 = .slice (some ⟨gz, 0, none⟩) q.size q.size := d3
                have d58 : f 58 = .bool false := d58
                refine Step2.live (show wantedBy _ (f 58) = true by rw [d58]; rfl) ?_
                exact relUpon_value (v := f 3) rfl (hC) (Below.refl _ _) d3
              -- 14: slot 61 := call { value (Operand.func 101), args := #[t59, t60], argTypes := #[37, 37] }
              · intro w L f hC hLi hLd hLn hF
                obtain ⟨d59, d60, d58, _⟩ := hF
                have d59 : f 59 = .slice (some ⟨gb, 0, none⟩) q.size cb := d59
                have d60 : f 60 = .slice (some ⟨gz, 0, none⟩) q.size q.size := d60
                have d58 : f 58 = .bool false := d58
                refine Step2.live (show wantedBy _ (f 58) = true by rw [d58]; rfl) ?_
                have ev : ∀ t, evalOf f (.tmp t) = f t := fun _ => rfl
                have ec : ∀ c, evalOf f (.const c) = c := fun _ => rfl
                have ef : ∀ g, evalOf f (.func g) = .func (.func g) #[] #[] := fun _ => rfl
                refine relUpon_call (f := 101) (args := #[.slice (some ⟨gb, 0, none⟩) q.size cb, .slice (some ⟨gz, 0, none⟩) q.size q.size]) (w := w) (by go_simp) (equal_any w _ _ q.size cb q.size q.size b (List.replicate q.size 0) hbl.out (by simp) (by omega) (by omega) (hbr.out.below hC) (hzr.out.below hC)) ?_
                rintro e w1 ⟨he, hB⟩
                exact ⟨_, he, hC.trans (hB.mono hC.size), hB, rfl⟩
              -- 15: slot 62 := pick t58 (const (Value.bool true)) t61
              · intro w L f hC hLi hLd hLn hF
                obtain ⟨d58, d61, _⟩ := hF
                have d58 : f 58 = .bool false := d58
                have d61 : f 61 = .bool (decide (b = List.replicate q.size 0)) := d61
                refine Step2.live rfl ?_
                have ev : ∀ t, evalOf f (.tmp t) = f t := fun _ => rfl
                have ec : ∀ c, evalOf f (.const c) = c := fun _ => rfl
                have ef : ∀ g, evalOf f (.func g) = .func (.func g) #[] #[] := fun _ => rfl
                refine relUpon_value ?_ hC (Below.refl _ _) rfl
                go_simp
            intro x w' hC hV

            have e62 := hV 15 _ rfl rfl
            clear hV
            simp only [framed]
            rw [e62]
            clear e62
            go_wp2_with fail
            go_meet
            case rel => exact ⟨by rw [hkb.out], Lib.hid hC⟩
      obtain ⟨rfl, hb6⟩ := hcut
      rename World => w6
      have hB6 := Lib.hid (hB5.out.trans (hb6.out.mono hB5.out.size))
      have hL6 := Lib.hid (hL'.out.below hB6.out)
      have hD6 := Lib.hid (hD'.out.below hB6.out)
      have hst6 := Lib.hid (hst'.out.below hB6.out)
      have hzr6 := Lib.hid (hzr'.out.below hB6.out)
      have hkp0 : Hid (keepB l.serial q'.abs.n q'.abs.size (q'.abs.last k) = keepB l.serial q.n q.size b) := Lib.hid (by
        rw [hbe'.out, abs_last]
        show keepB l.serial q'.n q'.size _ = _
        rw [hqn.out, hqs.out])
      have hks' := Lib.hid hks
      clear hb6 hB5 hH hLr hzr hbr hks
      obtain ⟨kp, hkp⟩ : ∃ x, x = keepB l.serial q.n q.size b := ⟨_, rfl⟩
      rw [← hkp] at hkp0 ⊢
      clear hkp
      cases kp with
      | true =>
        have hF1 : Hid (CleanL w l q r0 z (k + 1) f gz q' w6) := Lib.hid ⟨by rw [hF.out.eq, cleanF, if_neg hks'.out, if_pos hkp0.out], hzr6.out, hst6.out, hL6.out, hqd.out, hqn.out, hqs.out⟩
        clear hF
        go_wp2_with fail
        refine ⟨⟨z, k + 1, f, q', rfl, by simp, by omega, hF1⟩, by simp [intOf]; omega⟩
      | false =>
        have c0 := hL6.out.c0
        have hwt := write_abs w6 q' hD6.out (k : Int) (by rw [hqn.out]; omega) (some ⟨gz, 0, none⟩) q.size q.size (zerosB q.size) (by simp [zerosB]) hqs.out.symm hzr6.out
        have hF2 : Hid (r0 = if (q'.abs.write k (zerosB q.size)).2 ≠ 0 then q'.abs.write k (zerosB q.size) else cleanF l f (q'.abs.write k (zerosB q.size)).1 (k + 1) true) := Lib.hid (by
          have h3 : q'.abs.size = q.size := hqs.out
          rw [hF.out.eq, cleanF, if_neg hks'.out, if_neg (by rw [hkp0.out]; simp), h3])
        clear hF
        go_wp2_with fail
        refine hwt.mono ?_
        clear hwt
        rintro e w7 ⟨rfl, q2, hst7, hab⟩
        obtain ⟨r, hr⟩ : ∃ r, r = q'.abs.write k (zerosB q.size) := ⟨_, rfl⟩
        rw [← hr] at hab hF2 ⊢
        have hL7 : Hid (LogP l q2 w7) := Lib.hid (hL6.out.dstep hD6.out hst7)
        have hst8 : Hid (DStep q w q2 w7) := Lib.hid (hst6.out.trans hst7)
        have hzr7 : Hid (RowAt w7 (some ⟨gz, 0, none⟩) ((zerosB q.size).map byteV)) := Lib.hid (hst7.bytes hD6.out hzr6.out)
        have hab' : Hid (q2.abs = r.1) := Lib.hid hab
        have hkeep : Hid (r.2 = 0 → q2.dead = false ∧ q2.n = q.n ∧ q2.size = q.size) := Lib.hid (fun h0 => by
          obtain ⟨h1, h2, h3⟩ := AD.write_kept (d := q'.abs) (i := k) (l := zerosB q.size) (by rw [← hr]; exact h0)
          rw [← hr, ← hab] at h1 h2 h3
          exact ⟨h1, h2.trans hqn.out, h3.trans hqs.out⟩)
        obtain ⟨err, herr⟩ : ∃ err, err = r.2 := ⟨_, rfl⟩
        rw [← herr] at hkeep hF2 ⊢
        have herr' := Lib.hid herr
        clear hr herr hab hst7 hst' hst6 hL6 hD6 hL' hD' hzr' hzr6 hB6 c0 hqd hqn hqs
        by_cases hz : err = 0
        · subst hz
          obtain ⟨hk1', hk2', hk3'⟩ := hkeep.out rfl
          have hF1 : Hid (CleanL w l q r0 true (k + 1) f gz q2 w7) := Lib.hid ⟨by rw [hF2.out, hab'.out]; rfl, hzr7.out, hst8.out, hL7.out, hk1', hk2', hk3'⟩
          clear hF2 hkeep hk1' hk2' hk3'
          go_wp2_with fail
          refine ⟨⟨true, k + 1, f, q2, rfl, by simp, by omega, hF1⟩, by simp [intOf]; omega⟩
        · have hfin : Hid (Left q w r0 (.returned (.int .i64 err)) w7) := Lib.hid (by
            have h1 := hF2.out
            rw [if_pos hz] at h1
            exact Left.mk' (by rw [h1, ← herr'.out]) hst8.out (by rw [h1]; exact hab'.out))
          have hz1 : ((err : Int) == 0) = false := by simp; omega
          have hz2 : ((err : Int) != 0) = true := by simp; omega
          go_wp2_with fail
          go_ret
          exact hfin.out
end Go.Proofs.YtelglbblgkhcmaaGreat
namespace Go.Proofs.YtelglbblgkhcmaaGreat
open Go.RowKit Go.Deep

section
variable {q q' : DR} {w w' : World} {B : Nat} {A : Option Addr}
/-- A slice lies in no block of the disk that its methods write. -/
theorem slice_apart (h : DiskP q w) {b o : Nat} {A : Option Addr} {n c : Nat} (h0 : w.cell? ⟨b, o, none⟩ = some (.slice A n c)) : b ≠ q.g ∧ b ≠ q.md ∧ b ≠ q.mw := by
  refine ⟨?_, ?_, ?_⟩
  · rintro rfl
    rw [h.hold.cell] at h0
    match o, h0 with
    | 0, h0 => simp [DR.cells] at h0
    | 1, h0 => simp [DR.cells] at h0
    | 2, h0 => simp [DR.cells] at h0
    | 3, h0 => simp [DR.cells] at h0
    | 4, h0 => simp [DR.cells] at h0
    | 5, h0 => simp [DR.cells] at h0
    | 6, h0 => simp [DR.cells] at h0
    | k + 7, h0 => simp [DR.cells] at h0
  · rintro rfl
    obtain ⟨⟨n, D, _, ⟨es, clock, hm, _⟩, _⟩, _⟩ := h.md
    simp [World.cell?, hm] at h0
  · rintro rfl
    obtain ⟨⟨n, D, _, ⟨es, clock, hm, _⟩, _⟩, _⟩ := h.mw
    simp [World.cell?, hm] at h0
theorem DStep.bytesB (h : DStep q w q' w') (hq : DiskP q w) {l : List UInt8} (hb : Bytes w B A l) : Bytes w' B A l := fun hn => by
  obtain ⟨b, off, e, hlt, hc⟩ := hb hn
  obtain ⟨b', off', e', hc'⟩ := h.bytes hq (show RowAt w A (l.map byteV) from fun _ => ⟨b, off, e, hc⟩) hn
  rw [e] at e'
  injection e' with e'
  injection e' with e1 e2
  subst e1 e2
  exact ⟨b, off, e, hlt, hc'⟩
theorem DStep.slices (h : DStep q w q' w') (hq : DiskP q w) {ls : List (List UInt8)} (hs : Slices w B A ls) : Slices w' B A ls := by
  obtain ⟨vs, hl, hr, hi⟩ := hs
  refine ⟨vs, hl, fun hn => ?_, fun i hlt => ?_⟩
  · obtain ⟨b, off, e, hlt, hc⟩ := hr hn
    refine ⟨b, off, e, hlt, fun j u hu => ?_⟩
    rw [← hc j u hu]
    have hjl : j < ls.length := by
      rw [← hl]
      rcases Nat.lt_or_ge j vs.length with h1 | h1
      · exact h1
      · rw [List.getElem?_eq_none h1] at hu; cases hu
    obtain ⟨Ai, ci, h1, _⟩ := hi j hjl
    rw [hu] at h1
    injection h1 with h1
    subst h1
    have h0 := hc j _ hu
    obtain ⟨a1, a2, a3⟩ := slice_apart hq h0
    exact World.cell?_of_block (h.wrt.block b (cell_lt h0) (by simp; exact ⟨a1, a2, a3⟩))
  · obtain ⟨Ai, ci, h1, h2, h3⟩ := hi i hlt
    exact ⟨Ai, ci, h1, h.bytesB hq h2, h3⟩
end
/-- A disk goes on with its power, its shape as it was. -/
structure AD.Kept (d d' : AD) : Prop where
  dead : d'.dead = false
  n : d'.n = d.n
  size : d'.size = d.size
theorem AD.Kept.trans {d d' d'' : AD} (h : AD.Kept d d') (h' : AD.Kept d' d'') : AD.Kept d d'' := ⟨h'.dead, h'.n.trans h.n, h'.size.trans h.size⟩
theorem AD.write_k {d : AD} {i : Int} {l : List UInt8} (h : (d.write i l).2 = 0) : AD.Kept d (d.write i l).1 := ⟨(AD.write_kept h).1, (AD.write_kept h).2.1, (AD.write_kept h).2.2⟩
theorem AD.flush_k {d : AD} (h : d.flush.2 = 0) : AD.Kept d d.flush.1 := by
  unfold AD.flush at h ⊢
  by_cases h1 : d.dead = true
  · rw [if_pos h1] at h; cases h
  rw [if_neg h1] at h ⊢
  by_cases h2 : d.powered.dead = true
  · rw [if_pos h2] at h; cases h
  rw [if_neg h2]
  refine ⟨by simpa [AD.settled] using h2, ?_, ?_⟩ <;> (unfold AD.settled AD.powered; simp only; split <;> (try split) <;> rfl)
theorem fillA_k : ∀ (f : Nat) (d : AD) (s a : Nat) (b : List UInt8), d.dead = false → (fillA f d s a b).2 = 0 → AD.Kept d (fillA f d s a b).1
  | 0, d, s, a, b, hd, _ => ⟨hd, rfl, rfl⟩
  | f + 1, d, s, a, b, hd, h => by
    unfold fillA at h ⊢
    by_cases h1 : b = []
    · rw [if_pos h1]
      exact ⟨hd, rfl, rfl⟩
    rw [if_neg h1] at h ⊢
    by_cases h2 : (d.write s (splice (d.last s) a (b.take (d.size - a)))).2 = 0
    · rw [if_neg (by simpa using h2)] at h ⊢
      have hk := AD.write_k h2
      exact hk.trans (fillA_k f _ _ _ _ hk.dead h)
    · rw [if_pos h2] at h
      exact absurd h h2
theorem cleanF_k (l : LR) : ∀ (f : Nat) (d : AD) (k : Nat) (z : Bool), d.dead = false → (cleanF l f d k z).2 = 0 → AD.Kept d (cleanF l f d k z).1
  | 0, d, k, z, hd, h => by
    unfold cleanF at h ⊢
    split
    · rename_i hz
      rw [if_pos hz] at h
      exact AD.flush_k h
    · exact ⟨hd, rfl, rfl⟩
  | f + 1, d, k, z, hd, h => by
    unfold cleanF at h ⊢
    by_cases h1 : k = l.slot
    · rw [if_pos h1] at h ⊢
      exact cleanF_k l f d _ z hd h
    rw [if_neg h1] at h ⊢
    by_cases h2 : keepB l.serial d.n d.size (d.last k) = true
    · rw [if_pos h2] at h ⊢
      exact cleanF_k l f d _ z hd h
    rw [if_neg h2] at h ⊢
    by_cases h3 : (d.write k (zerosB d.size)).2 = 0
    · rw [if_neg (by simpa using h3)] at h ⊢
      have hk := AD.write_k h3
      exact hk.trans (cleanF_k l f _ _ true hk.dead h)
    · rw [if_pos h3] at h
      exact absurd h h3
def fillR (d : AD) (h : Hdr) (b : List UInt8) : AD × Nat := fillA b.length d (2 + h.area * half d.n + h.used / d.size) (h.used % d.size) b
def tooLong (ls : List (List UInt8)) : Bool := ls.any fun r => decide (1048576 < r.length)
/-- Records are written behind a header's used bytes, and published: the disk, the log, the error's number. -/
def putA (d : AD) (l : LR) (h : Hdr) (ls : List (List UInt8)) : AD × LR × Nat :=
  if tooLong ls = true then (d, l, 42)
  else if half d.n * d.size - h.used < (framesF ls).length then (d, l, 40)
  else if (cleanA d l).2 ≠ 0 then ((cleanA d l).1, l, (cleanA d l).2)
  else if (fillR (cleanA d l).1 h (framesF ls)).2 ≠ 0 then ((fillR (cleanA d l).1 h (framesF ls)).1, l, (fillR (cleanA d l).1 h (framesF ls)).2)
  else if (fillR (cleanA d l).1 h (framesF ls)).1.flush.2 ≠ 0 then ((fillR (cleanA d l).1 h (framesF ls)).1.flush.1, l, (fillR (cleanA d l).1 h (framesF ls)).1.flush.2)
  else pubA (fillR (cleanA d l).1 h (framesF ls)).1.flush.1 l ⟨h.serial, h.area, h.used + (framesF ls).length, h.count⟩
theorem framesF_bound (ls : List (List UInt8)) (M : Nat) (h : ∀ r ∈ ls, r.length ≤ M) : (framesF ls).length ≤ ls.length * (M + 8) := by
  induction ls with
  | nil => simp [framesF]
  | cons a t ih =>
    have h1 := ih (fun r hr => h r (by simp [hr]))
    have h2 := h a (by simp)
    have e : framesF (a :: t) = frameOf a ++ framesF t := by simp [framesF]
    rw [e, List.length_append, frameOf_length, List.length_cons, Nat.succ_mul]
    omega
theorem tooLong_take {ls : List (List UInt8)} {k : Nat} (hk : k < ls.length) (h : 1048576 < ls[k].length) : tooLong ls = true := by
  unfold tooLong
  rw [List.any_eq_true]
  exact ⟨ls[k], List.getElem_mem hk, by simpa using h⟩
theorem tooLong_none {ls : List (List UInt8)} (h : ∀ r ∈ ls, r.length ≤ 1048576) : tooLong ls = false := by
  unfold tooLong
  rw [List.any_eq_false]
  intro r hr
  have := h r hr
  simp
  omega
def shortOnes (ls : List (List UInt8)) : Prop := ∀ r ∈ ls, r.length ≤ 1048576
set_option maxRecDepth 100000 in
set_option maxHeartbeats 4000000 in
theorem put_any_ (w : World) (l : LR) (q : DR) (hl : LogP l q w) (hq : DiskP q w) (hd : q.dead = false) (hn1 : 16 ≤ q.n) (hs3 : 128 ≤ q.size) (h : Hdr) (ha : h.area ≤ 1) (hu : h.used ≤ half q.n * q.size) (hc : h.count ≤ 1000000000) (hsr : l.serial ≤ 4611686018427387904)
    (A : Option Addr) (n c : Nat) (ls : List (List UInt8)) (hln : ls.length = n) (hnn : n ≤ 100000) (hs : Slices w w.heap.size A ls) :
    Calls Tryz.prog 82 #[.pointer (some ⟨l.g, 0, none⟩), h.val, .slice A n c] w (LeftL l q w (putA q.abs l h ls)) := by
  have hn2 := hq.n2
  have hs2 := hq.s2
  have hm : half q.n * q.size ≤ 2047 * 4096 := Nat.mul_le_mul (half_le q.n hn2) hs2
  have hLg : Hid (LogP l q w) := Lib.hid hl
  have hD := Lib.hid hq
  have hdd := Lib.hid hd
  have hb1 := below_new w (.cells #[.int .u64 h.serial, .int .i64 h.area, .int .i64 h.used, .int .i64 h.count] 100)
  have hH1 := Holds.new w 100 #[.int .u64 h.serial, .int .i64 h.area, .int .i64 h.used, .int .i64 h.count]
  have hsl := Lib.hid hs
  have hln' := Lib.hid hln
  clear hl hq hd hs hln
  unfold Hdr.val
  go_enter Tryz.func82, Tryz.ntmps82
  go_upto_region 2 with (fail)
  obtain ⟨g, hg⟩ : ∃ g, g = w.heap.size := ⟨_, rfl⟩
  obtain ⟨w1, hw1⟩ : ∃ x, x = w.alloc (.cells #[.int .u64 h.serial, .int .i64 h.area, .int .i64 h.used, .int .i64 h.count] 100) := ⟨_, rfl⟩
  rw [← hg, ← hw1] at hH1 ⊢
  rw [← hw1] at hb1
  have hB1 := Lib.hid hb1
  have hg' := Lib.hid hg
  have hH := Lib.hid hH1
  clear hb1 hH1 hg hw1
  have hLr := Lib.hid (hLg.out.below hB1.out)
  have hDr := Lib.hid (hD.out.below hB1.out)
  have hsl1 := Lib.hid (hsl.out.up hB1.out)
  have hln := hln'
  go_wp2_with fail
  go_loopw [7, 15] (fun tv iv wr => ∃ k : Nat, k ≤ n ∧ iv = .int .i64 k ∧ tv = .int .i64 (framesF (ls.take k)).length ∧ Hid (shortOnes (ls.take k)) ∧ Hid (wr = w1)) (fun _ iv _ => n - (intOf iv).toNat)
  case atStart => exact ⟨0, by omega, rfl, rfl, Lib.hid (by simp [shortOnes]), Lib.hid rfl⟩
  obtain ⟨k, hk, rfl, rfl, hsh, hwr⟩ := hrel
  have hT0 := Lib.hid (framesF_bound (ls.take k) 1048576 hsh.out)
  obtain ⟨T, hT⟩ : ∃ T, T = (framesF (ls.take k)).length := ⟨_, rfl⟩
  rw [← hT] at hT0 ⊢
  have hT' := Lib.hid hT
  clear hT
  have hTb : T ≤ 104858400000 := by
    have h1 := hT0.out
    have h2 : (ls.take k).length ≤ 100000 := by rw [List.length_take, hln.out]; omega
    have h3 : (ls.take k).length * (1048576 + 8) ≤ 100000 * (1048576 + 8) := Nat.mul_le_mul_right _ h2
    omega
  obtain ⟨w9, hw9⟩ : ∃ x, x = wr := ⟨_, rfl⟩
  by_cases hkn : k < n
  · have hkl : k < ls.length := by rw [hln.out]; exact hkn
    obtain ⟨b, off, Ai, ci, rfl, hbB, hcell, hby, hmx⟩ := (hsl1.out.at_ hkl)
    rw [← hwr.out] at hcell
    obtain ⟨m, hm'⟩ : ∃ m, m = ls[k].length := ⟨_, rfl⟩
    rw [← hm'] at hcell hmx
    have hm2 := Lib.hid hm'
    clear hm' hby hbB
    by_cases hgt : 1048576 < m
    · have hfin : Hid (LeftL l q w (putA q.abs l h ls) (.returned (.int .i64 (42 : Nat))) wr) := Lib.hid (by
        have h1 : putA q.abs l h ls = (q.abs, l, 42) := by
          unfold putA
          rw [if_pos (tooLong_take hkl (by rw [← hm2.out]; exact hgt))]
        rw [h1]
        refine ⟨rfl, q, ?_, rfl⟩
        rw [hwr.out]
        exact (LStep.refl hLg.out hD.out).below hB1.out)
      have hgi : (1048576 : Int) < (m : Int) := by omega
      clear hw9
      go_wp2_with fail
      go_ret
      exact hfin.out
    · have hgi : ¬ (1048576 : Int) < (m : Int) := by omega
      have hkw : IntKind.i64.wrap ((k : Int) + 1) = ((k + 1 : Nat) : Int) := by rw [IntWalk.i64_in _ (by omega)]; omega
      have hw8 : IntKind.i64.wrap (8 + (m : Int)) = 8 + (m : Int) := IntWalk.i64_in _ (by omega)
      have hwT : IntKind.i64.wrap ((T : Int) + (8 + (m : Int))) = ((T + (8 + m) : Nat) : Int) := by rw [IntWalk.i64_in _ (by omega)]; omega
      have hnew : Hid ((framesF (ls.take (k + 1))).length = T + (8 + m)) := Lib.hid (by rw [framesF_snoc ls k hkl, List.length_append, frameOf_length, ← hT'.out, ← hm2.out])
      have hsh2 : Hid (shortOnes (ls.take (k + 1))) := Lib.hid (fun r hr => by
        rw [List.take_succ_eq_append_getElem hkl, List.mem_append, List.mem_singleton] at hr
        rcases hr with hr | rfl
        · exact hsh.out r hr
        · rw [← hm2.out]; omega)
      clear hw9
      go_wp2_with fail
      go_roundw
      case rel => exact ⟨k + 1, by omega, by simp, by rw [hnew.out]; simp, hsh2, hwr⟩
      case measure => simp [intOf]; omega
  · obtain rfl : n = k := by omega
    have htk : ls.take n = ls := List.take_of_length_le (by rw [hln.out]; exact Nat.le_refl _)
    rw [htk] at hsh hT' hT0
    have hlong := Lib.hid (tooLong_none hsh.out)
    clear htk hT0 hsh
    rw [hwr.out] at ⊢
    clear hwr hw9
    have hx : Hid (IntKind.i64.wrap (((half q.n * q.size : Nat) : Int) - (h.used : Int)) = ((half q.n * q.size - h.used : Nat) : Int)) := Lib.hid (by rw [IntWalk.i64_in _ (by omega)]; omega)
    go_wp2_with fail
    -- THE REGION THAT DRAWS ITS ORDER, BY ONE LEXICAL WALK OVER GENERIC VALUES (written by relgen.py)
    refine wp_region_tab ((fun _ v => v = .int .i64 T) ::
      (fun _ v => v = .pointer (some ⟨l.g, 0, none⟩)) ::
      (fun _ v => v = shV q.n q.size) ::
      (fun _ v => v = .int .i64 (half q.n * q.size : Nat)) ::
      (fun _ v => v = .pointer (some ⟨g, 2, none⟩)) ::
      (fun _ v => v = .int .i64 h.used) ::
      (fun _ v => v = .int .i64 ((half q.n * q.size - h.used : Nat) : Int)) ::
      (fun _ v => v = .bool (decide (half q.n * q.size - h.used < T))) :: [])
      (⟨[(7, none)], 0, []⟩ :: ⟨[(0, none)], 0, []⟩ :: ⟨[(29, some 1)], 0, []⟩ :: ⟨[(30, some 2)], 0, []⟩ :: ⟨[(4, none)], 0, []⟩ :: ⟨[(32, some 4)], 0, []⟩ :: ⟨[(31, some 3), (33, some 5)], 0, []⟩ :: ⟨[(28, some 0), (34, some 6)], 0, []⟩ :: [])
      (none :: none :: none :: none :: none :: none :: none :: none :: none :: none :: none :: none :: none :: none :: none :: none :: none :: none :: none :: none :: none :: none :: none :: none :: none :: none :: none :: none :: some 0 :: some 1 :: some 2 :: some 3 :: some 4 :: some 5 :: some 6 :: some 7 :: [])
      (fun _ w' => Below w1.heap.size w1 w') (fun _ w w' => Below w.heap.size w w') ?mixK9put9 ?okK9put9 ?tabK9put9 ?frK9put9 ?inK9put9 ?keptK9put9 ?startK9put9 ?eachK9put9 ?finK9put9
    case mixK9put9 => kernel_rfl
    case okK9put9 => kernel_rfl
    case tabK9put9 => kernel_rfl
    case frK9put9 => kernel_rfl
    case inK9put9 => rfl
    case keptK9put9 => exact ⟨fun _ _ _ _ _ _ _ h => h, fun _ _ _ _ _ _ _ h => h, fun _ _ _ _ _ _ _ h => h, fun _ _ _ _ _ _ _ h => h, fun _ _ _ _ _ _ _ h => h, fun _ _ _ _ _ _ _ h => h, fun _ _ _ _ _ _ _ h => h, fun _ _ _ _ _ _ _ h => h, trivial⟩
    case startK9put9 => exact (Below.refl _ _).drew
    case eachK9put9 =>
      refine ⟨?_, ?_, ?_, ?_, ?_, ?_, ?_, ?_, trivial⟩
      -- 0: slot 28 := move t7
      · intro w L f hC hLi hLd hLn hF
        obtain ⟨d7, _⟩ := hF
        have d7 : f 7 = .int .i64 T := d7
        refine Step2.live rfl ?_
        exact relUpon_value (v := f 7) rfl (hC) (Below.refl _ _) d7
      -- 1: slot 29 := move t0
      · intro w L f hC hLi hLd hLn hF
        obtain ⟨d0, _⟩ := hF
        have d0 : f 0 = .pointer (some ⟨l.g, 0, none⟩) := d0
        refine Step2.live rfl ?_
        exact relUpon_value (v := f 0) rfl (hC) (Below.refl _ _) d0
      -- 2: slot 30 := call { value (Operand.func 72), args := #[t29], argTypes := #[53] }
      · intro w L f hC hLi hLd hLn hF
        obtain ⟨d29, _⟩ := hF
        have d29 : f 29 = .pointer (some ⟨l.g, 0, none⟩) := d29
        refine Step2.live rfl ?_
        have ev : ∀ t, evalOf f (.tmp t) = f t := fun _ => rfl
        have ec : ∀ c, evalOf f (.const c) = c := fun _ => rfl
        have ef : ∀ g, evalOf f (.func g) = .func (.func g) #[] #[] := fun _ => rfl
        refine relUpon_call (f := 72) (args := #[.pointer (some ⟨l.g, 0, none⟩)]) (w := w) (by go_simp) (lshape_any w l q (hLr.out.below hC) (hDr.out.below hC)) ?_
        rintro e w1 ⟨he, hB⟩
        exact ⟨_, he, hC.trans (hB.mono hC.size), hB, rfl⟩
      -- 3: slot 31 := call { value (Operand.func 100), args := #[t30], argTypes := #[139] }
      · intro w L f hC hLi hLd hLn hF
        obtain ⟨d30, _⟩ := hF
        have d30 : f 30 = shV q.n q.size := d30
        refine Step2.live rfl ?_
        have ev : ∀ t, evalOf f (.tmp t) = f t := fun _ => rfl
        have ec : ∀ c, evalOf f (.const c) = c := fun _ => rfl
        have ef : ∀ g, evalOf f (.func g) = .func (.func g) #[] #[] := fun _ => rfl
        refine relUpon_call (f := 100) (args := #[shV q.n q.size]) (w := w) (by go_simp) (area_any w q.n q.size hn1 hn2 hs2) ?_
        rintro e w1 ⟨he, hB⟩
        exact ⟨_, he, hC.trans (hB.mono hC.size), hB, rfl⟩
      -- 4: slot 32 := fieldAddr 100 t4 2
      · intro w L f hC hLi hLd hLn hF
        obtain ⟨d4, _⟩ := hF
        have d4 : f 4 = .pointer (some ⟨g, 0, none⟩) := d4
        refine Step2.live rfl ?_
        have ev : ∀ t, evalOf f (.tmp t) = f t := fun _ => rfl
        have ec : ∀ c, evalOf f (.const c) = c := fun _ => rfl
        have ef : ∀ g, evalOf f (.func g) = .func (.func g) #[] #[] := fun _ => rfl
        refine relUpon_value ?_ hC (Below.refl _ _) rfl
        go_simp
      -- 5: slot 33 := load 3 t32
      · intro w L f hC hLi hLd hLn hF
        obtain ⟨d32, _⟩ := hF
        have d32 : f 32 = .pointer (some ⟨g, 2, none⟩) := d32
        refine Step2.live rfl ?_
        have f0 := (hC.cell (p := ⟨g, 2, none⟩) hH.out.lt).trans (hH.out.cell 2)
        have ev : ∀ t, evalOf f (.tmp t) = f t := fun _ => rfl
        have ec : ∀ c, evalOf f (.const c) = c := fun _ => rfl
        have ef : ∀ g, evalOf f (.func g) = .func (.func g) #[] #[] := fun _ => rfl
        refine relUpon_value ?_ hC (Below.refl _ _) rfl
        go_simp
      -- 6: slot 34 := binOp BinOp.sub 3 t31 t33 3
      · intro w L f hC hLi hLd hLn hF
        obtain ⟨d31, d33, _⟩ := hF
        have d31 : f 31 = .int .i64 (half q.n * q.size : Nat) := d31
        have d33 : f 33 = .int .i64 h.used := d33
        refine Step2.live rfl ?_
        have ev : ∀ t, evalOf f (.tmp t) = f t := fun _ => rfl
        have ec : ∀ c, evalOf f (.const c) = c := fun _ => rfl
        have ef : ∀ g, evalOf f (.func g) = .func (.func g) #[] #[] := fun _ => rfl
        refine relUpon_value ?_ hC (Below.refl _ _) rfl
        go_simp
        exact hx.out
      -- 7: slot 35 := binOp BinOp.gtr 3 t28 t34 3
      · intro w L f hC hLi hLd hLn hF
        obtain ⟨d28, d34, _⟩ := hF
        have d28 : f 28 = .int .i64 T := d28
        have d34 : f 34 = .int .i64 ((half q.n * q.size - h.used : Nat) : Int) := d34
        refine Step2.live rfl ?_
        have ev : ∀ t, evalOf f (.tmp t) = f t := fun _ => rfl
        have ec : ∀ c, evalOf f (.const c) = c := fun _ => rfl
        have ef : ∀ g, evalOf f (.func g) = .func (.func g) #[] #[] := fun _ => rfl
        refine relUpon_value ?_ hC (Below.refl _ _) rfl
        go_simp
    intro x w' hC hV

    have e35 := hV 7 _ rfl rfl
    clear hV
    simp only [framed]
    rw [e35]
    clear e35
    obtain ⟨w2, hw2⟩ : ∃ x, x = w' := ⟨_, rfl⟩
    rw [← hw2] at hC ⊢
    clear hw2
    have hB2 := Lib.hid (hB1.out.trans (hC.mono hB1.out.size))
    have hH2 := Lib.hid (hH.out.below hC hH.out.lt)
    have hL2 := Lib.hid (hLr.out.below hC)
    have hD2 := Lib.hid (hDr.out.below hC)
    have hsl2 := Lib.hid (hsl1.out.up hC)
    clear hC hx hH hLr hDr hsl1 hB1
    by_cases hful : half q.n * q.size - h.used < T
    · have hd1 : decide (half q.n * q.size - h.used < T) = true := decide_eq_true hful
      have hfin : Hid (LeftL l q w (putA q.abs l h ls) (.returned (.int .i64 (40 : Nat))) w2) := Lib.hid (by
        have h1 : putA q.abs l h ls = (q.abs, l, 40) := by
          unfold putA
          rw [if_neg (by rw [hlong.out]; simp), ← hT'.out]
          exact if_pos hful
        rw [h1]
        exact ⟨rfl, q, (LStep.refl hLg.out hD.out).below hB2.out, rfl⟩)
      go_wp2_with fail
      go_ret
      exact hfin.out
    · have hd1 : decide (half q.n * q.size - h.used < T) = false := decide_eq_false hful
      have hP : Hid (putA q.abs l h ls = if (cleanA q.abs l).2 ≠ 0 then ((cleanA q.abs l).1, l, (cleanA q.abs l).2)
          else if (fillR (cleanA q.abs l).1 h (framesF ls)).2 ≠ 0 then ((fillR (cleanA q.abs l).1 h (framesF ls)).1, l, (fillR (cleanA q.abs l).1 h (framesF ls)).2)
          else if (fillR (cleanA q.abs l).1 h (framesF ls)).1.flush.2 ≠ 0 then ((fillR (cleanA q.abs l).1 h (framesF ls)).1.flush.1, l, (fillR (cleanA q.abs l).1 h (framesF ls)).1.flush.2)
          else pubA (fillR (cleanA q.abs l).1 h (framesF ls)).1.flush.1 l ⟨h.serial, h.area, h.used + T, h.count⟩) := Lib.hid (by
        unfold putA
        rw [if_neg (by rw [hlong.out]; simp), ← hT'.out]
        exact if_neg hful)
      have hfit : h.used + T ≤ half q.n * q.size := by omega
      have hcl := clean_any w2 l q hL2.out hD2.out hdd.out hn1 hs3
      go_wp2_with fail
      refine hcl.mono ?_
      clear hcl
      rintro e w3 ⟨rfl, q2, hst3, hab3⟩
      have hqF : Hid (¬ q.F g) := Lib.hid (fun hx => by have := hD.out.lt g hx; have := hg'.out; omega)
      have hk0 : Hid ((cleanA q.abs l).2 = 0 → AD.Kept q.abs (cleanA q.abs l).1) := Lib.hid (cleanF_k l 2 q.abs 0 false hdd.out)
      obtain ⟨R1, hR1⟩ : ∃ R, R = cleanA q.abs l := ⟨_, rfl⟩
      rw [← hR1] at hab3 hP hk0 ⊢
      clear hR1
      have hH3 : Hid (Holds w3 g 100 #[.int .u64 h.serial, .int .i64 h.area, .int .i64 h.used, .int .i64 h.count]) := Lib.hid (hst3.other hH2.out hqF.out).1
      have hqF3 : Hid (¬ q2.F g) := Lib.hid (hst3.other hH2.out hqF.out).2
      have hL3 : Hid (LogP l q2 w3) := Lib.hid (hL2.out.dstep hD2.out hst3)
      have hD3 : Hid (DiskP q2 w3) := Lib.hid hst3.post
      have hst : Hid (DStep q w q2 w3) := Lib.hid (DStep.ahead hD.out hB2.out hst3)
      have hsl3 : Hid (Slices w3 w3.heap.size A ls) := Lib.hid ((hst3.slices hD2.out hsl2.out).more hst3.wrt.size)
      have hab := Lib.hid hab3
      clear hst3 hab3 hH2 hqF hL2 hD2 hsl2 hB2 hsl
      obtain ⟨err, herr⟩ : ∃ e, e = R1.2 := ⟨_, rfl⟩
      rw [← herr] at hP hk0 ⊢
      clear herr
      by_cases hz : err = 0
      case neg =>
        have hfin : Hid (LeftL l q w (putA q.abs l h ls) (.returned (.int .i64 err)) w3) := Lib.hid (by
          have h1 := hP.out
          rw [if_pos hz] at h1
          rw [h1]
          exact ⟨rfl, q2, .of_dstep hLg.out hD.out hst.out, hab.out⟩)
        have hz1 : ((err : Int) == 0) = false := by simp; omega
        have hz2 : ((err : Int) != 0) = true := by simp; omega
        go_wp2_with fail
        go_ret
        exact hfin.out
      subst hz
      have hk3 : Hid (AD.Kept q.abs q2.abs) := Lib.hid (by rw [hab.out]; exact hk0.out rfl)
      have hqn : Hid (q2.n = q.n) := Lib.hid hk3.out.n
      have hqs : Hid (q2.size = q.size) := Lib.hid hk3.out.size
      have hP3 : Hid (putA q.abs l h ls = if (fillR q2.abs h (framesF ls)).2 ≠ 0 then ((fillR q2.abs h (framesF ls)).1, l, (fillR q2.abs h (framesF ls)).2)
          else if (fillR q2.abs h (framesF ls)).1.flush.2 ≠ 0 then ((fillR q2.abs h (framesF ls)).1.flush.1, l, (fillR q2.abs h (framesF ls)).1.flush.2)
          else pubA (fillR q2.abs h (framesF ls)).1.flush.1 l ⟨h.serial, h.area, h.used + T, h.count⟩) := Lib.hid (by rw [hP.out, hab.out]; rfl)
      have hkf : Hid ((fillR q2.abs h (framesF ls)).2 = 0 → AD.Kept q2.abs (fillR q2.abs h (framesF ls)).1) := Lib.hid (fillA_k _ _ _ _ _ hk3.out.dead)
      clear hP hk0 hab
      have hfit2 : h.used + (framesF ls).length ≤ half q.n * q.size := by rw [← hT'.out]; exact hfit
      have hFl : (framesF ls).length ≤ 2047 * 4096 := by omega
      go_upto_region 14 with (fail)
      -- THE REGION THAT DRAWS ITS ORDER, BY ONE LEXICAL WALK OVER GENERIC VALUES (written by relgen.py)
      refine wp_region_tabL ((fun _ _ v => v = .pointer (some ⟨l.g, 0, none⟩)) ::
        (fun _ _ v => v = .agg #[.int .u64 h.serial, .int .i64 h.area, .int .i64 h.used, .int .i64 h.count]) ::
        (fun _ _ v => v = .slice A n c) ::
        (fun L w v => Till 4 (fun w v => ∃ A' c', v = .slice A' (framesF ls).length c' ∧ RowAt w A' ((framesF ls).map byteV) ∧ (framesF ls).length ≤ c') L w v) ::
        (fun _ _ v => v = .int .i64 ((fillR q2.abs h (framesF ls)).2 : Nat)) ::
        (fun _ _ v => v = .int .i64 ((fillR q2.abs h (framesF ls)).2 : Nat)) :: [])
        (⟨[(0, none)], 0, [4]⟩ :: ⟨[(4, none)], 0, [4]⟩ :: ⟨[(2, none)], 0, [4]⟩ :: ⟨[(43, some 2)], 0, [4]⟩ :: ⟨[(41, some 0), (42, some 1), (44, some 3)], 0, []⟩ :: ⟨[(45, some 4)], 0, []⟩ :: [])
        (none :: none :: none :: none :: none :: none :: none :: none :: none :: none :: none :: some 5 :: none :: none :: none :: none :: none :: none :: none :: none :: none :: none :: none :: none :: none :: none :: none :: none :: none :: none :: none :: none :: none :: none :: none :: none :: none :: none :: none :: none :: none :: some 0 :: some 1 :: some 2 :: some 3 :: some 4 :: [])
        (fun L w' => CS 4 3 w3 (fun w' => ∃ q3, DStep q2 w3 q3 w' ∧ q3.abs = (fillR q2.abs h (framesF ls)).1 ∧ Holds w' g 100 #[.int .u64 h.serial, .int .i64 h.area, .int .i64 h.used, .int .i64 h.count] ∧ ¬ q3.F g) L w') (fun i w w' => i ≠ 4 → Below w.heap.size w w') ?mixK14put14 ?okK14put14 ?tabK14put14 ?frK14put14 ?inK14put14 ?keptK14put14 ?startK14put14 ?eachK14put14 ?finK14put14
      case mixK14put14 => kernel_rfl
      case okK14put14 => kernel_rfl
      case tabK14put14 => kernel_rfl
      case frK14put14 => kernel_rfl
      case inK14put14 => rfl
      case keptK14put14 => exact ⟨fun _ _ _ _ _ _ _ _ _ _ _ h => h, fun _ _ _ _ _ _ _ _ _ _ _ h => h, fun _ _ _ _ _ _ _ _ _ _ _ h => h, fun i hne hrd L w w' v hLi hC hC' hG h => Till.keepN h hne (fun _ h2 => hG h2) (fun hb ⟨A, c', e, h, h2⟩ => ⟨A, c', e, h.below hb, h2⟩), fun _ _ _ _ _ _ _ _ _ _ _ h => h, fun _ _ _ _ _ _ _ _ _ _ _ h => h, trivial⟩
      case startK14put14 => exact ⟨fun _ => (Below.refl _ _).drew, fun e => by simp at e⟩
      case eachK14put14 =>
        refine ⟨?_, ?_, ?_, ?_, ?_, ?_, trivial⟩
        -- 0: slot 41 := move t0
        · intro w L f hC hLi hLd hLn hF
          obtain ⟨d0, _⟩ := hF
          have d0 : f 0 = .pointer (some ⟨l.g, 0, none⟩) := d0
          refine Step2.live rfl ?_
          exact relUpon_value (v := f 0) rfl (hC.go (i := 0) (hLn 4 (by simp)) (by decide) (Below.refl _ _)) (fun _ => Below.refl _ _) d0
        -- 1: slot 42 := load 100 t4
        · intro w L f hC hLi hLd hLn hF
          obtain ⟨d4, _⟩ := hF
          have d4 : f 4 = .pointer (some ⟨g, 0, none⟩) := d4
          refine Step2.live rfl ?_
          have hw := hC.bel (hLn 4 (by simp))
          have hh := hH3.out.below hw hH3.out.lt
          have c0 := hh.cell 0
          have c1 := hh.cell 1
          have c2 := hh.cell 2
          have c3 := hh.cell 3
          have ev : ∀ t, evalOf f (.tmp t) = f t := fun _ => rfl
          have ec : ∀ c, evalOf f (.const c) = c := fun _ => rfl
          have ef : ∀ g, evalOf f (.func g) = .func (.func g) #[] #[] := fun _ => rfl
          refine relUpon_value ?_ (hC.go (i := 1) (hLn 4 (by simp)) (by decide) (Below.refl _ _)) (fun _ => Below.refl _ _) rfl
          go_simp
        -- 2: slot 43 := move t2
        · intro w L f hC hLi hLd hLn hF
          obtain ⟨d2, _⟩ := hF
          have d2 : f 2 = .slice A n c := d2
          refine Step2.live rfl ?_
          exact relUpon_value (v := f 2) rfl (hC.go (i := 2) (hLn 4 (by simp)) (by decide) (Below.refl _ _)) (fun _ => Below.refl _ _) d2
        -- 3: slot 44 := call { value (Operand.func 111), args := #[t43], argTypes := #[72] }
        · intro w L f hC hLi hLd hLn hF
          obtain ⟨d43, _⟩ := hF
          have d43 : f 43 = .slice A n c := d43
          refine Step2.live rfl ?_
          have hw := hC.bel (hLn 4 (by simp))
          have ev : ∀ t, evalOf f (.tmp t) = f t := fun _ => rfl
          have ec : ∀ c, evalOf f (.const c) = c := fun _ => rfl
          have ef : ∀ g, evalOf f (.func g) = .func (.func g) #[] #[] := fun _ => rfl
          refine relUpon_call (f := 111) (args := #[.slice A n c]) (w := w) (by go_simp) (frames_any w A n c ls hln.out (by omega) (hsl3.out.up hw) (by omega)) ?_
          rintro e w1 ⟨⟨v, he, hv⟩, hB⟩
          obtain ⟨A', c', e2, hr, _, hc'⟩ := own_row hv
          exact ⟨v, he, hC.go (i := 3) (hLn 4 (by simp)) (by decide) hB, fun _ => hB, fun _ => ⟨A', c', e2, hr.rowAt, hc'⟩⟩
        -- 4: slot 45 := call { value (Operand.func 110), args := #[t41, t42, t44], argTypes := #[53, 100, 37] }
        · intro w L f hC hLi hLd hLn hF
          obtain ⟨d41, d42, d44, _⟩ := hF
          have d41 : f 41 = .pointer (some ⟨l.g, 0, none⟩) := d41
          have d42 : f 42 = .agg #[.int .u64 h.serial, .int .i64 h.area, .int .i64 h.used, .int .i64 h.count] := d42
          refine Step2.live rfl ?_
          have hw := hC.bel hLi
          obtain ⟨A', c', hA, hr, hc'⟩ := d44 hLi
          have ev : ∀ t, evalOf f (.tmp t) = f t := fun _ => rfl
          have ec : ∀ c, evalOf f (.const c) = c := fun _ => rfl
          have ef : ∀ g, evalOf f (.func g) = .func (.func g) #[] #[] := fun _ => rfl
          refine relUpon_call (f := 110) (args := #[.pointer (some ⟨l.g, 0, none⟩), .agg #[.int .u64 h.serial, .int .i64 h.area, .int .i64 h.used, .int .i64 h.count], .slice A' (framesF ls).length c']) (w := w) (by go_simp) (fill_any w l q2 (hL3.out.below hw) (hD3.out.below hw) hk3.out.dead (by rw [hqn.out]; exact hn1) h ha A' (framesF ls).length c' (framesF ls) hr rfl hc' (by rw [hqn.out, hqs.out]; omega)) ?_
          rintro e w1 ⟨he, q3, hst, hab⟩
          exact ⟨_, he, CS.last (hLd 3 (by decide)) ⟨q3, DStep.ahead hD3.out hw hst, hab, hst.other (hH3.out.below hw hH3.out.lt) hqF3.out⟩, fun h => absurd rfl h, rfl⟩
        -- 5: slot 11 := assign t45
        · intro w L f hC hLi hLd hLn hF
          obtain ⟨d45, _⟩ := hF
          have d45 : f 45 = .int .i64 ((fillR q2.abs h (framesF ls)).2 : Nat) := d45
          refine Step2.live rfl ?_
          exact relUpon_value (v := f 45) rfl (CS.past hC (hLd 4 (by decide))) (fun _ => Below.refl _ _) d45
      intro x w' hC hV

      obtain ⟨q3, hst4, hab4, hH4, _⟩ := (hC.2 rfl).2
      have e11 := hV 5 _ rfl rfl
      have e11 : x 5 = .int .i64 ((fillR q2.abs h (framesF ls)).2 : Nat) := e11
      clear hV hC
      simp only [framed]
      rw [e11]
      clear e11
      obtain ⟨R2, hR2⟩ : ∃ R, R = fillR q2.abs h (framesF ls) := ⟨_, rfl⟩
      rw [← hR2] at hab4 hP3 hkf ⊢
      clear hR2
      obtain ⟨w4, hw4⟩ : ∃ x, x = w' := ⟨_, rfl⟩
      rw [← hw4] at hst4 hH4 ⊢
      clear hw4
      have hL4 : Hid (LogP l q3 w4) := Lib.hid (hL3.out.dstep hD3.out hst4)
      have hD4 : Hid (DiskP q3 w4) := Lib.hid hst4.post
      have hst' : Hid (DStep q w q3 w4) := Lib.hid (hst.out.trans hst4)
      have hab := Lib.hid hab4
      have hHg := Lib.hid hH4
      have hqF4 : Hid (¬ q3.F g) := Lib.hid (hst4.other hH3.out hqF3.out).2
      clear hst4 hab4 hH4 hH3 hqF3 hL3 hD3 hst hsl3 hfit2 hFl
      obtain ⟨err, herr⟩ : ∃ e, e = R2.2 := ⟨_, rfl⟩
      rw [← herr] at hP3 hkf ⊢
      clear herr
      by_cases hz : err = 0
      case neg =>
        have hfin : Hid (LeftL l q w (putA q.abs l h ls) (.returned (.int .i64 err)) w4) := Lib.hid (by
          have h1 := hP3.out
          rw [if_pos hz] at h1
          rw [h1]
          exact ⟨rfl, q3, .of_dstep hLg.out hD.out hst'.out, hab.out⟩)
        have hz1 : ((err : Int) == 0) = false := by simp; omega
        have hz2 : ((err : Int) != 0) = true := by simp; omega
        go_wp2_with fail
        go_ret
        exact hfin.out
      subst hz
      have hk4 : Hid (AD.Kept q.abs q3.abs) := Lib.hid (hk3.out.trans (by rw [hab.out]; exact hkf.out rfl))
      have hP4 : Hid (putA q.abs l h ls = if q3.abs.flush.2 ≠ 0 then (q3.abs.flush.1, l, q3.abs.flush.2)
          else pubA q3.abs.flush.1 l ⟨h.serial, h.area, h.used + T, h.count⟩) := Lib.hid (by rw [hP3.out, hab.out]; rfl)
      have hkl : Hid (q3.abs.flush.2 = 0 → AD.Kept q3.abs q3.abs.flush.1) := Lib.hid AD.flush_k
      have hfl := flush_abs w4 q3 hD4.out
      have c0 := hL4.out.c0
      clear hP3 hkf hab hk3
      go_wp2_with fail
      refine hfl.mono ?_
      clear hfl
      rintro e w5 ⟨rfl, q5, hst5, hab5⟩
      obtain ⟨R3, hR3⟩ : ∃ R, R = q3.abs.flush := ⟨_, rfl⟩
      rw [← hR3] at hab5 hP4 hkl ⊢
      clear hR3
      have hL5 : Hid (LogP l q5 w5) := Lib.hid (hL4.out.dstep hD4.out hst5)
      have hD5 : Hid (DiskP q5 w5) := Lib.hid hst5.post
      have hstt : Hid (DStep q w q5 w5) := Lib.hid (hst'.out.trans hst5)
      have hab := Lib.hid hab5
      have hH5 : Hid (Holds w5 g 100 #[.int .u64 h.serial, .int .i64 h.area, .int .i64 h.used, .int .i64 h.count]) := Lib.hid (hst5.other hHg.out hqF4.out).1
      have hqF5 : Hid (¬ q5.F g) := Lib.hid (hst5.other hHg.out hqF4.out).2
      clear hst5 hab5 hHg hqF4 hL4 hD4 hst' c0
      obtain ⟨err, herr⟩ : ∃ e, e = R3.2 := ⟨_, rfl⟩
      rw [← herr] at hP4 hkl ⊢
      clear herr
      by_cases hz : err = 0
      case neg =>
        have hfin : Hid (LeftL l q w (putA q.abs l h ls) (.returned (.int .i64 err)) w5) := Lib.hid (by
          have h1 := hP4.out
          rw [if_pos hz] at h1
          rw [h1]
          exact ⟨rfl, q5, .of_dstep hLg.out hD.out hstt.out, hab.out⟩)
        have hz1 : ((err : Int) == 0) = false := by simp; omega
        have hz2 : ((err : Int) != 0) = true := by simp; omega
        go_wp2_with fail
        go_ret
        exact hfin.out
      subst hz
      have hk5 : Hid (AD.Kept q.abs q5.abs) := Lib.hid (hk4.out.trans (by rw [hab.out]; exact hkl.out rfl))
      have hP5 : Hid (putA q.abs l h ls = pubA q5.abs l ⟨h.serial, h.area, h.used + T, h.count⟩) := Lib.hid (by rw [hP4.out, hab.out]; rfl)
      obtain ⟨U, hU⟩ : ∃ U, U = h.used + T := ⟨_, rfl⟩
      have hwU : IntKind.i64.wrap ((h.used : Int) + (T : Int)) = (U : Int) := by rw [IntWalk.i64_in _ (by omega), hU]; omega
      have hUs : (h.used : Int) + (T : Int) = (U : Int) := by rw [hU]; omega
      have hUl : U ≤ 1000000000 := by omega
      rw [← hU] at hP5
      have hW : Hid (Writes [some g] w5 (w5.setCell ⟨g, 2, none⟩ (.int .i64 (U : Nat)))) := Lib.hid (Writes.store w5 (p := ⟨g, 2, none⟩) (by simp) _)
      have hD6 : Hid (DiskP q5 (w5.setCell ⟨g, 2, none⟩ (.int .i64 (U : Nat)))) := Lib.hid (hD5.out.loc fun x hx => hW.out.block x (hD5.out.lt x hx) (by simp; rintro rfl; exact hqF5.out hx))
      have hL6 : Hid (LogP l q5 (w5.setCell ⟨g, 2, none⟩ (.int .i64 (U : Nat)))) := Lib.hid (hW.out.holds (show Holds w5 l.g 104 (l.cells q5.g) from hL5.out) (by simp; have := hLg.out.lt; have := hg'.out; omega))
      have hst6 : Hid (DStep q w q5 (w5.setCell ⟨g, 2, none⟩ (.int .i64 (U : Nat)))) := Lib.hid ⟨hstt.out.wrt.then_ hW.out (fun k hk e => by simp at e; have := hg'.out; omega), hD6.out, hstt.out.g, hstt.out.md, hstt.out.mw, hstt.out.foot⟩
      have hpb := publish_any _ l q5 hL6.out hD6.out hk5.out.dead (by have := hk5.out.n; show 16 ≤ q5.n; rw [show q5.n = q.n from this]; exact hn1) (by have := hk5.out.size; show 128 ≤ q5.size; rw [show q5.size = q.size from this]; exact hs3) ⟨h.serial, h.area, U, h.count⟩ ha hUl hc hsr
      unfold Hdr.val at hpb
      clear hU
      have c00 := hH5.out.cell 0
      have c01 := hH5.out.cell 1
      have c02 := hH5.out.cell 2
      have c03 := hH5.out.cell 3
      have z2 := hH5.out.frozen 2
      clear hP4 hkl hk4 hab hL6 hD6 hW hL5 hD5 hstt hqF5
      go_wp2_with fail
      refine hpb.mono ?_
      clear hpb
      rintro e w7 ⟨rfl, q7, hst7, hab7⟩
      have hfin : Hid (LeftL l q w (putA q.abs l h ls) (.returned (.int .i64 (pubA q5.abs l ⟨h.serial, h.area, U, h.count⟩).2.2)) w7) := Lib.hid (by
        rw [hP5.out]
        exact ⟨rfl, q7, (LStep.of_dstep hLg.out hD.out hst6.out).trans hst7, hab7⟩)
      generalize (pubA q5.abs l ⟨h.serial, h.area, U, h.count⟩).2.2 = err at hfin ⊢
      clear hst7 hab7
      go_wp2_with fail
      go_ret
      exact hfin.out
end Go.Proofs.YtelglbblgkhcmaaGreat
namespace Go.Proofs.YtelglbblgkhcmaaGreat
open Go.RowKit Go.Deep

def commitA (d : AD) (l : LR) (ls : List (List UInt8)) : AD × LR × Nat := putA d l ⟨l.serial, l.area, l.used, l.count + ls.length⟩ ls
def resetA (d : AD) (l : LR) (ls : List (List UInt8)) : AD × LR × Nat := putA d l ⟨0, 1 - l.area, 0, ls.length⟩ ls
set_option maxRecDepth 100000 in
set_option maxHeartbeats 1000000 in
theorem commit_any (w : World) (l : LR) (q : DR) (hl : LogP l q w) (hq : DiskP q w) (hd : q.dead = false) (hn1 : 16 ≤ q.n) (hs3 : 128 ≤ q.size) (ha : l.area ≤ 1) (hu : l.used ≤ half q.n * q.size) (hc : l.count ≤ 100000000) (hsr : l.serial ≤ 4611686018427387904)
    (A : Option Addr) (n c : Nat) (ls : List (List UInt8)) (hln : ls.length = n) (hnn : n ≤ 100000) (hs : Slices w w.heap.size A ls) :
    Calls Tryz.prog 56 #[.pointer (some ⟨l.g, 0, none⟩), .slice A n c] w (LeftL l q w (commitA q.abs l ls)) := by
  have hLg : Hid (LogP l q w) := Lib.hid hl
  have hD := Lib.hid hq
  have hlt := hl.lt
  have c1 := hl.c1
  have c2 := hl.c2
  have c3 := hl.c3
  have c4 := hl.c4
  obtain ⟨C, hC⟩ : ∃ C, C = l.count + n := ⟨_, rfl⟩
  have hCw : IntKind.i64.wrap ((l.count : Int) + (n : Int)) = (C : Int) := by rw [IntWalk.i64_in _ (by omega), hC]; omega
  have hCl : C ≤ 1000000000 := by omega
  have hB : Hid (Below w.heap.size w (w.alloc (.cells #[.int .u64 l.serial, .int .i64 l.area, .int .i64 l.used, .int .i64 (C : Nat)] 100))) := Lib.hid (below_new w _)
  have hpt := put_any_ _ l q (hl.below hB.out) (hq.below hB.out) hd hn1 hs3 ⟨l.serial, l.area, l.used, C⟩ ha hu hCl hsr A n c ls hln hnn (hs.up hB.out)
  unfold Hdr.val at hpt
  have hCC := Lib.hid (hC.trans (by rw [← hln] : l.count + n = l.count + ls.length))
  clear hC hl hq hd hs
  go_enter Tryz.func56, Tryz.ntmps56
  go_wp2_with fail
  refine hpt.mono ?_
  clear hpt
  rintro e w2 ⟨rfl, q2, hst, hab⟩
  have hfin : Hid (LeftL l q w (commitA q.abs l ls) (.returned (.int .i64 (putA q.abs l ⟨l.serial, l.area, l.used, C⟩ ls).2.2)) w2) := Lib.hid (by
    have h1 : commitA q.abs l ls = putA q.abs l ⟨l.serial, l.area, l.used, C⟩ ls := by unfold commitA; rw [hCC.out]
    rw [h1]
    exact ⟨rfl, q2, LStep.ahead hLg.out hD.out hB.out hst, hab⟩)
  generalize (putA q.abs l ⟨l.serial, l.area, l.used, C⟩ ls).2.2 = err at hfin ⊢
  clear hst hab
  go_wp2_with fail
  go_ret
  exact hfin.out
set_option maxRecDepth 100000 in
set_option maxHeartbeats 1000000 in
theorem reset_any (w : World) (l : LR) (q : DR) (hl : LogP l q w) (hq : DiskP q w) (hd : q.dead = false) (hn1 : 16 ≤ q.n) (hs3 : 128 ≤ q.size) (ha : l.area ≤ 1) (hsr : l.serial ≤ 4611686018427387904)
    (A : Option Addr) (n c : Nat) (ls : List (List UInt8)) (hln : ls.length = n) (hnn : n ≤ 100000) (hs : Slices w w.heap.size A ls) :
    Calls Tryz.prog 58 #[.pointer (some ⟨l.g, 0, none⟩), .slice A n c] w (LeftL l q w (resetA q.abs l ls)) := by
  have hLg : Hid (LogP l q w) := Lib.hid hl
  have hD := Lib.hid hq
  have c2 := hl.c2
  obtain ⟨a, hA⟩ : ∃ a, a = 1 - l.area := ⟨_, rfl⟩
  have hAw : IntKind.i64.wrap (1 - (l.area : Int)) = (a : Int) := by rw [IntWalk.i64_in _ (by omega), hA]; omega
  have hpt := put_any_ w l q hl hq hd hn1 hs3 ⟨0, a, 0, n⟩ (by show a ≤ 1; omega) (by show 0 ≤ _; omega) (by show n ≤ _; omega) hsr A n c ls hln hnn hs
  unfold Hdr.val at hpt
  have hAA := Lib.hid hA
  have hnl := Lib.hid hln
  clear hA hl hq hd hs hln
  go_enter Tryz.func58, Tryz.ntmps58
  go_wp2_with fail
  refine hpt.mono ?_
  clear hpt
  rintro e w2 ⟨rfl, q2, hst, hab⟩
  have hfin : Hid (LeftL l q w (resetA q.abs l ls) (.returned (.int .i64 (putA q.abs l ⟨0, a, 0, n⟩ ls).2.2)) w2) := Lib.hid (by
    have h1 : resetA q.abs l ls = putA q.abs l ⟨0, a, 0, n⟩ ls := by unfold resetA; rw [hAA.out, hnl.out]
    rw [h1]
    exact ⟨rfl, q2, hst, hab⟩)
  generalize (putA q.abs l ⟨0, a, 0, n⟩ ls).2.2 = err at hfin ⊢
  clear hst hab
  go_wp2_with fail
  go_ret
  exact hfin.out
end Go.Proofs.YtelglbblgkhcmaaGreat
