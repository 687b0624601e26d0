/-
  The helpers of the statements about logs, walked.
-/
import Derived.Test.YtncddkbagmelkaaWf
import Derived.Lib.SlBytesConst
namespace Go.Proofs.Ytncddkbagmelkaa
open Go.RowKit Go.Deep

def byteOf (x : Nat) : UInt8 := UInt8.ofNat (x % 256)
def recF (i k m : Nat) : List UInt8 := (List.range m).map fun j => byteOf (31 * i + 7 * k + j)
def batchF (i : Nat) (lens : List UInt8) : List (List UInt8) := (List.range lens.length).map fun k => recF i k (lens.getD k 0).toNat
theorem recF_length (i k m : Nat) : (recF i k m).length = m := by simp [recF]
theorem recF_succ (i k m : Nat) : recF i k (m + 1) = recF i k m ++ [byteOf (31 * i + 7 * k + m)] := by simp [recF, List.range_succ]
theorem batchF_length (i : Nat) (lens : List UInt8) : (batchF i lens).length = lens.length := by simp [batchF]
theorem batchF_take (i : Nat) (lens : List UInt8) {k : Nat} (h : k < lens.length) : (batchF i lens).take (k + 1) = (batchF i lens).take k ++ [recF i k lens[k].toNat] := by
  rw [List.take_succ_eq_append_getElem (by rw [batchF_length]; exact h)]
  congr 2
  simp [batchF, List.getD_eq_getElem?_getD, List.getElem?_eq_getElem h]
theorem batchF_short (i : Nat) (lens : List UInt8) : shortOnes (batchF i lens) := fun r hr => by
  simp only [batchF, List.mem_map] at hr
  obtain ⟨k, _, rfl⟩ := hr
  rw [recF_length]
  have := (lens.getD k 0).toNat_lt
  omega
def BatchE (i : Nat) (lens : List UInt8) (w : World) (e : Ending) (w' : World) : Prop := ∃ v ps, e = .returned v ∧ RecsAt w.heap.size w' v ps ∧ ps.map (·.l) = batchF i lens ∧ Below w.heap.size w w'
set_option maxRecDepth 100000 in
set_option maxHeartbeats 4000000 in
theorem batch_any (w : World) (i : Nat) (hi : i ≤ 1000) (A : Option Addr) (m c : Nat) (lens : List UInt8) (hl : lens.length = m) (hm : m ≤ 1000) (hb : Bytes w w.heap.size A lens) :
    Calls Try.prog 15 #[.int .i64 i, .slice A m c] w (BatchE i lens w) := by
  obtain ⟨iS, hiS, hzS0, hzS1, hzS2⟩ := info_parts Try.rSl
  have hb' := Lib.hid hb
  have hl' := Lib.hid hl
  clear hb hl
  go_enter Try.func15, Try.ntmps15
  go_wp2_with fail
  go_loopw [5, 6] (fun v kv wr => ∃ (k : Nat) (ps : List Pay), k ≤ m ∧ kv = .int .i64 k ∧ Hid (RecsAt w.heap.size wr v ps) ∧ Hid (ps.map (·.l) = (batchF i lens).take k) ∧ Hid (Below w.heap.size w wr)) (fun _ kv _ => m - (intOf kv).toNat)
  case atStart => exact ⟨0, [], by omega, rfl, Lib.hid (.nil_ _ _), Lib.hid (by simp), Lib.hid (Below.refl _ _)⟩
  obtain ⟨k, ps, hk, rfl, hR, hps, hB⟩ := hrel
  rename World => wo
  have hpk : Hid (ps.length = k) := Lib.hid (by
    have := congrArg List.length hps.out
    simp only [List.length_map, List.length_take, batchF_length, hl'.out] at this
    omega)
  by_cases hkm : k < m
  · have hkl : k < lens.length := by rw [hl'.out]; exact hkm
    obtain ⟨b, off, rfl, _, hcell⟩ := (hb'.out.below hB.out).at_ hkl
    obtain ⟨n, hn⟩ : ∃ n, n = lens[k].toNat := ⟨_, rfl⟩
    have hnx : n ≤ 255 := by rw [hn]; have := lens[k].toNat_lt; omega
    rw [← hn] at hcell
    have hbt : Hid ((batchF i lens).take (k + 1) = (batchF i lens).take k ++ [recF i k n]) := Lib.hid (by rw [hn]; exact batchF_take i lens hkl)
    clear hn
    have hmk := run_make_row' (P := Try.prog) 23 5 (.int .u8 0) 1 Try.underlying23 Try.infoU8 rfl .i64 .i64 n (by omega) (by omega)
    rw [made_bytes] at hmk
    obtain ⟨zs, hzs⟩ : ∃ zs, zs = (List.replicate n (0 : UInt8)).map byteV := ⟨_, rfl⟩
    rw [← hzs] at hmk
    have hkw : IntKind.i64.wrap ((k : Int) + 1) = ((k + 1 : Nat) : Int) := by rw [IntWalk.i64_in _ (by omega)]; omega
    have hb0 := below_new wo (.cells zs.toArray 5)
    have hz0 := Buf.made wo (zerosB n) (by simp [zerosB]; omega)
    have e0 : ((zerosB n).map byteV).toArray = zs.toArray := by rw [hzs]; rfl
    have e1 : (zerosB n).length = n := by simp [zerosB]
    rw [e0, e1] at hz0
    have hB0 := Lib.hid hb0
    have hZ0 := Lib.hid hz0
    clear hb0 hz0 hzs e0 e1
    have hki : (k : Int) < (m : Int) := by omega
    go_wp2_with fail
    obtain ⟨g, hg⟩ : ∃ g, g = wo.heap.size := ⟨_, rfl⟩
    rw [← hg]
    obtain ⟨w1, hw1⟩ : ∃ x, x = wo.alloc (.cells zs.toArray 5) := ⟨_, rfl⟩
    have hZ1 : Hid (Buf w1 wo.heap.size g n (zerosB n)) := Lib.hid (by rw [hw1, hg]; exact hZ0.out)
    have hB1 : Hid (Below wo.heap.size wo w1) := Lib.hid (by rw [hw1]; exact hB0.out)
    rw [← hw1]
    have hg' := Lib.hid hg
    clear hw1 hg hZ0 hB0 hmk
    go_loopw [8] (fun jv wr => ∃ j : Nat, j ≤ n ∧ jv = .int .i64 j ∧ Hid (Buf wr wo.heap.size g n (recF i k j ++ zerosB (n - j))) ∧ Hid (Below wo.heap.size wo wr)) (fun jv _ => n - (intOf jv).toNat)
    case atStart => exact ⟨0, by omega, rfl, Lib.hid (by simpa [recF] using hZ1.out), hB1⟩
    obtain ⟨j, hj, rfl, hBf, hBx⟩ := hrel
    by_cases hjn : j < n
    · have hji : (j : Int) < (n : Int) := by omega
      have hll : Hid ((recF i k j ++ zerosB (n - j)).length = n) := Lib.hid (by rw [List.length_append, recF_length]; simp [zerosB]; omega)
      have hc := hBf.out.cell (i := j) (by rw [hll.out]; exact hjn)
      have hz := hBf.out.frozen j
      have hw31 : IntKind.i64.wrap (31 * (i : Int)) = 31 * (i : Int) := IntWalk.i64_in _ (by omega)
      have hw7 : IntKind.i64.wrap (7 * (k : Int)) = 7 * (k : Int) := IntWalk.i64_in _ (by omega)
      have hws : IntKind.i64.wrap (31 * (i : Int) + 7 * (k : Int)) = 31 * (i : Int) + 7 * (k : Int) := IntWalk.i64_in _ (by omega)
      have hws2 : IntKind.i64.wrap (31 * (i : Int) + 7 * (k : Int) + (j : Int)) = 31 * (i : Int) + 7 * (k : Int) + (j : Int) := IntWalk.i64_in _ (by omega)
      have hjw : IntKind.i64.wrap ((j : Int) + 1) = ((j + 1 : Nat) : Int) := by rw [IntWalk.i64_in _ (by omega)]; omega
      have hst := hBf.out.store j (byteOf (31 * i + 7 * k + j))
      have hset : (recF i k j ++ zerosB (n - j)).set j (byteOf (31 * i + 7 * k + j)) = recF i k (j + 1) ++ zerosB (n - (j + 1)) := by
        have e1 : n - j = (n - (j + 1)) + 1 := by omega
        rw [recF_succ, List.append_assoc, List.set_append_right _ _ (by rw [recF_length]; omega), recF_length, Nat.sub_self, e1]
        congr 1
      rw [hset] at hst
      have hby : byteV (byteOf (31 * i + 7 * k + j)) = .int .u8 ((31 * (i : Int) + 7 * (k : Int) + (j : Int)) % 256) := by
        unfold byteV byteOf
        rw [UInt8.toNat_ofNat_of_lt' (show (31 * i + 7 * k + j) % 256 < 256 by omega)]
        simp
      rw [hby] at hst
      have hst' := Lib.hid hst
      have hBs := Lib.hid (hBx.out.trans ((Writes.store wr (M := [some g]) (p := ⟨g, j, none⟩) (by simp) (.int .u8 ((31 * (i : Int) + 7 * (k : Int) + (j : Int)) % 256))).below hBx.out.size (fun q hq => by simp at hq; have := hg'.out; omega)))
      clear hst hset hby
      go_wp2_with fail
      refine ⟨⟨j + 1, by omega, by simp, hst', hBs⟩, by simp [intOf]; omega⟩
    · obtain rfl : n = j := by omega
      have hji : ¬ (n : Int) < (n : Int) := by omega
      obtain ⟨Av, cv, rfl, _⟩ := own_row hR.out.1
      have hrl : (recF i k n).length = n := recF_length i k n
      have hp0 : wr.ownsRow w.heap.size 5 1 (.slice (some ⟨g, 0, none⟩) n n) n ((recF i k n).map byteV) := by
        have h1 := hBf.out
        rw [Nat.sub_self, show zerosB 0 = [] from rfl, List.append_nil] at h1
        have h2 := own_base (base' := w.heap.size) h1 hB.out.size
        rw [hrl] at h2
        exact h2
      have hb3 := below_new wr (.cells #[.slice (some ⟨g, 0, none⟩) n n] 23)
      have hR3 : Hid (RecsAt w.heap.size (wr.alloc (.cells #[.slice (some ⟨g, 0, none⟩) n n] 23)) (.slice Av ps.length cv) ps) := Lib.hid ((hR.out.below hBx.out).below hb3)
      have hp3 : Hid ((wr.alloc (.cells #[.slice (some ⟨g, 0, none⟩) n n] 23)).ownsRow w.heap.size 5 1 (.slice (some ⟨g, 0, none⟩) n n) n ((recF i k n).map byteV)) := Lib.hid (own_below hp0 hb3)
      have hrow3 : Hid (Row (wr.alloc (.cells #[.slice (some ⟨g, 0, none⟩) n n] 23)) (wr.alloc (.cells #[.slice (some ⟨g, 0, none⟩) n n] 23)).heap.size (some ⟨wr.heap.size, 0, none⟩) [.slice (some ⟨g, 0, none⟩) n n]) := Lib.hid (Row.one wr 23 _)
      have hone : Hid (∀ u ∈ [Value.slice (some (⟨g, 0, none⟩ : Addr)) n n], u.oneCell' = true) := Lib.hid (fun u hu => by rw [List.mem_singleton.1 hu]; rfl)
      have hBa : Hid (Below w.heap.size w (wr.alloc (.cells #[.slice (some ⟨g, 0, none⟩) n n] 23))) := Lib.hid (by
        have h1 := hB.out.trans (hBx.out.mono hB.out.size)
        exact h1.trans (hb3.mono h1.size))
      have hpl : ps.length ≤ 1000 := by have := hpk.out; omega
      clear hb3 hp0 hBf
      go_wp2_with
        (with_reducible refine at_slot 41 ?_
         go_loud (refine wpList_append_row _ rfl (.tmp 38) (.tmp 40) 28 rfl w.heap.size 23 iS (.slice none 0 0) 24 Try.underlying28 hiS hzS0 hzS1 hzS2 rfl (.slice Av ps.length cv) ps.length (ps.map Pay.val) rfl hR3.out.1 _ (some ⟨wr.heap.size, 0, none⟩) 1 1 [.slice (some ⟨g, 0, none⟩) n n] rfl rfl hrow3.out hone.out (by unfold maxLen; omega) (by omega) hBa.out.size ?_)
         intro v4 w4 ho4 hg4 _
         have hR4 : Hid (RecsAt w.heap.size w4 v4 (ps ++ [⟨some ⟨g, 0, none⟩, n, recF i k n⟩])) := Lib.hid (hR3.out.snoc (p := ⟨some ⟨g, 0, none⟩, n, recF i k n⟩) (by unfold Pay.val; simp only [hrl]; exact hp3.out) (by unfold Pay.val; simp only [hrl]; exact ho4) hg4)
         have hB4 : Hid (Below w.heap.size w w4) := Lib.hid (hBa.out.trans ((Writes.of_grown hg4 (M := [(Value.slice Av ps.length cv).ownBlock]) (by simp)).below hBa.out.size (fun j hj => own_ge hR3.out.1 (List.mem_singleton.1 hj).symm)))
         clear ho4 hg4)
      refine ⟨⟨k + 1, _, by omega, by simp, hR4, Lib.hid (by rw [List.map_append, hps.out, hbt.out]; rfl), hB4⟩, by simp [intOf]; omega⟩
  · obtain rfl : m = k := by omega
    have hfin : Hid (ps.map (·.l) = batchF i lens) := Lib.hid (by rw [hps.out]; exact List.take_of_length_le (by rw [batchF_length, hl'.out]; exact Nat.le_refl _))
    have hki : ¬ (m : Int) < (m : Int) := by omega
    go_wp2_with fail
    go_ret
    exact ⟨_, ps, rfl, hR.out, hfin.out, hB.out⟩
end Go.Proofs.Ytncddkbagmelkaa
namespace Go.Proofs.Ytncddkbagmelkaa
open Go.RowKit Go.Deep

set_option maxRecDepth 100000 in
set_option maxHeartbeats 4000000 in
theorem same_any (w : World) (A B : Option Addr) (n m ca cb : Nat) (la lb : List (List UInt8)) (hla : la.length = n) (hlb : lb.length = m) (hn : n ≤ 1000000) (hm : m ≤ 1000000) (ha : Slices w w.heap.size A la) (hb : Slices w w.heap.size B lb) :
    Calls Try.prog 20 #[.slice A n ca, .slice B m cb] w fun e w' => e = .returned (.bool (decide (la = lb))) ∧ Below w.heap.size w w' := by
  by_cases hnm : n = m
  case neg =>
    have hne : decide (la = lb) = false := decide_eq_false (fun e => hnm (by rw [← hla, ← hlb, e]))
    rw [hne]
    have hni : ¬ (n : Int) = (m : Int) := by omega
    clear hla hlb ha hb hne
    go_enter Try.func20, Try.ntmps20
    go_wp2_with fail
    go_ret
    exact ⟨rfl, Below.refl _ _⟩
  subst hnm
  have ha' := Lib.hid ha
  have hb' := Lib.hid hb
  have hla' := Lib.hid hla
  have hlb' := Lib.hid hlb
  clear ha hb hla hlb
  go_enter Try.func20, Try.ntmps20
  go_wp2_with fail
  go_loopw [5] (fun kv wr => ∃ k : Nat, k ≤ n ∧ kv = .int .i64 k ∧ Hid (la.take k = lb.take k) ∧ Hid (Below w.heap.size w wr)) (fun kv _ => n - (intOf kv).toNat)
  case atStart => exact ⟨0, by omega, rfl, Lib.hid (by simp), Lib.hid (Below.refl _ _)⟩
  obtain ⟨k, hk, rfl, hpre, hB⟩ := hrel
  by_cases hkn : k < n
  · have hka : k < la.length := by rw [hla'.out]; exact hkn
    have hkb : k < lb.length := by rw [hlb'.out]; exact hkn
    obtain ⟨ba, oa, Aa, cca, rfl, hba1, hcella, hbya, _⟩ := (ha'.out.up hB.out).at_ hka
    obtain ⟨bb, ob, Ab, ccb, rfl, hbb1, hcellb, hbyb, _⟩ := (hb'.out.up hB.out).at_ hkb
    have htk : Hid (la.take (k + 1) = la.take k ++ [la[k]] ∧ lb.take (k + 1) = lb.take k ++ [lb[k]]) := Lib.hid ⟨List.take_succ_eq_append_getElem hka, List.take_succ_eq_append_getElem hkb⟩
    have hdiff : Hid (la[k] ≠ lb[k] → la ≠ lb) := Lib.hid (fun h e => by subst e; exact h rfl)
    obtain ⟨ra, hra⟩ : ∃ r, r = la[k] := ⟨_, rfl⟩
    obtain ⟨rb, hrb⟩ : ∃ r, r = lb[k] := ⟨_, rfl⟩
    rw [← hra] at hcella hbya htk hdiff
    rw [← hrb] at hcellb hbyb htk hdiff
    have hca := Lib.hid hcella
    have hcb := Lib.hid hcellb
    have hba := Lib.hid hbya
    have hbb := Lib.hid hbyb
    have hla : Hid (ba < wr.heap.size) := Lib.hid hba1
    have hlb : Hid (bb < wr.heap.size) := Lib.hid hbb1
    have hcmp : Hid (((strV ra).toList == (strV rb).toList) = decide (ra = rb)) := Lib.hid (by
      rw [show (strV ra).toList = ra from ByteArray.toList_mk ra, show (strV rb).toList = rb from ByteArray.toList_mk rb]
      by_cases e : ra = rb
      · subst e; simp
      · rw [decide_eq_false e]; simpa using e)
    have hkw : IntKind.i64.wrap ((k : Int) + 1) = ((k + 1 : Nat) : Int) := by rw [IntWalk.i64_in _ (by omega)]; omega
    have hki : (k : Int) < (n : Int) := by omega
    clear hra hrb hcella hcellb hbya hbyb
    go_wp2_with fail
    -- THE REGION THAT DRAWS ITS ORDER, BY ONE LEXICAL WALK OVER GENERIC VALUES (written by relgen.py)
    refine wp_region_tab ((fun _ v => v = .slice (some ⟨ba, oa, none⟩) n ca) ::
      (fun _ v => v = .int .i64 k) ::
      (fun _ v => v = .pointer (some ⟨ba, oa + k, none⟩)) ::
      (fun _ v => v = .slice Aa ra.length cca) ::
      (fun _ v => v = .string (strV ra)) ::
      (fun _ v => v = .slice (some ⟨bb, ob, none⟩) n cb) ::
      (fun _ v => v = .int .i64 k) ::
      (fun _ v => v = .pointer (some ⟨bb, ob + k, none⟩)) ::
      (fun _ v => v = .slice Ab rb.length ccb) ::
      (fun _ v => v = .string (strV rb)) ::
      (fun _ v => v = .bool (decide (ra ≠ rb))) :: [])
      (⟨[(0, none)], 0, []⟩ :: ⟨[(5, none)], 0, []⟩ :: ⟨[(17, some 0), (18, some 1)], 0, []⟩ :: ⟨[(19, some 2)], 0, []⟩ :: ⟨[(20, some 3)], 0, []⟩ :: ⟨[(1, none)], 0, []⟩ :: ⟨[(5, none)], 0, []⟩ :: ⟨[(22, some 5), (23, some 6)], 0, []⟩ :: ⟨[(24, some 7)], 0, []⟩ :: ⟨[(25, some 8)], 0, []⟩ :: ⟨[(21, some 4), (26, some 9)], 0, []⟩ :: [])
      (none :: none :: none :: none :: none :: none :: none :: none :: none :: none :: none :: none :: none :: none :: none :: none :: none :: some 0 :: some 1 :: some 2 :: some 3 :: some 4 :: some 5 :: some 6 :: some 7 :: some 8 :: some 9 :: some 10 :: [])
      (fun _ w' => Below wr.heap.size wr w') (fun _ w w' => Below w.heap.size w w') ?mixK6same6 ?okK6same6 ?tabK6same6 ?frK6same6 ?inK6same6 ?keptK6same6 ?startK6same6 ?eachK6same6 ?finK6same6
    case mixK6same6 => kernel_rfl
    case okK6same6 => kernel_rfl
    case tabK6same6 => kernel_rfl
    case frK6same6 => kernel_rfl
    case inK6same6 => rfl
    case keptK6same6 => exact ⟨fun _ _ _ _ _ _ _ h => h, fun _ _ _ _ _ _ _ h => h, fun _ _ _ _ _ _ _ h => h, fun _ _ _ _ _ _ _ h => h, fun _ _ _ _ _ _ _ h => h, fun _ _ _ _ _ _ _ h => h, fun _ _ _ _ _ _ _ h => h, fun _ _ _ _ _ _ _ h => h, fun _ _ _ _ _ _ _ h => h, fun _ _ _ _ _ _ _ h => h, fun _ _ _ _ _ _ _ h => h, trivial⟩
    case startK6same6 => exact (Below.refl _ _).drew
    case eachK6same6 =>
      refine ⟨?_, ?_, ?_, ?_, ?_, ?_, ?_, ?_, ?_, ?_, ?_, trivial⟩
      -- 0: slot 17 := move t0
      · intro w L f hC hLi hLd hLn hF
        obtain ⟨d0, _⟩ := hF
        have d0 : f 0 = .slice (some ⟨ba, oa, none⟩) n ca := d0
        refine Step2.live rfl ?_
        exact relUpon_value (v := f 0) rfl (hC) (Below.refl _ _) d0
      -- 1: slot 18 := move t5
      · intro w L f hC hLi hLd hLn hF
        obtain ⟨d5, _⟩ := hF
        have d5 : f 5 = .int .i64 k := d5
        refine Step2.live rfl ?_
        exact relUpon_value (v := f 5) rfl (hC) (Below.refl _ _) d5
      -- 2: slot 19 := indexAddr 28 t17 t18
      · intro w L f hC hLi hLd hLn hF
        obtain ⟨d17, d18, _⟩ := hF
        have d17 : f 17 = .slice (some ⟨ba, oa, none⟩) n ca := d17
        have d18 : f 18 = .int .i64 k := d18
        refine Step2.live rfl ?_
        have ev : ∀ t, evalOf f (.tmp t) = f t := fun _ => rfl
        have ec : ∀ c, evalOf f (.const c) = c := fun _ => rfl
        have ef : ∀ g, evalOf f (.func g) = .func (.func g) #[] #[] := fun _ => rfl
        refine relUpon_value ?_ hC (Below.refl _ _) rfl
        go_simp
      -- 3: slot 20 := load 23 t19
      · intro w L f hC hLi hLd hLn hF
        obtain ⟨d19, _⟩ := hF
        have d19 : f 19 = .pointer (some ⟨ba, oa + k, none⟩) := d19
        refine Step2.live rfl ?_
        have f0 := (hC.cell (p := ⟨ba, oa + k, none⟩) hla.out).trans hca.out
        have ev : ∀ t, evalOf f (.tmp t) = f t := fun _ => rfl
        have ec : ∀ c, evalOf f (.const c) = c := fun _ => rfl
        have ef : ∀ g, evalOf f (.func g) = .func (.func g) #[] #[] := fun _ => rfl
        refine relUpon_value ?_ hC (Below.refl _ _) rfl
        go_simp
      -- 4: slot 21 := convert 23 9 t20
      · intro w L f hC hLi hLd hLn hF
        obtain ⟨d20, _⟩ := hF
        have d20 : f 20 = .slice Aa ra.length cca := d20
        refine Step2.live rfl ?_
        have kv := run_text (P := Try.prog) w 23 5 Try.underlying23 Try.underlying5 Aa ra.length cca ra rfl (hba.out.below hC) 9 Try.underlying9
        have ev : ∀ t, evalOf f (.tmp t) = f t := fun _ => rfl
        have ec : ∀ c, evalOf f (.const c) = c := fun _ => rfl
        have ef : ∀ g, evalOf f (.func g) = .func (.func g) #[] #[] := fun _ => rfl
        refine relUpon_value ?_ hC (Below.refl _ _) rfl
        go_simp
      -- 5: slot 22 := move t1
      · intro w L f hC hLi hLd hLn hF
        obtain ⟨d1, _⟩ := hF
        have d1 : f 1 = .slice (some ⟨bb, ob, none⟩) n cb := d1
        refine Step2.live rfl ?_
        exact relUpon_value (v := f 1) rfl (hC) (Below.refl _ _) d1
      -- 6: slot 23 := move t5
      · intro w L f hC hLi hLd hLn hF
        obtain ⟨d5, _⟩ := hF
        have d5 : f 5 = .int .i64 k := d5
        refine Step2.live rfl ?_
        exact relUpon_value (v := f 5) rfl (hC) (Below.refl _ _) d5
      -- 7: slot 24 := indexAddr 28 t22 t23
      · intro w L f hC hLi hLd hLn hF
        obtain ⟨d22, d23, _⟩ := hF
        have d22 : f 22 = .slice (some ⟨bb, ob, none⟩) n cb := d22
        have d23 : f 23 = .int .i64 k := d23
        refine Step2.live rfl ?_
        have ev : ∀ t, evalOf f (.tmp t) = f t := fun _ => rfl
        have ec : ∀ c, evalOf f (.const c) = c := fun _ => rfl
        have ef : ∀ g, evalOf f (.func g) = .func (.func g) #[] #[] := fun _ => rfl
        refine relUpon_value ?_ hC (Below.refl _ _) rfl
        go_simp
      -- 8: slot 25 := load 23 t24
      · intro w L f hC hLi hLd hLn hF
        obtain ⟨d24, _⟩ := hF
        have d24 : f 24 = .pointer (some ⟨bb, ob + k, none⟩) := d24
        refine Step2.live rfl ?_
        have f0 := (hC.cell (p := ⟨bb, ob + k, none⟩) hlb.out).trans hcb.out
        have ev : ∀ t, evalOf f (.tmp t) = f t := fun _ => rfl
        have ec : ∀ c, evalOf f (.const c) = c := fun _ => rfl
        have ef : ∀ g, evalOf f (.func g) = .func (.func g) #[] #[] := fun _ => rfl
        refine relUpon_value ?_ hC (Below.refl _ _) rfl
        go_simp
      -- 9: slot 26 := convert 23 9 t25
      · intro w L f hC hLi hLd hLn hF
        obtain ⟨d25, _⟩ := hF
        have d25 : f 25 = .slice Ab rb.length ccb := d25
        refine Step2.live rfl ?_
        have kv := run_text (P := Try.prog) w 23 5 Try.underlying23 Try.underlying5 Ab rb.length ccb rb rfl (hbb.out.below hC) 9 Try.underlying9
        have ev : ∀ t, evalOf f (.tmp t) = f t := fun _ => rfl
        have ec : ∀ c, evalOf f (.const c) = c := fun _ => rfl
        have ef : ∀ g, evalOf f (.func g) = .func (.func g) #[] #[] := fun _ => rfl
        refine relUpon_value ?_ hC (Below.refl _ _) rfl
        go_simp
      -- 10: slot 27 := binOp BinOp.neq 9 t21 t26 9
      · intro w L f hC hLi hLd hLn hF
        obtain ⟨d21, d26, _⟩ := hF
        have d21 : f 21 = .string (strV ra) := d21
        have d26 : f 26 = .string (strV rb) := d26
        refine Step2.live rfl ?_
        have ev : ∀ t, evalOf f (.tmp t) = f t := fun _ => rfl
        have ec : ∀ c, evalOf f (.const c) = c := fun _ => rfl
        have ef : ∀ g, evalOf f (.func g) = .func (.func g) #[] #[] := fun _ => rfl
        refine relUpon_value ?_ hC (Below.refl _ _) rfl
        go_simp
        exact hcmp.out
    intro x w' hC hV

    have e27 := hV 10 _ rfl rfl
    clear hV
    simp only [framed]
    rw [e27]
    clear e27
    have hB2 := Lib.hid (hB.out.trans (hC.mono hB.out.size))
    clear hC hca hcb hba hbb hla hlb hcmp
    by_cases e : ra = rb
    · have hd : decide (ra ≠ rb) = false := by simp [e]
      have hnx : Hid (la.take (k + 1) = lb.take (k + 1)) := Lib.hid (by rw [htk.out.1, htk.out.2, hpre.out, e])
      clear e htk hdiff
      rw [hd]
      go_wp2_with fail
      refine ⟨⟨k + 1, by omega, by simp, hnx, hB2⟩, by simp [intOf]; omega⟩
    · have hd : decide (ra ≠ rb) = true := by simp [e]
      have hfin : Hid (decide (la = lb) = false) := Lib.hid (decide_eq_false (hdiff.out e))
      clear e htk hdiff
      rw [hd]
      go_wp2_with fail
      go_ret
      exact ⟨by rw [hfin.out]; rfl, hB2.out⟩
  · obtain rfl : n = k := by omega
    have hfin : Hid (decide (la = lb) = true) := Lib.hid (decide_eq_true (by
      have := hpre.out
      rwa [List.take_of_length_le (by rw [hla'.out]; exact Nat.le_refl _), List.take_of_length_le (by rw [hlb'.out]; exact Nat.le_refl _)] at this))
    have hki : ¬ (n : Int) < (n : Int) := by omega
    go_wp2_with fail
    go_ret
    exact ⟨by rw [hfin.out]; rfl, hB.out⟩
set_option maxRecDepth 100000 in
set_option maxHeartbeats 4000000 in
/-- Open on a disk of few sectors. -/
theorem open_small (w : World) (q : DR) (hq : DiskP q w) (hn : q.n < 16) : Calls Try.prog 13 #[.pointer (some ⟨q.g, 0, none⟩)] w fun e w' => e = .returned (.tuple #[.pointer none, .slice none 0 0, .int .i64 41]) ∧ w' = w := by
  have hi1 : (q.n : Int) < 16 := by omega
  have hsc := sectors_any w q hq
  clear hq
  go_enter Try.func13, Try.ntmps13
  go_wp2_with fail
  refine hsc.mono ?_
  clear hsc
  rintro e w2 ⟨rfl, e2⟩
  rw [e2]
  clear e2 w2
  go_wp2_with fail
  go_ret3
  exact ⟨rfl, rfl⟩
/-- A disk of zeros, as New makes it. -/
structure NewD (n s : Nat) (q : DR) (w : World) : Prop where
  disk : DiskP q w
  dead : q.dead = false
  cut : q.cut = false
  hn : q.n = n
  hsz : q.size = s
  good : Good q.abs.last n s zeroH 2 []
theorem newd_any (w : World) (n s : Nat) (h1 : 1 ≤ n) (h2 : n ≤ 4096) (h3 : 64 ≤ s) (h4 : s ≤ 4096) :
    Calls Try.prog 12 #[.int .i64 n, .int .i64 s] w fun e w' => ∃ q, e = .returned (.pointer (some ⟨q.g, 0, none⟩)) ∧ NewD n s q w' ∧ w.heap.size ≤ q.g ∧ Below w.heap.size w w' ∧ ∀ x, q.F x → w.heap.size ≤ x := by
  refine (new_any w n s n s (by omega) (by omega)).mono fun e w' ⟨he, hd, hb⟩ => ⟨_, he, ⟨hd, rfl, rfl, rfl, rfl, ?_⟩, Nat.le_refl _, hb, ?_⟩
  · have : (DR.abs ⟨w.heap.size, w.heap.size + 1, w.heap.size + 1 + 1, n, s, fun _ => none, fun _ => none, false, false, 0⟩).last = fun _ => zerosB s := by funext j; rfl
    rw [this]
    exact good_zero n s
  · rintro x (h | h | h | ⟨k, p, hp, _⟩)
    · rw [h]; exact Nat.le_refl _
    · rw [h]; show w.heap.size ≤ w.heap.size + 1; omega
    · rw [h]; show w.heap.size ≤ w.heap.size + 1 + 1; omega
    · rcases hp with hp | hp <;> cases hp
end Go.Proofs.Ytncddkbagmelkaa
namespace Go.Proofs.Ytncddkbagmelkaa
open Go.RowKit Go.Deep

/-- A disk's blocks are all new since block B. -/
def Hi (B : Nat) (q : DR) : Prop := ∀ x, q.F x → B ≤ x
section
variable {B : Nat} {l l' : LR} {q q' : DR} {w w' : World}
theorem DStep.hi (h : DStep q w q' w') (hB : B ≤ w.heap.size) (hF : Hi B q) : Below B w w' ∧ Hi B q' := by
  refine ⟨h.wrt.below hB (fun k hk => ?_), fun x hx => ?_⟩
  · simp only [List.mem_cons, Option.some.injEq, List.not_mem_nil, or_false] at hk
    rcases hk with rfl | rfl | rfl
    · exact hF _ (.inl rfl)
    · exact hF _ (.inr (.inl rfl))
    · exact hF _ (.inr (.inr (.inl rfl)))
  · rcases h.F x hx with e | e
    · exact hF x e
    · omega
theorem LStep.hi (h : LStep l q w l' q' w') (hB : B ≤ w.heap.size) (hF : Hi B q) (hl : B ≤ l.g) : Below B w w' ∧ Hi B q' ∧ B ≤ l'.g := by
  refine ⟨h.wrt.below hB (fun k hk => ?_), fun x hx => ?_, by rw [h.lg]; exact hl⟩
  · simp only [List.mem_cons, Option.some.injEq, List.not_mem_nil, or_false] at hk
    rcases hk with rfl | rfl | rfl | rfl
    · exact hl
    · exact hF _ (.inl rfl)
    · exact hF _ (.inr (.inl rfl))
    · exact hF _ (.inr (.inr (.inl rfl)))
  · rcases h.F x hx with e | e
    · exact hF x e
    · omega
end
/-- A put that fits is done, where there is power. -/
theorem PutR.fits {d : AD} {l l' : LR} {q' : DR} {h0 : Hdr} {ls all next : List (List UInt8)} {n s code : Nat} (h : PutR d l h0 ls all next n s (q'.abs, l', code)) (hc : code ≠ 32) (ht : tooLong ls = false) (hf : (framesF ls).length ≤ half n * s - h0.used) : code = 0 := by
  cases h with
  | long _ h2 => rw [ht] at h2; cases h2
  | full _ _ h3 => omega
  | done h1 => exact h1
  | dead h1 => exact absurd h1 hc
theorem PutR.long' {d : AD} {l l' : LR} {q' : DR} {h0 : Hdr} {ls all next : List (List UInt8)} {n s code : Nat} (h : PutR d l h0 ls all next n s (q'.abs, l', code)) (ht : tooLong ls = true) : code = 42 := by
  cases h with
  | long h1 _ => have := congrArg (fun x => x.2.2) h1; simpa using this
  | full _ h2 _ => rw [ht] at h2; cases h2
  | done _ h2 => rw [ht] at h2; cases h2
  | dead _ h2 => rw [ht] at h2; cases h2
theorem known_slices (w : World) (s t : TypeId) : ∀ W : World, W = (((w.alloc (.cells #[.int .u8 97] s (1, 2))).alloc (.cells #[.int .u8 98, .int .u8 99] s (2, 3))).alloc (.cells #[.slice (some ⟨w.heap.size, 0, none⟩) 1 1, .slice (some ⟨w.heap.size + 1, 0, none⟩) 2 2] t)) →
    Slices W W.heap.size (some ⟨w.heap.size + 1 + 1, 0, none⟩) [[97], [98, 99]] ∧ Below w.heap.size w W := by
  intro W hW
  have z : W.heap.size = w.heap.size + 1 + 1 + 1 := by rw [hW]; simp
  have h3 : W.heap[w.heap.size + 1 + 1]? = some (.cells #[.slice (some ⟨w.heap.size, 0, none⟩) 1 1, .slice (some ⟨w.heap.size + 1, 0, none⟩) 2 2] t) := by
    rw [hW]; have := heap_alloc_new ((w.alloc (.cells #[.int .u8 97] s (1, 2))).alloc (.cells #[.int .u8 98, .int .u8 99] s (2, 3))) (.cells #[.slice (some ⟨w.heap.size, 0, none⟩) 1 1, .slice (some ⟨w.heap.size + 1, 0, none⟩) 2 2] t)
    simp only [World.size_alloc] at this
    exact this
  have h2 : W.heap[w.heap.size + 1]? = some (.cells #[.int .u8 98, .int .u8 99] s (2, 3)) := by
    rw [hW, Below.heap_alloc _ _ _ (by simp)]
    have := heap_alloc_new (w.alloc (.cells #[.int .u8 97] s (1, 2))) (.cells #[.int .u8 98, .int .u8 99] s (2, 3))
    simp only [World.size_alloc] at this
    exact this
  have h1 : W.heap[w.heap.size]? = some (.cells #[.int .u8 97] s (1, 2)) := by
    rw [hW, Below.heap_alloc _ _ _ (by simp; omega), Below.heap_alloc _ _ _ (by simp)]
    exact heap_alloc_new _ _
  refine ⟨⟨_, rfl, Row.ofBlock h3 (by omega), fun i hi => ?_⟩, by rw [hW]; exact (((Below.refl _ _).alloc (Nat.le_refl _) _).alloc (by simp) _).alloc (by simp; omega) _⟩
  match i, hi with
  | 0, _ => exact ⟨_, _, rfl, Row.ofBlock h1 (by omega), by simp [maxLen]⟩
  | 1, _ => exact ⟨_, _, rfl, Row.ofBlock h2 (by omega), by simp [maxLen]⟩
def knownL : List (List UInt8) := [[97], [98, 99]]
theorem known_len : (framesF knownL).length ≤ 20 := framesF_bound knownL 2 (by simp [knownL])
/-- A log whose disk has gone on stands, if what is on it has not turned. -/
theorem LogS.other {n s : Nat} {l l2 : LR} {q q2 : DR} {w w2 : World} {all : List (List UInt8)} (h : LogS n s l q w all) (hst : DStep q w q2 w2) (h2 : LogS n s l2 q2 w2 all) (e1 : l2.hdr = l.hdr) (e2 : l2.slot = l.slot) : LogS n s l q2 w2 all :=
  ⟨h.log.dstep h.disk hst, h2.disk, h2.dead, h2.hn, h2.hsz, h2.wr, by have := h2.good; rw [e1, e2] at this; exact this⟩
set_option maxRecDepth 100000 in
set_option maxHeartbeats 4000000 in
theorem known_any (w : World) : Calls Try.prog 11 #[] w fun e w' => e = .returned (.bool true) ∧ Below w.heap.size w w' := by
  have k1 := fun (w : World) (C : Array Value) (n c : Nat) => Lib.run_convert_bytes_const (P := Try.prog) w 23 5 C n c Try.underlying23 Try.underlying5
  have k2 : ∀ (w : World) (o : Obj) (C : Array Value) (n c : Nat), (convert 23 23 (.slice (some ⟨w.heap.size + 1, 0, none⟩) n c)).run Try.prog ((w.alloc o).alloc (.cells C 5)) = .ok (.slice (some ⟨w.heap.size + 1, 0, none⟩) n c) ((w.alloc o).alloc (.cells C 5 (C.size, C.size + 1))) :=
    fun w o C n c => by simpa using k1 (w.alloc o) C n c
  have hnd : Calls Try.prog 12 #[.int .i64 60, .int .i64 256] w _ := newd_any w 60 256 (by omega) (by omega) (by omega) (by omega)
  go_enter Try.func11, Try.ntmps11
  go_wp2_with fail
  refine hnd.mono ?_
  clear hnd
  rintro e w1 ⟨q0, rfl, hN, _, hb1, hF⟩
  have hB1 := Lib.hid hb1
  have hF0 : Hid (Hi w.heap.size q0) := Lib.hid hF
  have hN' := Lib.hid hN
  clear hb1 hF hN
  have hop := open_live (n := 60) (s := 256) (by omega) (by omega) w1 q0 hN'.out.disk hN'.out.dead hN'.out.cut hN'.out.hn hN'.out.hsz hN'.out.good
  go_wp2_with fail
  refine hop.mono ?_
  clear hop
  rintro e w2 ⟨q1, l, A, c, rfl, hst1, hlg, hS, hlh, hls, hsl, hlc, hcut⟩
  obtain ⟨hb2, hF1⟩ := hst1.hi hB1.out.size hF0.out
  have hB2 := Lib.hid (hB1.out.trans hb2)
  have hF1' := Lib.hid hF1
  have hlg0 : Hid (w.heap.size ≤ l.g) := Lib.hid (Nat.le_trans hB1.out.size hlg)
  have hlg' : Hid (w.heap.size ≤ l.g) := Lib.hid (Nat.le_trans hB1.out.size hlg)
  have hS' := Lib.hid hS
  have hser : Hid (l.serial = 0 ∧ l.used = 0 ∧ l.count = 0) := Lib.hid ⟨congrArg Hdr.serial hlh, congrArg Hdr.used hlh, congrArg Hdr.count hlh⟩
  have hcut' := Lib.hid hcut
  have hqg : q1.g = q0.g := hst1.g
  clear hlh hls hsl hlc hcut hlg hst1 hb2 hF1 hS
  go_wp2_with fail
  obtain ⟨w3, hw3⟩ : ∃ x, x = ((w2.alloc (.cells #[.int .u8 97] 5 (1, 2))).alloc (.cells #[.int .u8 98, .int .u8 99] 5 (2, 3))).alloc (.cells #[.slice (some ⟨w2.heap.size, 0, none⟩) 1 1, .slice (some ⟨w2.heap.size + 1, 0, none⟩) 2 2] 23) := ⟨_, rfl⟩
  obtain ⟨hsl3, hb3⟩ := known_slices w2 _ _ _ hw3
  rw [← hw3]
  have hB3 := Lib.hid (hB2.out.trans (hb3.mono hB2.out.size))
  have hcm := commit_law (by omega) (by omega) (hS'.out.below hb3) (by rw [hser.out.1]; omega) (some ⟨w2.heap.size + 1 + 1, 0, none⟩) 2 2 knownL rfl (by omega) hsl3
  have hb3' := Lib.hid hb3
  clear hw3 hsl3 hb3
  refine hcm.mono ?_
  clear hcm
  rintro e w4 ⟨l2, q2, code, rfl, hst, hput, hlive⟩
  have hc0 : code = 0 := hput.fits (hlive hcut'.out).1 rfl (by show (framesF knownL).length ≤ half 60 * 256 - l.used; rw [hser.out.2.1]; have : half 60 = 29 := rfl; have := known_len; omega)
  obtain ⟨hS4, hser4, _, hct4⟩ := hput.stands (hS'.out.below hb3'.out) hst hc0
  obtain ⟨hb4, hF4, hlg4⟩ := hst.hi hB3.out.size hF1'.out hlg'.out
  have hB4 := Lib.hid (hB3.out.trans hb4)
  have hS4' := Lib.hid hS4
  have hF4' := Lib.hid hF4
  have hlg4' := Lib.hid hlg4
  have hlgg : l2.g = l.g := hst.lg
  have hqg4 : q2.g = q0.g := hst.g.trans hqg
  have hcut4 := Lib.hid (hlive hcut'.out).2
  have hser4' : Hid (l2.serial ≤ 2) := Lib.hid (by have := hser.out.1; omega)
  have hct4' : l2.count = 2 := by rw [hct4, hser.out.2.2]; rfl
  subst hc0
  have hcn := count_any w4 l2 q2 hS4'.out.log
  rw [hlgg, hct4'] at hcn
  clear hput hlive hst hS4 hb4 hF4 hlg4 hB2 hB3 hS' hser hser4 hct4 hct4' hF1' hlg' hcut'
  go_wp2_with fail
  refine hcn.mono ?_
  clear hcn
  rintro e w5 ⟨rfl, e5⟩
  rw [e5]
  clear e5 w5
  have hop := open_live (n := 60) (s := 256) (by omega) (by omega) w4 q2 hS4'.out.disk hS4'.out.dead hcut4.out hS4'.out.hn hS4'.out.hsz hS4'.out.good
  rw [hqg4] at hop
  go_wp2_with fail
  refine hop.mono ?_
  clear hop
  rintro e w5 ⟨q3, l3, A3, c3, rfl, hst3, hlg3, hS3, hlh3, hls3, hsl3, hlc3, hcut3⟩
  obtain ⟨hb5, hF5⟩ := hst3.hi hB4.out.size hF4'.out
  have hB5 := Lib.hid (hB4.out.trans hb5)
  have hF5' := Lib.hid hF5
  have hS5 := Lib.hid (hS4'.out.other hst3 hS3 hlh3 hls3)
  have hsl5 := Lib.hid hsl3
  have hcut5 := Lib.hid hcut3
  have hlc5 : 2 ≤ c3 := hlc3
  clear hst3 hlg3 hS3 hlh3 hls3 hsl3 hlc3 hcut3 hb5 hF5 hcut4 hS4' hF4' hB4
  have hnd : Calls Try.prog 12 #[.int .i64 9, .int .i64 256] w5 _ := newd_any w5 9 256 (by omega) (by omega) (by omega) (by omega)
  go_wp2_with fail
  refine hnd.mono ?_
  clear hnd
  rintro e w6 ⟨q6, rfl, hN6, _, hb6, _⟩
  have hsm := open_small w6 q6 hN6.disk (by have := hN6.hn; omega)
  have hB6 := Lib.hid (hB5.out.trans (hb6.mono hB5.out.size))
  have hS6 := Lib.hid (hS5.out.below hb6)
  have hsl6 := Lib.hid (hsl5.out.up hb6)
  clear hN6 hb6 hB5 hS5 hsl5
  go_wp2_with fail
  refine hsm.mono ?_
  clear hsm
  rintro e w7 ⟨rfl, e7⟩
  rw [e7]
  clear e7 w7
  obtain ⟨b, off, A0, c0, rfl, _, hc0, hy0, _⟩ := hsl6.out.at_ (k := 0) (by decide)
  obtain ⟨b', off', A1, c1, hbb, _, hc1, hy1, _⟩ := hsl6.out.at_ (k := 1) (by decide)
  injection hbb with hbb
  injection hbb with hbb1 hbb2
  subst hbb1 hbb2
  have hcell0 : w6.cell? ⟨b, off, none⟩ = some (.slice A0 1 c0) := hc0
  have hcell1 : w6.cell? ⟨b, off + 1, none⟩ = some (.slice A1 2 c1) := hc1
  have kv0 : (convert 23 9 (.slice A0 1 c0)).run Try.prog w6 = .ok (.string ⟨#[97]⟩) w6 := run_text (P := Try.prog) w6 23 5 Try.underlying23 Try.underlying5 A0 1 c0 [97] rfl hy0 9 Try.underlying9
  have kv1 : (convert 23 9 (.slice A1 2 c1)).run Try.prog w6 = .ok (.string ⟨#[98, 99]⟩) w6 := run_text (P := Try.prog) w6 23 5 Try.underlying23 Try.underlying5 A1 2 c1 [98, 99] rfl hy1 9 Try.underlying9
  have hmk := run_make_row' (P := Try.prog) 23 5 (.int .u8 0) 1 Try.underlying23 Try.infoU8 rfl .i64 .i64 1048577 (by omega) (by omega)
  rw [made_bytes] at hmk
  obtain ⟨zs, hzs⟩ : ∃ zs, zs = (List.replicate 1048577 (0 : UInt8)).map byteV := ⟨_, rfl⟩
  rw [← hzs] at hmk
  simp only [show ((1048577 : Nat) : Int) = 1048577 from rfl] at hmk
  have hzs' := Lib.hid hzs
  clear hc0 hc1 hy0 hy1 hsl6 hzs k1 k2
  go_wp2_with fail
  obtain ⟨L0, hL0⟩ : ∃ L, L = List.replicate 1048577 (0 : UInt8) := ⟨_, rfl⟩
  have hL0l : L0.length = 1048577 := by rw [hL0]; exact List.length_replicate ..
  have hzsL : zs = L0.map byteV := by rw [hzs'.out, hL0]
  obtain ⟨w8, hw8⟩ : ∃ x, x = w6.alloc (.cells zs.toArray 5) := ⟨_, rfl⟩
  have hbw8 : Below w6.heap.size w6 w8 := by rw [hw8]; exact below_new w6 _
  have hby8 : Bytes w8 w8.heap.size (some ⟨w6.heap.size, 0, none⟩) L0 := by
    have := Buf.made w6 L0 (by omega)
    rw [← hzsL, ← hw8] at this
    exact this.rowAt.row
  have hs8 : w8.heap.size = w6.heap.size + 1 := by rw [hw8]; simp
  have hsl9 := Slices.one 23 (n := 1048577) (c := 1048577) hL0l (by unfold maxLen; omega) hby8
  have hbw9 := below_new w8 (.cells #[.slice (some ⟨w6.heap.size, 0, none⟩) 1048577 1048577] 23)
  rw [← hw8]
  rw [hs8] at hsl9
  obtain ⟨w9, hw9⟩ : ∃ x, x = w8.alloc (.cells #[.slice (some ⟨w6.heap.size, 0, none⟩) 1048577 1048577] 23) := ⟨_, rfl⟩
  rw [← hw9] at hsl9 hbw9 ⊢
  have hbw : Hid (Below w6.heap.size w6 w9) := Lib.hid (hbw8.trans (hbw9.mono hbw8.size))
  have hlong : Hid (tooLong [L0] = true) := Lib.hid (by
    unfold tooLong
    rw [List.any_cons, hL0l]
    rfl)
  have hB9 := Lib.hid (hB6.out.trans (hbw.out.mono hB6.out.size))
  have hcm := commit_law (by omega) (by omega) (hS6.out.below hbw.out) (by have := hser4'.out; omega) (some ⟨w6.heap.size + 1, 0, none⟩) 1 1 [L0] rfl (by omega) hsl9
  rw [hlgg] at hcm
  clear hL0 hL0l hzsL hw8 hbw8 hby8 hs8 hsl9 hbw9 hw9 hmk hzs'
  refine hcm.mono ?_
  clear hcm
  rintro e w10 ⟨l5, q5, code, rfl, hst, hput, _⟩
  have hc : code = 42 := hput.long' hlong.out
  have hfin : Hid (Below w.heap.size w w10) := Lib.hid (hB9.out.trans (hst.hi hB9.out.size hF5'.out (by rw [hlgg]; exact hlg0.out)).1)
  subst hc
  clear hst hput
  go_wp2_with fail
  go_ret
  exact ⟨rfl, hfin.out⟩
end Go.Proofs.Ytncddkbagmelkaa
namespace Go.Proofs.Ytncddkbagmelkaa
open Go.RowKit Go.Deep

section
variable {B n s : Nat} {l l' : LR} {q q' : DR} {w w' : World} {all : List (List UInt8)}
theorem LogP.noslice (hl : LogP l q w) {b o : Nat} {A : Option Addr} {n c : Nat} (h0 : w.cell? ⟨b, o, none⟩ = some (.slice A n c)) : b ≠ l.g := by
  rintro rfl
  have hh : Holds w l.g 73 (l.cells q.g) := hl
  rw [hh.cell] at h0
  match o, h0 with
  | 0, h0 => simp [LR.cells] at h0
  | 1, h0 => simp [LR.cells] at h0
  | 2, h0 => simp [LR.cells] at h0
  | 3, h0 => simp [LR.cells] at h0
  | 4, h0 => simp [LR.cells] at h0
  | 5, h0 => simp [LR.cells] at h0
  | k + 6, h0 => simp [LR.cells] at h0
theorem LStep.bytesB (h : LStep l q w l' q' w') (hl : LogP l q w) (hq : DiskP q w) {C : Nat} {A : Option Addr} {x : List UInt8} (hb : Bytes w C A x) : Bytes w' C A x := fun hn => by
  obtain ⟨b, off, e, hlt, hc⟩ := hb hn
  have hx : x ≠ [] := by simpa using hn
  refine ⟨b, off, e, hlt, fun j u hu => ?_⟩
  rw [← hc j u hu]
  have hrow : RowAt w A (x.map byteV) := fun _ => ⟨b, off, e, hc⟩
  obtain ⟨a1, a2, a3⟩ := byte_apart hq hrow hx (x := b) (by rw [e]; rfl)
  have a4 : b ≠ l.g := fun hbg => hl.byte hrow hx (by rw [e]; simp [blk, hbg])
  exact World.cell?_of_block (h.wrt.block b (cell_lt (hc j u hu)) (by simp; exact ⟨a4, a1, a2, a3⟩))
theorem LStep.slices (h : LStep l q w l' q' w') (hl : LogP l q w) (hq : DiskP q w) {C : Nat} {A : Option Addr} {ls : List (List UInt8)} (hs : Slices w C A ls) : Slices w' C A ls := by
  obtain ⟨vs, hvl, hr, hi⟩ := hs
  refine ⟨vs, hvl, fun hn => ?_, fun i hlt => ?_⟩
  · obtain ⟨b, off, e, hlt, hc⟩ := hr hn
    refine ⟨b, off, e, hlt, fun j u hu => ?_⟩
    rw [← hc j u hu]
    have hjl : j < ls.length := by
      rw [← hvl]
      rcases Nat.lt_or_ge j vs.length with h1 | h1
      · exact h1
      · rw [List.getElem?_eq_none h1] at hu; cases hu
    obtain ⟨Ai, ci, h1, _⟩ := hi j hjl
    rw [hu] at h1
    injection h1 with h1
    subst h1
    have h0 := hc j _ hu
    obtain ⟨a1, a2, a3⟩ := slice_apart hq h0
    exact World.cell?_of_block (h.wrt.block b (cell_lt h0) (by simp; exact ⟨hl.noslice h0, a1, a2, a3⟩))
  · obtain ⟨Ai, ci, h1, h2, h3⟩ := hi i hlt
    exact ⟨Ai, ci, h1, h.bytesB hl hq h2, h3⟩
/-- Slices of bytes stay. -/
def KeepS (w w' : World) : Prop := ∀ A ls, Slices w w.heap.size A ls → Slices w' w'.heap.size A ls
theorem KeepS.below (hb : Below w.heap.size w w') : KeepS w w' := fun _ _ h => h.up hb
theorem KeepS.lstep (h : LStep l q w l' q' w') (hl : LogP l q w) (hq : DiskP q w) : KeepS w w' := fun _ _ hs => (h.slices hl hq hs).more h.wrt.size
theorem KeepS.dstep (h : DStep q w q' w') (hq : DiskP q w) : KeepS w w' := fun _ _ hs => (h.slices hq hs).more h.wrt.size
/-- A log that stands with power, whose blocks are all new since B. -/
structure Lg (B n s : Nat) (gl gq : Nat) (l : LR) (q : DR) (w : World) (all : List (List UInt8)) : Prop where
  st : LogS n s l q w all
  hi : Hi B q
  el : l.g = gl
  eq : q.g = gq
  low : B ≤ gl
  cut : q.cut = false
theorem Lg.below {gl gq : Nat} (h : Lg B n s gl gq l q w all) (hb : Below w.heap.size w w') : Lg B n s gl gq l q w' all := ⟨h.st.below hb, h.hi, h.el, h.eq, h.low, h.cut⟩
/-- What a call that is done leaves. -/
structure DoneL (B n s gl gq : Nat) (l : LR) (w : World) (next : List (List UInt8)) (l' : LR) (q' : DR) (w' : World) : Prop where
  lg : Lg B n s gl gq l' q' w' next
  ser : l'.serial ≤ l.serial + 2
  bel : Below B w w'
  keep : KeepS w w'
theorem commit_done {gl gq : Nat} (hn1 : 16 ≤ n) (hs : 128 ≤ s) (h : Lg B n s gl gq l q w all) (hB : B ≤ w.heap.size) (hser : l.serial + 2 ≤ 4611686018427387904) (A : Option Addr) (m c : Nat) (ls : List (List UInt8)) (hln : ls.length = m) (hm : m ≤ 100000) (hsl : Slices w w.heap.size A ls) (ht : tooLong ls = false) (hf : (framesF ls).length + l.used ≤ half n * s) :
    Calls Try.prog 14 #[.pointer (some ⟨gl, 0, none⟩), .slice A m c] w fun e w' => ∃ l' q', e = .returned (.int .i64 0) ∧ DoneL B n s gl gq l w (all ++ ls) l' q' w' ∧ l'.used = l.used + (framesF ls).length ∧ l'.count = l.count + ls.length := by
  have hc := commit_law hn1 hs h.st hser A m c ls hln hm hsl
  rw [h.el] at hc
  refine hc.mono fun e w' hE => ?_
  obtain ⟨l', q', code, rfl, hst, hput, hlive⟩ := hE
  have h0 : code = 0 := hput.fits (hlive h.cut).1 ht (by show _ ≤ half n * s - l.used; omega)
  obtain ⟨h1, h2, h3, h4⟩ := hput.stands h.st hst h0
  obtain ⟨b1, b2, b3⟩ := hst.hi hB h.hi (by rw [h.el]; exact h.low)
  subst h0
  exact ⟨l', q', rfl, ⟨⟨h1, b2, hst.lg.trans h.el, hst.g.trans h.eq, h.low, (hlive h.cut).2⟩, h2, b1, .lstep hst h.st.log h.st.disk⟩, h3, h4⟩
theorem reset_done {gl gq : Nat} (hn1 : 16 ≤ n) (hs : 128 ≤ s) (h : Lg B n s gl gq l q w all) (hB : B ≤ w.heap.size) (hser : l.serial + 2 ≤ 4611686018427387904) (A : Option Addr) (m c : Nat) (ls : List (List UInt8)) (hln : ls.length = m) (hm : m ≤ 100000) (hsl : Slices w w.heap.size A ls) (ht : tooLong ls = false) (hf : (framesF ls).length ≤ half n * s) :
    Calls Try.prog 22 #[.pointer (some ⟨gl, 0, none⟩), .slice A m c] w fun e w' => ∃ l' q', e = .returned (.int .i64 0) ∧ DoneL B n s gl gq l w ls l' q' w' ∧ l'.used = (framesF ls).length ∧ l'.count = ls.length := by
  have hc := reset_law hn1 hs h.st hser A m c ls hln hm hsl
  rw [h.el] at hc
  refine hc.mono fun e w' hE => ?_
  obtain ⟨l', q', code, rfl, hst, hput, hlive⟩ := hE
  have h0 : code = 0 := hput.fits (hlive h.cut).1 ht (by show _ ≤ half n * s - 0; omega)
  obtain ⟨h1, h2, h3, h4⟩ := hput.stands h.st hst h0
  obtain ⟨b1, b2, b3⟩ := hst.hi hB h.hi (by rw [h.el]; exact h.low)
  subst h0
  refine ⟨l', q', rfl, ⟨⟨h1, b2, hst.lg.trans h.el, hst.g.trans h.eq, h.low, (hlive h.cut).2⟩, h2, b1, .lstep hst h.st.log h.st.disk⟩, ?_, h4⟩
  rw [h3]
  exact Nat.zero_add _
theorem count_lg {gl gq : Nat} (h : Lg B n s gl gq l q w all) : Calls Try.prog 21 #[.pointer (some ⟨gl, 0, none⟩)] w fun e w' => e = .returned (.int .i64 all.length) ∧ w' = w := by
  have := count_any w l q h.st.log
  rw [h.el, show l.count = all.length from h.st.good.count] at this
  exact this
/-- Open, anew: what was there is there; the disk goes on. -/
theorem reopen_lg {gl gq : Nat} (hn1 : 16 ≤ n) (hs : 128 ≤ s) (h : Lg B n s gl gq l q w all) (hB : B ≤ w.heap.size) :
    Calls Try.prog 13 #[.pointer (some ⟨gq, 0, none⟩)] w fun e w' => ∃ q' l2 A c, e = .returned (.tuple #[.pointer (some ⟨l2.g, 0, none⟩), .slice A all.length c, .int .i64 0]) ∧ Lg B n s l2.g gq l2 q' w' all ∧ Lg B n s gl gq l q' w' all ∧ l2.serial = l.serial ∧ l2.used = l.used ∧ Below B w w' ∧ KeepS w w' ∧ Slices w' w'.heap.size A all ∧ all.length ≤ c := by
  have ho := open_live hn1 hs w q h.st.disk h.st.dead h.cut h.st.hn h.st.hsz h.st.good
  rw [h.eq] at ho
  refine ho.mono fun e w' hE => ?_
  obtain ⟨q', l2, A, c, rfl, hst, hge, hS, hh, hsl, hrow, hlc, hcut⟩ := hE
  obtain ⟨b1, b2⟩ := hst.hi hB h.hi
  exact ⟨q', l2, A, c, rfl, ⟨hS, b2, rfl, hst.g.trans h.eq, Nat.le_trans hB hge, hcut⟩, ⟨h.st.other hst hS hh hsl, b2, h.el, hst.g.trans h.eq, h.low, hcut⟩, congrArg Hdr.serial hh, congrArg Hdr.used hh, b1, .dstep hst h.st.disk, hrow, hlc⟩
/-- Open on a new disk. -/
theorem open_new (hn1 : 16 ≤ n) (hs : 128 ≤ s) (h : NewD n s q w) (hF : Hi B q) (hB : B ≤ w.heap.size) :
    Calls Try.prog 13 #[.pointer (some ⟨q.g, 0, none⟩)] w fun e w' => ∃ q' l c A, e = .returned (.tuple #[.pointer (some ⟨l.g, 0, none⟩), .slice A 0 c, .int .i64 0]) ∧ Lg B n s l.g q.g l q' w' [] ∧ l.serial = 0 ∧ l.used = 0 ∧ Below B w w' ∧ KeepS w w' := by
  refine (open_live hn1 hs w q h.disk h.dead h.cut h.hn h.hsz h.good).mono fun e w' hE => ?_
  obtain ⟨q', l2, A, c, rfl, hst, hge, hS, hh, hsl, hrow, hlc, hcut⟩ := hE
  obtain ⟨b1, b2⟩ := hst.hi hB hF
  exact ⟨q', l2, c, A, rfl, ⟨hS, b2, rfl, hst.g, Nat.le_trans hB hge, hcut⟩, congrArg Hdr.serial hh, congrArg Hdr.used hh, b1, .dstep hst h.disk⟩
end
theorem batchF_notlong (i : Nat) (lens : List UInt8) : tooLong (batchF i lens) = false := tooLong_none (batchF_short i lens)
theorem batchF_bound (i : Nat) (lens : List UInt8) : (framesF (batchF i lens)).length ≤ lens.length * 263 := by
  have := framesF_bound (batchF i lens) 255 (fun r hr => by
    simp only [batchF, List.mem_map] at hr
    obtain ⟨k, _, rfl⟩ := hr
    rw [recF_length]
    have := (lens.getD k 0).toNat_lt
    omega)
  rwa [batchF_length] at this
/-- batch, its answer as a slice of slices. -/
theorem batch_sl (w : World) (i : Nat) (hi : i ≤ 1000) (A : Option Addr) (m c : Nat) (lens : List UInt8) (hl : lens.length = m) (hm : m ≤ 1000) (hb : Bytes w w.heap.size A lens) :
    Calls Try.prog 15 #[.int .i64 i, .slice A m c] w fun e w' => ∃ A' c', e = .returned (.slice A' m c') ∧ Slices w' w'.heap.size A' (batchF i lens) ∧ m ≤ c' ∧ Below w.heap.size w w' := by
  refine (batch_any w i hi A m c lens hl hm hb).mono fun e w' hE => ?_
  obtain ⟨v, ps, rfl, hR, hps, hB⟩ := hE
  obtain ⟨A', c', rfl, hs, hc⟩ := hR.slices
  have hpl : ps.length = m := by
    have := congrArg List.length hps
    simpa [batchF_length, hl] using this
  rw [hps] at hs
  rw [hpl] at hc ⊢
  exact ⟨A', c', rfl, hs, hc, hB⟩
end Go.Proofs.Ytncddkbagmelkaa
