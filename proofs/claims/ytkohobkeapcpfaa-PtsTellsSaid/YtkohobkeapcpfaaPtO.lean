/-
  The walks of the reference's Has and Pleq.
-/
import Derived.Test.YtkohobkeapcpfaaPtC
import Derived.Test.YtkohobkeapcpfaaKp
import Derived.Test.YtkohobkeapcpfaaRelL
namespace Go.Proofs.Ytkohobkeapcpfaa
open Go.RowKit

set_option maxRecDepth 100000 in
set_option maxHeartbeats 2000000 in
theorem has_any (w : World) (A : Option Addr) (n c : Nat) (l : List S) (x : S) (hn : l.length = n) (hm : n ≤ 100000) (hr : Row w w.heap.size A (l.map encStr)) :
    Calls Try.prog 28 #[.slice A n c, encStr x] w fun e w' => e = .returned (.bool (decide (x ∈ l))) ∧ w' = w := by
  have hn' := Lib.hid hn
  have hr' := Lib.hid hr
  clear hn hr
  go_enter Try.func28, Try.ntmps28
  go_wp2_with fail
  go_loop [5] (fun i => ∃ k : Nat, k ≤ n ∧ i = .int .i64 k ∧ x ∉ l.take k) (fun i => n - (intOf i).toNat)
  case atStart => exact ⟨0, Nat.zero_le _, rfl, by simp⟩
  obtain ⟨k, hk, rfl, hno⟩ := hrel
  have hno := Lib.hid hno
  rename_i u1
  clear u1
  by_cases hlt : k < n
  · have hlt2 : k < l.length := by rw [hn'.out]; exact hlt
    obtain ⟨b, off, rfl, _, hcell⟩ := hr'.out.at_ (k := k) (by simpa using hlt2)
    rw [List.getElem_map] at hcell
    have hmem := Lib.hid (List.getElem_mem hlt2)
    have htk := Lib.hid (List.take_succ_eq_append_getElem hlt2)
    generalize l[k] = y at hcell hmem htk
    by_cases hxy : y = x
    · subst hxy
      have hd : Hid (decide (y ∈ l) = true) := Lib.hid (by simpa using hmem.out)
      go_wp2_with fail
      go_ret
      exact ⟨by rw [hd.out]; rfl, rfl⟩
    · have hbq : (y == x) = false := by simpa using hxy
      have hxy2 := Lib.hid hxy
      clear hxy
      go_wp2_with fail
      go_round
      case rel => exact ⟨k + 1, by omega, by go_num, by
        rw [htk.out]
        intro h
        rcases List.mem_append.1 h with h | h
        · exact hno.out h
        · simp at h
          exact hxy2.out h.symm⟩
      case measure => simp [intOf]; omega
  · obtain rfl : k = n := by omega
    have hd : Hid (decide (x ∈ l) = false) := Lib.hid (by
      have := hno.out
      rw [show l.take k = l by rw [← hn'.out, List.take_length]] at this
      simpa using this)
    go_wp2_with fail
    go_ret
    exact ⟨by rw [hd.out]; rfl, rfl⟩

set_option maxRecDepth 100000 in
set_option maxHeartbeats 4000000 in
theorem pleq_any (w0 : World) (a b : Pz) (va vb : Value) (ha : PtsV w0 a va) (hb : PtsV w0 b vb) (hna : a.cells.length ≤ 100000) (hnb : b.cells.length ≤ 100000) :
    Calls Try.prog 14 #[va, vb] w0 fun e w' => e = .returned (.bool (leqS a b)) ∧ Below w0.heap.size w0 w' := by
  obtain ⟨A, c, rfl, hr1, hc1⟩ := ha
  obtain ⟨B, d, rfl, hr2, hc2⟩ := hb
  have K0 := ((((Kp.start (Below.refl w0.heap.size w0)).addR hr1).addR hr2).new 25 #[.bool a.nul, .slice A a.cells.length c]).new 25 #[.bool b.nul, .slice B b.cells.length d]
  rw [show (w0.alloc (.cells #[.bool a.nul, .slice A a.cells.length c] 25)).heap.size = w0.heap.size + 1 by simp] at K0
  clear hr1 hr2
  go_enter Try.func14, Try.ntmps14
  go_wp2_with fail
  generalize (w0.alloc (.cells #[.bool a.nul, .slice A a.cells.length c] 25)).alloc (.cells #[.bool b.nul, .slice B b.cells.length d] 25) = w1 at K0 ⊢
  generalize hB0 : w0.heap.size = B0 at K0 ⊢
  have hB0' := Lib.hid hB0
  clear hB0
  go_loopw [5] (fun i wr => ∃ k : Nat, k ≤ a.cells.length ∧ i = .int .i64 k ∧ Kp w0 [(B0 + 1, 25, #[.bool b.nul, .slice B b.cells.length d]), (B0, 25, #[.bool a.nul, .slice A a.cells.length c])] [(B, b.cells.map encStr), (A, a.cells.map encStr)] wr ∧ (a.cells.take k).all (fun x => decide (x ∈ b.cells)) = true) (fun i _ => a.cells.length - (intOf i).toNat)
  case atStart => exact ⟨0, by omega, rfl, K0, rfl⟩
  clear K0
  obtain ⟨k, hk, rfl, K, hall⟩ := hrel
  have hall := Lib.hid hall
  rename_i u1
  clear u1
  have fb0 := (K.fact 0 0 rfl rfl).2
  have fb1 := (K.fact 0 1 rfl rfl).2
  have fa0 := (K.fact 1 0 rfl rfl).2
  have fa1 := (K.fact 1 1 rfl rfl).2
  by_cases hlt : k < a.cells.length
  · obtain ⟨g, off, rfl, hgl0, hcell⟩ := (K.row 1 _ _ rfl).at_ (k := k) (by simpa using hlt)
    rw [List.getElem_map] at hcell
    have hgb := Lib.hid (K.hold 0 _ _ _ rfl)
    have hga := Lib.hid (K.hold 1 _ _ _ rfl)
    have hrb := Lib.hid (K.row 0 _ _ rfl)
    have htk := Lib.hid (List.take_succ_eq_append_getElem hlt)
    have hmem := Lib.hid (List.getElem_mem hlt)
    generalize a.cells[k] = y at hcell htk hmem
    have hce := Lib.hid hcell
    have hgl := Lib.hid hgl0
    clear hcell hgl0
    by_cases hin : y ∈ b.cells
    · have hd := Lib.hid (show decide (y ∈ b.cells) = true by simpa using hin)
      clear hin
      go_wp2_with fail
      -- THE REGION THAT DRAWS ITS ORDER, BY ONE LEXICAL WALK OVER GENERIC VALUES (written by relgen.py)
      refine wp_region_tab ((fun _ v => v = .pointer (some ⟨B0 + 1, 1, none⟩)) ::
        (fun _ v => v = .slice B (List.length (Pz.cells b)) d) ::
        (fun _ v => v = .pointer (some ⟨B0, 1, none⟩)) ::
        (fun _ v => v = .slice (some (⟨g, off, none⟩ : Addr)) (List.length (Pz.cells a)) c) ::
        (fun _ v => v = .int .i64 k) ::
        (fun _ v => v = .pointer (some ⟨g, off + k, none⟩)) ::
        (fun _ v => v = encStr y) ::
        (fun _ v => v = .bool true) ::
        (fun _ v => v = .bool false) :: [])
        (⟨[(3, none)], 0, []⟩ :: ⟨[(13, some 0)], 0, []⟩ :: ⟨[(2, none)], 0, []⟩ :: ⟨[(15, some 2)], 0, []⟩ :: ⟨[(5, none)], 0, []⟩ :: ⟨[(16, some 3), (17, some 4)], 0, []⟩ :: ⟨[(18, some 5)], 0, []⟩ :: ⟨[(14, some 1), (19, some 6)], 0, []⟩ :: ⟨[(20, some 7)], 0, []⟩ :: [])
        (none :: none :: none :: none :: none :: none :: none :: none :: none :: none :: none :: none :: none :: some 0 :: some 1 :: some 2 :: some 3 :: some 4 :: some 5 :: some 6 :: some 7 :: some 8 :: [])
        (fun _ w' => Below wr.heap.size wr w') (fun _ w w' => Below w.heap.size w w') ?mixK4pleqt ?okK4pleqt ?tabK4pleqt ?frK4pleqt ?inK4pleqt ?keptK4pleqt ?startK4pleqt ?eachK4pleqt ?finK4pleqt
      case mixK4pleqt => kernel_rfl
      case okK4pleqt => kernel_rfl
      case tabK4pleqt => kernel_rfl
      case frK4pleqt => kernel_rfl
      case inK4pleqt => rfl
      case keptK4pleqt => exact ⟨fun _ _ _ _ _ _ _ h => h, fun _ _ _ _ _ _ _ h => h, fun _ _ _ _ _ _ _ h => h, fun _ _ _ _ _ _ _ h => h, fun _ _ _ _ _ _ _ h => h, fun _ _ _ _ _ _ _ h => h, fun _ _ _ _ _ _ _ h => h, fun _ _ _ _ _ _ _ h => h, fun _ _ _ _ _ _ _ h => h, trivial⟩
      case startK4pleqt => exact (Below.refl _ _).drew
      case eachK4pleqt =>
        refine ⟨?_, ?_, ?_, ?_, ?_, ?_, ?_, ?_, ?_, trivial⟩
        -- 0: slot 13 := fieldAddr 25 t3 1
        · intro w L f hC hLi hLd hLn hF
          obtain ⟨d3, _⟩ := hF
          have d3 : f 3 = .pointer (some ⟨B0 + 1, 0, none⟩) := d3
          refine Step2.live rfl ?_
          have ev : ∀ t, evalOf f (.tmp t) = f t := fun _ => rfl
          have ec : ∀ c, evalOf f (.const c) = c := fun _ => rfl
          have ef : ∀ g, evalOf f (.func g) = .func (.func g) #[] #[] := fun _ => rfl
          refine relUpon_value ?_ hC (Below.refl _ _) rfl
          go_simp
        -- 1: slot 14 := load 23 t13
        · intro w L f hC hLi hLd hLn hF
          obtain ⟨d13, _⟩ := hF
          have d13 : f 13 = .pointer (some ⟨B0 + 1, 1, none⟩) := d13
          refine Step2.live rfl ?_
          have hh := hgb.out.below hC hgb.out.lt
          have f1 := (hh.fact 1 rfl).2
          have ev : ∀ t, evalOf f (.tmp t) = f t := fun _ => rfl
          have ec : ∀ c, evalOf f (.const c) = c := fun _ => rfl
          have ef : ∀ g, evalOf f (.func g) = .func (.func g) #[] #[] := fun _ => rfl
          refine relUpon_value ?_ hC (Below.refl _ _) rfl
          go_simp
        -- 2: slot 15 := fieldAddr 25 t2 1
        · intro w L f hC hLi hLd hLn hF
          obtain ⟨d2, _⟩ := hF
          have d2 : f 2 = .pointer (some ⟨B0, 0, none⟩) := d2
          refine Step2.live rfl ?_
          have ev : ∀ t, evalOf f (.tmp t) = f t := fun _ => rfl
          have ec : ∀ c, evalOf f (.const c) = c := fun _ => rfl
          have ef : ∀ g, evalOf f (.func g) = .func (.func g) #[] #[] := fun _ => rfl
          refine relUpon_value ?_ hC (Below.refl _ _) rfl
          go_simp
        -- 3: slot 16 := load 23 t15
        · intro w L f hC hLi hLd hLn hF
          obtain ⟨d15, _⟩ := hF
          have d15 : f 15 = .pointer (some ⟨B0, 1, none⟩) := d15
          refine Step2.live rfl ?_
          have hh := hga.out.below hC hga.out.lt
          have f1 := (hh.fact 1 rfl).2
          have ev : ∀ t, evalOf f (.tmp t) = f t := fun _ => rfl
          have ec : ∀ c, evalOf f (.const c) = c := fun _ => rfl
          have ef : ∀ g, evalOf f (.func g) = .func (.func g) #[] #[] := fun _ => rfl
          refine relUpon_value ?_ hC (Below.refl _ _) rfl
          go_simp
        -- 4: slot 17 := move t5
        · intro w L f hC hLi hLd hLn hF
          obtain ⟨d5, _⟩ := hF
          have d5 : f 5 = .int .i64 k := d5
          refine Step2.live rfl ?_
          exact relUpon_value (v := f 5) rfl (hC) (Below.refl _ _) d5
        -- 5: slot 18 := indexAddr 23 t16 t17
        · intro w L f hC hLi hLd hLn hF
          obtain ⟨d16, d17, _⟩ := hF
          have d16 : f 16 = .slice (some (⟨g, off, none⟩ : Addr)) (List.length (Pz.cells a)) c := d16
          have d17 : f 17 = .int .i64 k := d17
          refine Step2.live rfl ?_
          have ev : ∀ t, evalOf f (.tmp t) = f t := fun _ => rfl
          have ec : ∀ c, evalOf f (.const c) = c := fun _ => rfl
          have ef : ∀ g, evalOf f (.func g) = .func (.func g) #[] #[] := fun _ => rfl
          refine relUpon_value ?_ hC (Below.refl _ _) rfl
          go_simp
        -- 6: slot 19 := load 9 t18
        · intro w L f hC hLi hLd hLn hF
          obtain ⟨d18, _⟩ := hF
          have d18 : f 18 = .pointer (some ⟨g, off + k, none⟩) := d18
          refine Step2.live rfl ?_
          have hcell := (hC.cell (p := ⟨g, off + k, none⟩) hgl.out).trans hce.out
          have ev : ∀ t, evalOf f (.tmp t) = f t := fun _ => rfl
          have ec : ∀ c, evalOf f (.const c) = c := fun _ => rfl
          have ef : ∀ g, evalOf f (.func g) = .func (.func g) #[] #[] := fun _ => rfl
          refine relUpon_value ?_ hC (Below.refl _ _) rfl
          go_simp
        -- 7: slot 20 := call { value (Operand.func 28), args := #[t14, t19], argTypes := #[23, 9] }
        · intro w L f hC hLi hLd hLn hF
          obtain ⟨d14, d19, _⟩ := hF
          have d14 : f 14 = .slice B (List.length (Pz.cells b)) d := d14
          have d19 : f 19 = encStr y := d19
          refine Step2.live rfl ?_
          have ev : ∀ t, evalOf f (.tmp t) = f t := fun _ => rfl
          have ec : ∀ c, evalOf f (.const c) = c := fun _ => rfl
          have ef : ∀ g, evalOf f (.func g) = .func (.func g) #[] #[] := fun _ => rfl
          refine relUpon_call (f := 28) (args := #[.slice B (List.length (Pz.cells b)) d, encStr y]) (w := w) (by go_simp) (has_any w B _ d b.cells y rfl hnb ((hrb.out.below hC).more hC.size)) ?_
          rintro e w1 ⟨he, hw⟩
          subst hw
          exact ⟨_, he, hC, Below.refl _ _, congrArg Value.bool hd.out⟩
        -- 8: slot 21 := unOp UnOp.not 4 t20
        · intro w L f hC hLi hLd hLn hF
          obtain ⟨d20, _⟩ := hF
          have d20 : f 20 = .bool true := d20
          refine Step2.live rfl ?_
          have ev : ∀ t, evalOf f (.tmp t) = f t := fun _ => rfl
          have ec : ∀ c, evalOf f (.const c) = c := fun _ => rfl
          refine relUpon_value ?_ (hC) (Below.refl _ _) rfl
          go_simp
      intro x w' hC hV

      have e0 := hV 8 _ rfl rfl
      clear hV
      simp only [framed]
      rw [e0]
      clear e0
      have K2 := K.up hC
      clear K hC
      go_wp2_with fail
      go_roundw
      case rel => exact ⟨k + 1, by omega, by go_num, K2, by rw [htk.out, List.all_append, hall.out]; simpa using hd.out⟩
      case measure => simp [intOf]; omega
    · have hd := Lib.hid (show decide (y ∈ b.cells) = false by simpa using hin)
      have hno : Hid (leqS a b = false) := Lib.hid (by
        unfold leqS
        rw [show (a.cells.all fun x => decide (x ∈ b.cells)) = false from List.all_eq_false.2 ⟨y, hmem.out, by simpa using hin⟩, Bool.and_false])
      clear hin
      go_wp2_with fail
      -- THE REGION THAT DRAWS ITS ORDER, BY ONE LEXICAL WALK OVER GENERIC VALUES (written by relgen.py)
      refine wp_region_tab ((fun _ v => v = .pointer (some ⟨B0 + 1, 1, none⟩)) ::
        (fun _ v => v = .slice B (List.length (Pz.cells b)) d) ::
        (fun _ v => v = .pointer (some ⟨B0, 1, none⟩)) ::
        (fun _ v => v = .slice (some (⟨g, off, none⟩ : Addr)) (List.length (Pz.cells a)) c) ::
        (fun _ v => v = .int .i64 k) ::
        (fun _ v => v = .pointer (some ⟨g, off + k, none⟩)) ::
        (fun _ v => v = encStr y) ::
        (fun _ v => v = .bool false) ::
        (fun _ v => v = .bool true) :: [])
        (⟨[(3, none)], 0, []⟩ :: ⟨[(13, some 0)], 0, []⟩ :: ⟨[(2, none)], 0, []⟩ :: ⟨[(15, some 2)], 0, []⟩ :: ⟨[(5, none)], 0, []⟩ :: ⟨[(16, some 3), (17, some 4)], 0, []⟩ :: ⟨[(18, some 5)], 0, []⟩ :: ⟨[(14, some 1), (19, some 6)], 0, []⟩ :: ⟨[(20, some 7)], 0, []⟩ :: [])
        (none :: none :: none :: none :: none :: none :: none :: none :: none :: none :: none :: none :: none :: some 0 :: some 1 :: some 2 :: some 3 :: some 4 :: some 5 :: some 6 :: some 7 :: some 8 :: [])
        (fun _ w' => Below wr.heap.size wr w') (fun _ w w' => Below w.heap.size w w') ?mixK4pleqf ?okK4pleqf ?tabK4pleqf ?frK4pleqf ?inK4pleqf ?keptK4pleqf ?startK4pleqf ?eachK4pleqf ?finK4pleqf
      case mixK4pleqf => kernel_rfl
      case okK4pleqf => kernel_rfl
      case tabK4pleqf => kernel_rfl
      case frK4pleqf => kernel_rfl
      case inK4pleqf => rfl
      case keptK4pleqf => exact ⟨fun _ _ _ _ _ _ _ h => h, fun _ _ _ _ _ _ _ h => h, fun _ _ _ _ _ _ _ h => h, fun _ _ _ _ _ _ _ h => h, fun _ _ _ _ _ _ _ h => h, fun _ _ _ _ _ _ _ h => h, fun _ _ _ _ _ _ _ h => h, fun _ _ _ _ _ _ _ h => h, fun _ _ _ _ _ _ _ h => h, trivial⟩
      case startK4pleqf => exact (Below.refl _ _).drew
      case eachK4pleqf =>
        refine ⟨?_, ?_, ?_, ?_, ?_, ?_, ?_, ?_, ?_, trivial⟩
        -- 0: slot 13 := fieldAddr 25 t3 1
        · intro w L f hC hLi hLd hLn hF
          obtain ⟨d3, _⟩ := hF
          have d3 : f 3 = .pointer (some ⟨B0 + 1, 0, none⟩) := d3
          refine Step2.live rfl ?_
          have ev : ∀ t, evalOf f (.tmp t) = f t := fun _ => rfl
          have ec : ∀ c, evalOf f (.const c) = c := fun _ => rfl
          have ef : ∀ g, evalOf f (.func g) = .func (.func g) #[] #[] := fun _ => rfl
          refine relUpon_value ?_ hC (Below.refl _ _) rfl
          go_simp
        -- 1: slot 14 := load 23 t13
        · intro w L f hC hLi hLd hLn hF
          obtain ⟨d13, _⟩ := hF
          have d13 : f 13 = .pointer (some ⟨B0 + 1, 1, none⟩) := d13
          refine Step2.live rfl ?_
          have hh := hgb.out.below hC hgb.out.lt
          have f1 := (hh.fact 1 rfl).2
          have ev : ∀ t, evalOf f (.tmp t) = f t := fun _ => rfl
          have ec : ∀ c, evalOf f (.const c) = c := fun _ => rfl
          have ef : ∀ g, evalOf f (.func g) = .func (.func g) #[] #[] := fun _ => rfl
          refine relUpon_value ?_ hC (Below.refl _ _) rfl
          go_simp
        -- 2: slot 15 := fieldAddr 25 t2 1
        · intro w L f hC hLi hLd hLn hF
          obtain ⟨d2, _⟩ := hF
          have d2 : f 2 = .pointer (some ⟨B0, 0, none⟩) := d2
          refine Step2.live rfl ?_
          have ev : ∀ t, evalOf f (.tmp t) = f t := fun _ => rfl
          have ec : ∀ c, evalOf f (.const c) = c := fun _ => rfl
          have ef : ∀ g, evalOf f (.func g) = .func (.func g) #[] #[] := fun _ => rfl
          refine relUpon_value ?_ hC (Below.refl _ _) rfl
          go_simp
        -- 3: slot 16 := load 23 t15
        · intro w L f hC hLi hLd hLn hF
          obtain ⟨d15, _⟩ := hF
          have d15 : f 15 = .pointer (some ⟨B0, 1, none⟩) := d15
          refine Step2.live rfl ?_
          have hh := hga.out.below hC hga.out.lt
          have f1 := (hh.fact 1 rfl).2
          have ev : ∀ t, evalOf f (.tmp t) = f t := fun _ => rfl
          have ec : ∀ c, evalOf f (.const c) = c := fun _ => rfl
          have ef : ∀ g, evalOf f (.func g) = .func (.func g) #[] #[] := fun _ => rfl
          refine relUpon_value ?_ hC (Below.refl _ _) rfl
          go_simp
        -- 4: slot 17 := move t5
        · intro w L f hC hLi hLd hLn hF
          obtain ⟨d5, _⟩ := hF
          have d5 : f 5 = .int .i64 k := d5
          refine Step2.live rfl ?_
          exact relUpon_value (v := f 5) rfl (hC) (Below.refl _ _) d5
        -- 5: slot 18 := indexAddr 23 t16 t17
        · intro w L f hC hLi hLd hLn hF
          obtain ⟨d16, d17, _⟩ := hF
          have d16 : f 16 = .slice (some (⟨g, off, none⟩ : Addr)) (List.length (Pz.cells a)) c := d16
          have d17 : f 17 = .int .i64 k := d17
          refine Step2.live rfl ?_
          have ev : ∀ t, evalOf f (.tmp t) = f t := fun _ => rfl
          have ec : ∀ c, evalOf f (.const c) = c := fun _ => rfl
          have ef : ∀ g, evalOf f (.func g) = .func (.func g) #[] #[] := fun _ => rfl
          refine relUpon_value ?_ hC (Below.refl _ _) rfl
          go_simp
        -- 6: slot 19 := load 9 t18
        · intro w L f hC hLi hLd hLn hF
          obtain ⟨d18, _⟩ := hF
          have d18 : f 18 = .pointer (some ⟨g, off + k, none⟩) := d18
          refine Step2.live rfl ?_
          have hcell := (hC.cell (p := ⟨g, off + k, none⟩) hgl.out).trans hce.out
          have ev : ∀ t, evalOf f (.tmp t) = f t := fun _ => rfl
          have ec : ∀ c, evalOf f (.const c) = c := fun _ => rfl
          have ef : ∀ g, evalOf f (.func g) = .func (.func g) #[] #[] := fun _ => rfl
          refine relUpon_value ?_ hC (Below.refl _ _) rfl
          go_simp
        -- 7: slot 20 := call { value (Operand.func 28), args := #[t14, t19], argTypes := #[23, 9] }
        · intro w L f hC hLi hLd hLn hF
          obtain ⟨d14, d19, _⟩ := hF
          have d14 : f 14 = .slice B (List.length (Pz.cells b)) d := d14
          have d19 : f 19 = encStr y := d19
          refine Step2.live rfl ?_
          have ev : ∀ t, evalOf f (.tmp t) = f t := fun _ => rfl
          have ec : ∀ c, evalOf f (.const c) = c := fun _ => rfl
          have ef : ∀ g, evalOf f (.func g) = .func (.func g) #[] #[] := fun _ => rfl
          refine relUpon_call (f := 28) (args := #[.slice B (List.length (Pz.cells b)) d, encStr y]) (w := w) (by go_simp) (has_any w B _ d b.cells y rfl hnb ((hrb.out.below hC).more hC.size)) ?_
          rintro e w1 ⟨he, hw⟩
          subst hw
          exact ⟨_, he, hC, Below.refl _ _, congrArg Value.bool hd.out⟩
        -- 8: slot 21 := unOp UnOp.not 4 t20
        · intro w L f hC hLi hLd hLn hF
          obtain ⟨d20, _⟩ := hF
          have d20 : f 20 = .bool false := d20
          refine Step2.live rfl ?_
          have ev : ∀ t, evalOf f (.tmp t) = f t := fun _ => rfl
          have ec : ∀ c, evalOf f (.const c) = c := fun _ => rfl
          refine relUpon_value ?_ (hC) (Below.refl _ _) rfl
          go_simp
      intro x w' hC hV

      have e0 := hV 8 _ rfl rfl
      clear hV
      simp only [framed]
      rw [e0]
      clear e0
      have K2 := K.up hC
      clear K hC
      go_wp2_with fail
      go_ret
      exact ⟨by rw [hno.out]; rfl, K2.bel⟩
  · obtain rfl : k = a.cells.length := by omega
    rw [List.take_length] at hall
    have hle : Hid (leqS a b = (!a.nul || b.nul)) := Lib.hid (by unfold leqS; rw [hall.out, Bool.and_true])
    generalize a.nul = an at *
    generalize b.nul = bn at *
    cases an <;> cases bn <;>
    · go_wp2_with fail
      go_ret
      exact ⟨by rw [hle.out]; rfl, K.bel⟩
end Go.Proofs.Ytkohobkeapcpfaa
