/-
  Package wal: numbers, shapes, headers: their walks and what they tell.
-/
import Derived.Test.YtelglbblgkhcmaaGreatDkR
import Derived.Test.YtelglbblgkhcmaaGreatDkE
import Derived.Test.YtelglbblgkhcmaaGreatSumB
import Derived.StillTailTactics
import Derived.Deep.QuietTactic
import Derived.BigQuiet
import Derived.Lib.BufferWrite
namespace Go.Proofs.YtelglbblgkhcmaaGreat
open Go.RowKit Go.Deep

/-- The n last bytes of v, the most significant one first. -/
def be : Nat → Nat → List UInt8
  | 0, _ => []
  | n + 1, v => be n (v / 256) ++ [UInt8.ofNat (v % 256)]
def getN (l : List UInt8) : Nat := l.foldl (fun v c => v * 256 + c.toNat) 0
theorem be_length (n v : Nat) : (be n v).length = n := by
  induction n generalizing v with
  | zero => rfl
  | succ n ih => simp [be, ih]
theorem getN_snoc (l : List UInt8) (c : UInt8) : getN (l ++ [c]) = getN l * 256 + c.toNat := by simp [getN]
theorem getN_be (n v : Nat) : getN (be n v) = v % 256 ^ n := by
  induction n generalizing v with
  | zero => simp [be, getN, Nat.mod_one]
  | succ n ih =>
    rw [be, getN_snoc, ih, UInt8.toNat_ofNat_of_lt' (show v % 256 < 256 by omega), Nat.pow_succ, Nat.mul_comm (256 ^ n) 256, Nat.mod_mul]
    omega
theorem getN_take (l : List UInt8) (k : Nat) (h : k < l.length) : getN (l.take (k + 1)) = getN (l.take k) * 256 + l[k].toNat := by
  rw [List.take_succ_eq_append_getElem h, getN_snoc]
theorem getN_lt_take (l : List UInt8) (k : Nat) (h : k ≤ l.length) : getN (l.take k) < 256 ^ k ∧ be k (getN (l.take k)) = l.take k := by
  induction k with
  | zero => simp [getN, be]
  | succ k ih =>
    obtain ⟨h1, h2⟩ := ih (by omega)
    have hc := (l[k]'(by omega)).toNat_lt
    rw [getN_take l k (by omega), Nat.pow_succ, be, show (getN (l.take k) * 256 + (l[k]'(by omega)).toNat) / 256 = getN (l.take k) by omega, h2, show (getN (l.take k) * 256 + (l[k]'(by omega)).toNat) % 256 = (l[k]'(by omega)).toNat by omega, List.take_succ_eq_append_getElem (by omega)]
    exact ⟨by omega, by simp⟩
theorem getN_lt (l : List UInt8) : getN l < 256 ^ l.length := by
  have := (getN_lt_take l l.length (Nat.le_refl _)).1
  rwa [List.take_length] at this
theorem be_getN (l : List UInt8) : be l.length (getN l) = l := by
  have := (getN_lt_take l l.length (Nat.le_refl _)).2
  rwa [List.take_length] at this
theorem splice_step (L : List UInt8) (off m x : Nat) (h : off + (m + 1) ≤ L.length) : splice (L.set (off + m) (UInt8.ofNat (x % 256))) off (be m (x / 256)) = splice L off (be (m + 1) x) := by
  unfold splice
  rw [be_length, be_length, be, List.take_set_of_le (by omega), List.append_assoc]
  congr 2
  rw [List.drop_eq_getElem_cons (by simp; omega), List.drop_set_of_lt (by omega)]
  simp [Nat.add_assoc]
theorem orb_u64 (v : Nat) (c : UInt8) (h : v < 72057594037927936) : bits .or .u64 ((v : Int) * 256) (c.toNat : Int) = ((v * 256 + c.toNat : Nat) : Int) := by
  rw [show (v : Int) * 256 = ((v * 256 : Nat) : Int) by omega]
  have hc := c.toNat_lt
  rw [u64_or_nat (v * 256) c.toNat (by omega) (by omega)]
  congr 1
  have := Nat.two_pow_add_eq_or_of_lt (i := 8) (b := c.toNat) (by omega) v
  rw [show 2 ^ 8 * v = v * 256 by omega] at this
  exact this.symm
theorem map_setB (L : List UInt8) (i : Nat) (b : UInt8) : ((L.map byteV).toArray).setIfInBounds i (byteV b) = ((L.set i b).map byteV).toArray := by
  apply Array.toList_inj.1
  rw [Array.toList_setIfInBounds, List.map_set]

set_option maxRecDepth 100000 in
set_option maxHeartbeats 1000000 in
theorem put_any (w : World) (g off n c : Nat) (t : TypeId) (L : List UInt8) (v : Nat) (hv : v < 18446744073709551616) (h : Holds w g t (L.map byteV).toArray) (hn : off + n ≤ L.length) (hL : L.length ≤ 100000000) :
    Calls Tryz.prog 129 #[.slice (some ⟨g, off, none⟩) n c, .int .u64 v] w fun e w' => e = .returned (.tuple #[]) ∧ Holds w' g t ((splice L off (be n v)).map byteV).toArray ∧ Writes [some g] w w' := by
  have hH := Lib.hid h
  clear h
  go_enter Tryz.func129, Tryz.ntmps129
  go_wp2_with fail
  go_loopw [1, 4] (fun xv iv wr => ∃ (m x : Nat) (L' : List UInt8), m ≤ n ∧ iv = .int .i64 ((m : Int) - 1) ∧ xv = .int .u64 x ∧ x < 18446744073709551616 ∧ L'.length = L.length ∧ Hid (splice L' off (be m x) = splice L off (be n v)) ∧ Hid (Holds wr g t (L'.map byteV).toArray) ∧ Hid (Writes [some g] w wr)) (fun _ iv _ => (intOf iv + 1).toNat)
  case atStart => exact ⟨n, v, L, Nat.le_refl _, rfl, rfl, hv, rfl, Lib.hid rfl, hH, Lib.hid (Writes.refl _ _)⟩
  case round =>
    obtain ⟨m, x, L', hm, rfl, rfl, hx, hl, hS, hh, hW⟩ := hrel
    rcases m with _ | m
    · go_wp2_with fail
      go_end0
      refine ⟨rfl, ?_, hW.out⟩
      rw [← hS.out]
      have e : splice L' off (be 0 x) = L' := by simp [splice, be]
      rw [e]
      exact hh.out
    · obtain ⟨b, hb⟩ : ∃ b : UInt8, b = UInt8.ofNat (x % 256) := ⟨_, rfl⟩
      have hby : Hid (byteV b = .int .u8 ((x : Int) % 256)) := Lib.hid (by unfold byteV; rw [hb, UInt8.toNat_ofNat_of_lt' (show x % 256 < 256 by omega)]; simp)
      have hst : Hid (splice (L'.set (off + m) b) off (be m (x / 256)) = splice L off (be n v)) := Lib.hid (by rw [hb, splice_step _ _ _ _ (by omega)]; exact hS.out)
      have hz := hh.out.frozen (off + m)
      have hc : wr.cell? ⟨g, off + m, none⟩ = some (byteV (L'[off + m]'(by omega))) := by rw [hh.out.cell]; simp [List.getElem?_eq_getElem (show off + m < L'.length by omega)]
      clear hS hb
      go_wp2_with fail
      go_roundw
      case rel =>
        refine ⟨m, x / 256, L'.set (off + m) b, by omega, by go_num, by simp, by omega, by simpa using hl, hst, Lib.hid ?_, Lib.hid ?_⟩
        · rw [← map_setB, hby.out]
          have := hh.out.store (off + m) (.int .u8 ((x : Int) % 256))
          exact this
        · exact hW.out.trans (Writes.store _ (p := ⟨g, off + m, none⟩) (by simp) _)
      case measure => simp [intOf]

set_option maxRecDepth 100000 in
set_option maxHeartbeats 1000000 in
theorem get_any (w : World) (A : Option Addr) (n c : Nat) (l : List UInt8) (hn : l.length = n) (hm : n ≤ 8) (hb : RowAt w A (l.map byteV)) :
    Calls Tryz.prog 99 #[.slice A n c] w fun e w' => e = .returned (.int .u64 (getN l)) ∧ w' = w := by
  have hR : Bytes w w.heap.size A l := hb.row
  go_enter Tryz.func99, Tryz.ntmps99
  go_wp2_with fail
  go_loop [3, 8] (fun xv iv => ∃ k : Nat, k ≤ n ∧ iv = .int .i64 k ∧ xv = .int .u64 (getN (l.take k) : Nat)) (fun _ iv => n - (intOf iv).toNat)
  case atStart => exact ⟨0, by omega, rfl, rfl⟩
  case round =>
    obtain ⟨k, hk, rfl, rfl⟩ := hrel
    by_cases hlt : k < n
    · obtain ⟨b, off, rfl, _, hcell⟩ := hR.at_ (k := k) (by omega)
      have h1 := getN_lt (l.take k)
      have hlen : (l.take k).length = k := by simp; omega
      rw [hlen] at h1
      have h2 : getN (l.take k) < 72057594037927936 := Nat.lt_of_lt_of_le h1 (by
        have : 256 ^ k ≤ 256 ^ 7 := Nat.pow_le_pow_right (by omega) (by omega)
        omega)
      have hsn := Lib.hid (getN_take l k (by omega))
      have e2 := orb_u64 (getN (l.take k)) (l[k]'(by omega)) h2
      have hbl := (l[k]'(by omega)).toNat_lt
      generalize getN (l.take k) = x at *
      generalize (l[k]'(by omega)) = bb at *
      go_wp2
      go_round
      case rel => exact ⟨k + 1, by omega, by go_num, by rw [hsn.out]; simp⟩
      case measure => simp [intOf]; omega
    · obtain rfl : k = n := by omega
      have : l.take k = l := List.take_of_length_le (by omega)
      rw [this]
      have h1 := getN_lt l
      go_wp2
      go_ret
      exact ⟨rfl, rfl⟩
end Go.Proofs.YtelglbblgkhcmaaGreat
namespace Go.Proofs.YtelglbblgkhcmaaGreat
open Go.RowKit Go.Deep

def shV (n s : Nat) : Value := .agg #[.int .i64 n, .int .i64 s]
def half (n : Nat) : Nat := (n - 2) / 2

/-- The end of a function whose result is a struct in memory; of one with a slot behind it. -/
theorem ret_cell1 {fn : Func} {p : Tmp} {ty : TypeId} {R : Ending → World → Prop} {a : Act} {w : World} {g : Nat} {t : TypeId} {cs : Array Value} {fs : Array Field} (h : fn.results = #[.cell p ty]) (hd0 : a.defers = []) (hp : a.tmps.getD p undef = .pointer (some ⟨g, 0, none⟩))
    (hg : Holds w g t cs) (hu : Tryz.prog.underlying ty = some (.struct fs)) (hi : (Tryz.prog.info? ty).map (·.size) = some cs.size)
    (hR : R (.returned (.agg cs)) w) : bodyPost Tryz.prog fn R .ret a w :=
  bodyPost_ret_by (v := .agg cs) (results_cell_row h _ w g t cs (0, 0) _ hp hg hu rfl hi) hd0 hR
theorem ret_cell2 {fn : Func} {p u : Tmp} {ty : TypeId} {R : Ending → World → Prop} {a : Act} {w : World} {g : Nat} {t : TypeId} {cs : Array Value} {fs : Array Field} (h : fn.results = #[.cell p ty, .tmp u]) (hd0 : a.defers = []) (hp : a.tmps.getD p undef = .pointer (some ⟨g, 0, none⟩))
    (hg : Holds w g t cs) (hu : Tryz.prog.underlying ty = some (.struct fs)) (hi : (Tryz.prog.info? ty).map (·.size) = some cs.size)
    (hR : R (.returned (.tuple #[.agg cs, a.tmps.getD u undef])) w) : bodyPost Tryz.prog fn R .ret a w := by
  refine bodyPost_ret_by (v := .tuple #[.agg cs, a.tmps.getD u undef]) ?_ hd0 hR
  rw [results_cell_tmp h, hp]
  simp [asAddr, run_loadVar_row w g t ty cs (0, 0) _ hg hu rfl hi, Result.andThen]
theorem Tryz.sShape : (Tryz.prog.info? 139).map (·.size) = some 2 := by kernel_rfl
theorem Tryz.sHeader : (Tryz.prog.info? 100).map (·.size) = some 4 := by kernel_rfl
set_option maxRecDepth 100000 in
theorem half_any (w : World) (n s : Nat) (h1 : 16 ≤ n) (h2 : n ≤ 4096) :
    Calls Tryz.prog 103 #[shV n s] w fun e w' => e = .returned (.int .i64 (half n)) ∧ Below w.heap.size w w' := by
  have hh : Hid ((half n : Nat) = ((n : Int) - 2) / 2) := Lib.hid (by unfold half; omega)
  unfold shV
  go_enter Tryz.func103, Tryz.ntmps103
  go_wp2_with fail
  go_ret
  exact ⟨ret_int hh.out.symm, below_new _ _⟩
set_option maxRecDepth 100000 in
theorem first_any (w : World) (n s a : Nat) (h1 : 16 ≤ n) (h2 : n ≤ 4096) (h3 : a ≤ 1) :
    Calls Tryz.prog 73 #[shV n s, .int .i64 a] w fun e w' => e = .returned (.int .i64 (2 + a * half n : Nat)) ∧ Below w.heap.size w w' := by
  have hb := below_new w (.cells #[.int .i64 n, .int .i64 s] 139)
  have hc := half_any (w.alloc (.cells #[.int .i64 n, .int .i64 s] 139)) n s h1 h2
  have hl : half n ≤ 4096 := by unfold half; omega
  unfold shV at hc ⊢
  have ha : a = 0 ∨ a = 1 := by omega
  rcases ha with rfl | rfl
  · go_enter Tryz.func73, Tryz.ntmps73
    go_wp2_with fail
    refine hc.mono ?_
    rintro e w2 ⟨rfl, hb2⟩
    go_wp2_with fail
    go_ret
    exact ⟨ret_int (by simp), hb.trans (hb2.mono hb.size)⟩
  · go_enter Tryz.func73, Tryz.ntmps73
    go_wp2_with fail
    refine hc.mono ?_
    rintro e w2 ⟨rfl, hb2⟩
    go_wp2_with fail
    go_ret
    exact ⟨ret_int (by simp), hb.trans (hb2.mono hb.size)⟩
set_option maxRecDepth 100000 in
theorem area_any (w : World) (n s : Nat) (h1 : 16 ≤ n) (h2 : n ≤ 4096) (h3 : s ≤ 4096) :
    Calls Tryz.prog 100 #[shV n s] w fun e w' => e = .returned (.int .i64 (half n * s : Nat)) ∧ Below w.heap.size w w' := by
  have hb := below_new w (.cells #[.int .i64 n, .int .i64 s] 139)
  have hH := Holds.new w 139 #[.int .i64 n, .int .i64 s]
  have hl : half n ≤ 4096 := by unfold half; omega
  have hy : half n * s ≤ 4096 * 4096 := Nat.mul_le_mul hl h3
  have hx := Lib.hid (IntWalk.i64_in ((half n * s : Nat) : Int) (by omega))
  unfold shV
  go_enter Tryz.func100, Tryz.ntmps100
  go_wp2_with fail
  obtain ⟨g, hg⟩ : ∃ g, g = w.heap.size := ⟨_, rfl⟩
  rw [← hg] at hH ⊢
  generalize w.alloc (.cells #[.int .i64 n, .int .i64 s] 139) = wr at hb hH ⊢
  have hb' := Lib.hid hb
  have hH' := Lib.hid hH
  have hlt := Lib.hid hH.lt
  clear hb hH hg
  -- THE REGION THAT DRAWS ITS ORDER, BY ONE LEXICAL WALK OVER GENERIC VALUES (written by relgen.py)
  refine wp_region_tab ((fun _ v => v = .agg #[.int .i64 n, .int .i64 s]) ::
    (fun _ v => v = .int .i64 (half n : Nat)) ::
    (fun _ v => v = .pointer (some ⟨g, 1, none⟩)) ::
    (fun _ v => v = .int .i64 s) ::
    (fun _ v => v = .int .i64 (half n * s : Nat)) ::
    (fun _ v => v = .int .i64 (half n * s : Nat)) :: [])
    (⟨[(1, none)], 0, []⟩ :: ⟨[(3, some 0)], 0, []⟩ :: ⟨[(1, none)], 0, []⟩ :: ⟨[(5, some 2)], 0, []⟩ :: ⟨[(4, some 1), (6, some 3)], 0, []⟩ :: ⟨[(7, some 4)], 0, []⟩ :: [])
    (none :: none :: some 5 :: some 0 :: some 1 :: some 2 :: some 3 :: some 4 :: [])
    (fun _ w' => Below wr.heap.size wr w') (fun _ w w' => Below w.heap.size w w') ?mixK1area1 ?okK1area1 ?tabK1area1 ?frK1area1 ?inK1area1 ?keptK1area1 ?startK1area1 ?eachK1area1 ?finK1area1
  case mixK1area1 => kernel_rfl
  case okK1area1 => kernel_rfl
  case tabK1area1 => kernel_rfl
  case frK1area1 => kernel_rfl
  case inK1area1 => rfl
  case keptK1area1 => exact ⟨fun _ _ _ _ _ _ _ h => h, fun _ _ _ _ _ _ _ h => h, fun _ _ _ _ _ _ _ h => h, fun _ _ _ _ _ _ _ h => h, fun _ _ _ _ _ _ _ h => h, fun _ _ _ _ _ _ _ h => h, trivial⟩
  case startK1area1 => exact (Below.refl _ _).drew
  case eachK1area1 =>
    refine ⟨?_, ?_, ?_, ?_, ?_, ?_, trivial⟩
    -- 0: slot 3 := load 139 t1
    · intro w L f hC hLi hLd hLn hF
      obtain ⟨d1, _⟩ := hF
      have d1 : f 1 = .pointer (some ⟨g, 0, none⟩) := d1
      refine Step2.live rfl ?_
      have c0 := (hC.cell (p := ⟨g, 0, none⟩) hlt.out).trans (hH'.out.cell 0)
      have c1 := (hC.cell (p := ⟨g, 1, none⟩) hlt.out).trans (hH'.out.cell 1)
      have ev : ∀ t, evalOf f (.tmp t) = f t := fun _ => rfl
      have ec : ∀ c, evalOf f (.const c) = c := fun _ => rfl
      have ef : ∀ g, evalOf f (.func g) = .func (.func g) #[] #[] := fun _ => rfl
      refine relUpon_value ?_ hC (Below.refl _ _) rfl
      go_simp
    -- 1: slot 4 := call { value (Operand.func 103), args := #[t3], argTypes := #[139] }
    · intro w L f hC hLi hLd hLn hF
      obtain ⟨d3, _⟩ := hF
      have d3 : f 3 = .agg #[.int .i64 n, .int .i64 s] := d3
      refine Step2.live rfl ?_
      have ev : ∀ t, evalOf f (.tmp t) = f t := fun _ => rfl
      have ec : ∀ c, evalOf f (.const c) = c := fun _ => rfl
      have ef : ∀ g, evalOf f (.func g) = .func (.func g) #[] #[] := fun _ => rfl
      refine relUpon_call (f := 103) (args := #[.agg #[.int .i64 n, .int .i64 s]]) (w := w) (by go_simp) (half_any w n s h1 h2) ?_
      rintro e w1 ⟨he, hB⟩
      exact ⟨_, he, hC.trans (hB.mono hC.size), hB, rfl⟩
    -- 2: slot 5 := fieldAddr 139 t1 1
    · intro w L f hC hLi hLd hLn hF
      obtain ⟨d1, _⟩ := hF
      have d1 : f 1 = .pointer (some ⟨g, 0, none⟩) := d1
      refine Step2.live rfl ?_
      have ev : ∀ t, evalOf f (.tmp t) = f t := fun _ => rfl
      have ec : ∀ c, evalOf f (.const c) = c := fun _ => rfl
      have ef : ∀ g, evalOf f (.func g) = .func (.func g) #[] #[] := fun _ => rfl
      refine relUpon_value ?_ hC (Below.refl _ _) rfl
      go_simp
    -- 3: slot 6 := load 3 t5
    · intro w L f hC hLi hLd hLn hF
      obtain ⟨d5, _⟩ := hF
      have d5 : f 5 = .pointer (some ⟨g, 1, none⟩) := d5
      refine Step2.live rfl ?_
      have c1 := (hC.cell (p := ⟨g, 1, none⟩) hlt.out).trans (hH'.out.cell 1)
      have ev : ∀ t, evalOf f (.tmp t) = f t := fun _ => rfl
      have ec : ∀ c, evalOf f (.const c) = c := fun _ => rfl
      have ef : ∀ g, evalOf f (.func g) = .func (.func g) #[] #[] := fun _ => rfl
      refine relUpon_value ?_ hC (Below.refl _ _) rfl
      go_simp
    -- 4: slot 7 := binOp BinOp.mul 3 t4 t6 3
    · intro w L f hC hLi hLd hLn hF
      obtain ⟨d4, d6, _⟩ := hF
      have d4 : f 4 = .int .i64 (half n : Nat) := d4
      have d6 : f 6 = .int .i64 s := d6
      refine Step2.live rfl ?_
      have ev : ∀ t, evalOf f (.tmp t) = f t := fun _ => rfl
      have ec : ∀ c, evalOf f (.const c) = c := fun _ => rfl
      have ef : ∀ g, evalOf f (.func g) = .func (.func g) #[] #[] := fun _ => rfl
      refine relUpon_value ?_ hC (Below.refl _ _) rfl
      go_simp
      exact hx.out
    -- 5: slot 2 := assign t7
    · intro w L f hC hLi hLd hLn hF
      obtain ⟨d7, _⟩ := hF
      have d7 : f 7 = .int .i64 (half n * s : Nat) := d7
      refine Step2.live rfl ?_
      exact relUpon_value (v := f 7) rfl (hC) (Below.refl _ _) d7
  intro x w' hC hV

  have e2 := hV 5 _ rfl rfl
  clear hV
  simp only [framed]
  rw [e2]
  clear e2
  go_wp2_with fail
  go_ret
  exact ⟨rfl, hb'.out.trans (hC.mono hb'.out.size)⟩

/-- A log in memory. -/
structure LR where
  g : Nat
  serial : Nat
  area : Nat
  used : Nat
  count : Nat
  slot : Nat
def LR.cells (l : LR) (d : Nat) : Array Value := #[.pointer (some ⟨d, 0, none⟩), .int .u64 l.serial, .int .i64 l.area, .int .i64 l.used, .int .i64 l.count, .int .i64 l.slot]
def LogP (l : LR) (q : DR) (w : World) : Prop := Holds w l.g 104 (l.cells q.g)
set_option maxRecDepth 100000 in
theorem lshape_any (w : World) (l : LR) (q : DR) (hl : LogP l q w) (hq : DiskP q w) :
    Calls Tryz.prog 72 #[.pointer (some ⟨l.g, 0, none⟩)] w fun e w' => e = .returned (shV q.n q.size) ∧ Below w.heap.size w w' := by
  have f0 : w.cell? ⟨l.g, 0, none⟩ = some (.pointer (some ⟨q.g, 0, none⟩)) := hl.cell 0
  go_enter Tryz.func72, Tryz.ntmps72
  go_wp2_with fail
  have hb := below_new w (.cells #[.int .i64 0, .int .i64 0] 139)
  have hH0 := Holds.new w 139 #[.int .i64 0, .int .i64 0]
  have hD0 := hq.below hb
  have hf1 := (hb.cell (p := ⟨l.g, 0, none⟩) hl.lt).trans f0
  obtain ⟨g0, hg0⟩ : ∃ g, g = w.heap.size := ⟨_, rfl⟩
  rw [← hg0] at hH0 ⊢
  have hgl : Hid (l.g < (w.alloc (.cells #[.int .i64 0, .int .i64 0] 139)).heap.size) := Lib.hid (Nat.lt_of_lt_of_le hl.lt hb.size)
  generalize w.alloc (.cells #[.int .i64 0, .int .i64 0] 139) = wr at hb hH0 hD0 hf1 hgl ⊢
  have hb' := Lib.hid hb
  have hH := Lib.hid hH0
  have hD := Lib.hid hD0
  have hf0 := Lib.hid hf1
  have hlt := Lib.hid hH0.lt
  have hg0' := Lib.hid hg0
  clear hb hH0 hD0 hf1 hg0 f0
  -- THE REGION THAT DRAWS ITS ORDER, BY ONE LEXICAL WALK OVER GENERIC VALUES (written by relgen.py)
  refine wp_region_tabL ((fun _ _ v => v = .pointer (some ⟨l.g, 0, none⟩)) ::
    (fun _ _ v => v = .pointer (some ⟨l.g, 0, none⟩)) ::
    (fun _ _ v => v = .pointer (some ⟨l.g, 0, none⟩)) ::
    (fun _ _ v => v = .pointer (some ⟨q.g, 0, none⟩)) ::
    (fun _ _ v => v = .pointer (some ⟨q.g, 0, none⟩)) ::
    (fun _ _ v => v = .pointer (some ⟨q.g, 0, none⟩)) ::
    (fun _ _ v => v = .int .i64 q.n) ::
    (fun _ _ v => v = .pointer (some ⟨l.g, 0, none⟩)) ::
    (fun _ _ v => v = .pointer (some ⟨l.g, 0, none⟩)) ::
    (fun _ _ v => v = .pointer (some ⟨l.g, 0, none⟩)) ::
    (fun _ _ v => v = .pointer (some ⟨q.g, 0, none⟩)) ::
    (fun _ _ v => v = .pointer (some ⟨q.g, 0, none⟩)) ::
    (fun _ _ v => v = .pointer (some ⟨q.g, 0, none⟩)) ::
    (fun _ _ v => v = .int .i64 q.size) ::
    (fun _ _ v => v = .agg #[.int .i64 q.n, .int .i64 q.size]) ::
    (fun _ _ _ => True) :: [])
    (⟨[(0, none)], 0, [15]⟩ :: ⟨[(3, some 0)], 0, [15]⟩ :: ⟨[(4, some 1)], 0, [15]⟩ :: ⟨[(5, some 2)], 0, [15]⟩ :: ⟨[(6, some 3)], 0, [15]⟩ :: ⟨[(7, some 4)], 0, [15]⟩ :: ⟨[(8, some 5)], 0, [15]⟩ :: ⟨[(0, none)], 0, [15]⟩ :: ⟨[(10, some 7)], 0, [15]⟩ :: ⟨[(11, some 8)], 0, [15]⟩ :: ⟨[(12, some 9)], 0, [15]⟩ :: ⟨[(13, some 10)], 0, [15]⟩ :: ⟨[(14, some 11)], 0, [15]⟩ :: ⟨[(15, some 12)], 0, [15]⟩ :: ⟨[(9, some 6), (16, some 13)], 0, [15]⟩ :: ⟨[(2, none), (17, some 14)], 0, []⟩ :: [])
    (none :: none :: none :: some 0 :: some 1 :: some 2 :: some 3 :: some 4 :: some 5 :: some 6 :: some 7 :: some 8 :: some 9 :: some 10 :: some 11 :: some 12 :: some 13 :: some 14 :: [])
    (fun L w' => CS 15 14 wr (fun w' => Holds w' g0 139 #[.int .i64 q.n, .int .i64 q.size] ∧ Writes [some g0] wr w') L w') (fun i w w' => i ≠ 14 → i ≠ 15 → Below w.heap.size w w') ?mixK1lshape1 ?okK1lshape1 ?tabK1lshape1 ?frK1lshape1 ?inK1lshape1 ?keptK1lshape1 ?startK1lshape1 ?eachK1lshape1 ?finK1lshape1
  case mixK1lshape1 => kernel_rfl
  case okK1lshape1 => kernel_rfl
  case tabK1lshape1 => kernel_rfl
  case frK1lshape1 => kernel_rfl
  case inK1lshape1 => rfl
  case keptK1lshape1 => exact ⟨fun _ _ _ _ _ _ _ _ _ _ _ h => h, fun _ _ _ _ _ _ _ _ _ _ _ h => h, fun _ _ _ _ _ _ _ _ _ _ _ h => h, fun _ _ _ _ _ _ _ _ _ _ _ h => h, fun _ _ _ _ _ _ _ _ _ _ _ h => h, fun _ _ _ _ _ _ _ _ _ _ _ h => h, fun _ _ _ _ _ _ _ _ _ _ _ h => h, fun _ _ _ _ _ _ _ _ _ _ _ h => h, fun _ _ _ _ _ _ _ _ _ _ _ h => h, fun _ _ _ _ _ _ _ _ _ _ _ h => h, fun _ _ _ _ _ _ _ _ _ _ _ h => h, fun _ _ _ _ _ _ _ _ _ _ _ h => h, fun _ _ _ _ _ _ _ _ _ _ _ h => h, fun _ _ _ _ _ _ _ _ _ _ _ h => h, fun _ _ _ _ _ _ _ _ _ _ _ h => h, fun _ _ _ _ _ _ _ _ _ _ _ h => h, trivial⟩
  case startK1lshape1 => exact ⟨fun _ => (Below.refl _ _).drew, fun e => by simp at e⟩
  case eachK1lshape1 =>
    refine ⟨?_, ?_, ?_, ?_, ?_, ?_, ?_, ?_, ?_, ?_, ?_, ?_, ?_, ?_, ?_, ?_, trivial⟩
    -- 0: slot 3 := move t0
    · intro w L f hC hLi hLd hLn hF
      obtain ⟨d0, _⟩ := hF
      have d0 : f 0 = .pointer (some ⟨l.g, 0, none⟩) := d0
      refine Step2.live rfl ?_
      exact relUpon_value (v := f 0) rfl (hC.go (i := 0) (hLn 15 (by simp)) (by decide) (Below.refl _ _)) (fun _ _ => Below.refl _ _) d0
    -- 1: slot 4 := nilCheck t3
    · intro w L f hC hLi hLd hLn hF
      obtain ⟨d3, _⟩ := hF
      have d3 : f 3 = .pointer (some ⟨l.g, 0, none⟩) := d3
      refine Step2.live rfl ?_
      have ev : ∀ t, evalOf f (.tmp t) = f t := fun _ => rfl
      have ec : ∀ c, evalOf f (.const c) = c := fun _ => rfl
      have ef : ∀ g, evalOf f (.func g) = .func (.func g) #[] #[] := fun _ => rfl
      refine relUpon_value ?_ (hC.go (i := 1) (hLn 15 (by simp)) (by decide) (Below.refl _ _)) (fun _ _ => Below.refl _ _) rfl
      go_simp
    -- 2: slot 5 := fieldAddr 104 t4 0
    · intro w L f hC hLi hLd hLn hF
      obtain ⟨d4, _⟩ := hF
      have d4 : f 4 = .pointer (some ⟨l.g, 0, none⟩) := d4
      refine Step2.live rfl ?_
      have ev : ∀ t, evalOf f (.tmp t) = f t := fun _ => rfl
      have ec : ∀ c, evalOf f (.const c) = c := fun _ => rfl
      have ef : ∀ g, evalOf f (.func g) = .func (.func g) #[] #[] := fun _ => rfl
      refine relUpon_value ?_ (hC.go (i := 2) (hLn 15 (by simp)) (by decide) (Below.refl _ _)) (fun _ _ => Below.refl _ _) rfl
      go_simp
    -- 3: slot 6 := load 24 t5
    · intro w L f hC hLi hLd hLn hF
      obtain ⟨d5, _⟩ := hF
      have d5 : f 5 = .pointer (some ⟨l.g, 0, none⟩) := d5
      refine Step2.live rfl ?_
      have f0 := ((hC.bel (hLn 15 (by simp))).cell (p := ⟨l.g, 0, none⟩) hgl.out).trans hf0.out
      have ev : ∀ t, evalOf f (.tmp t) = f t := fun _ => rfl
      have ec : ∀ c, evalOf f (.const c) = c := fun _ => rfl
      have ef : ∀ g, evalOf f (.func g) = .func (.func g) #[] #[] := fun _ => rfl
      refine relUpon_value ?_ (hC.go (i := 3) (hLn 15 (by simp)) (by decide) (Below.refl _ _)) (fun _ _ => Below.refl _ _) rfl
      go_simp
    -- 4: slot 7 := nilCheck t6
    · intro w L f hC hLi hLd hLn hF
      obtain ⟨d6, _⟩ := hF
      have d6 : f 6 = .pointer (some ⟨q.g, 0, none⟩) := d6
      refine Step2.live rfl ?_
      have ev : ∀ t, evalOf f (.tmp t) = f t := fun _ => rfl
      have ec : ∀ c, evalOf f (.const c) = c := fun _ => rfl
      have ef : ∀ g, evalOf f (.func g) = .func (.func g) #[] #[] := fun _ => rfl
      refine relUpon_value ?_ (hC.go (i := 4) (hLn 15 (by simp)) (by decide) (Below.refl _ _)) (fun _ _ => Below.refl _ _) rfl
      go_simp
    -- 5: slot 8 := fieldAddr 71 t7 0
    · intro w L f hC hLi hLd hLn hF
      obtain ⟨d7, _⟩ := hF
      have d7 : f 7 = .pointer (some ⟨q.g, 0, none⟩) := d7
      refine Step2.live rfl ?_
      have ev : ∀ t, evalOf f (.tmp t) = f t := fun _ => rfl
      have ec : ∀ c, evalOf f (.const c) = c := fun _ => rfl
      have ef : ∀ g, evalOf f (.func g) = .func (.func g) #[] #[] := fun _ => rfl
      refine relUpon_value ?_ (hC.go (i := 5) (hLn 15 (by simp)) (by decide) (Below.refl _ _)) (fun _ _ => Below.refl _ _) rfl
      go_simp
    -- 6: slot 9 := call { value (Operand.func 41), args := #[t8], argTypes := #[69] }
    · intro w L f hC hLi hLd hLn hF
      obtain ⟨d8, _⟩ := hF
      have d8 : f 8 = .pointer (some ⟨q.g, 0, none⟩) := d8
      refine Step2.live rfl ?_
      have hDw := hD.out.below (hC.bel (hLn 15 (by simp)))
      have ev : ∀ t, evalOf f (.tmp t) = f t := fun _ => rfl
      have ec : ∀ c, evalOf f (.const c) = c := fun _ => rfl
      have ef : ∀ g, evalOf f (.func g) = .func (.func g) #[] #[] := fun _ => rfl
      refine relUpon_call (f := 41) (args := #[.pointer (some ⟨q.g, 0, none⟩)]) (w := w) (by go_simp) (sectors_any w q hDw) ?_
      rintro e w1 ⟨he, rfl⟩
      exact ⟨_, he, hC.go (i := 6) (hLn 15 (by simp)) (by decide) (Below.refl _ _), fun _ _ => Below.refl _ _, rfl⟩
    -- 7: slot 10 := move t0
    · intro w L f hC hLi hLd hLn hF
      obtain ⟨d0, _⟩ := hF
      have d0 : f 0 = .pointer (some ⟨l.g, 0, none⟩) := d0
      refine Step2.live rfl ?_
      exact relUpon_value (v := f 0) rfl (hC.go (i := 7) (hLn 15 (by simp)) (by decide) (Below.refl _ _)) (fun _ _ => Below.refl _ _) d0
    -- 8: slot 11 := nilCheck t10
    · intro w L f hC hLi hLd hLn hF
      obtain ⟨d10, _⟩ := hF
      have d10 : f 10 = .pointer (some ⟨l.g, 0, none⟩) := d10
      refine Step2.live rfl ?_
      have ev : ∀ t, evalOf f (.tmp t) = f t := fun _ => rfl
      have ec : ∀ c, evalOf f (.const c) = c := fun _ => rfl
      have ef : ∀ g, evalOf f (.func g) = .func (.func g) #[] #[] := fun _ => rfl
      refine relUpon_value ?_ (hC.go (i := 8) (hLn 15 (by simp)) (by decide) (Below.refl _ _)) (fun _ _ => Below.refl _ _) rfl
      go_simp
    -- 9: slot 12 := fieldAddr 104 t11 0
    · intro w L f hC hLi hLd hLn hF
      obtain ⟨d11, _⟩ := hF
      have d11 : f 11 = .pointer (some ⟨l.g, 0, none⟩) := d11
      refine Step2.live rfl ?_
      have ev : ∀ t, evalOf f (.tmp t) = f t := fun _ => rfl
      have ec : ∀ c, evalOf f (.const c) = c := fun _ => rfl
      have ef : ∀ g, evalOf f (.func g) = .func (.func g) #[] #[] := fun _ => rfl
      refine relUpon_value ?_ (hC.go (i := 9) (hLn 15 (by simp)) (by decide) (Below.refl _ _)) (fun _ _ => Below.refl _ _) rfl
      go_simp
    -- 10: slot 13 := load 24 t12
    · intro w L f hC hLi hLd hLn hF
      obtain ⟨d12, _⟩ := hF
      have d12 : f 12 = .pointer (some ⟨l.g, 0, none⟩) := d12
      refine Step2.live rfl ?_
      have f0 := ((hC.bel (hLn 15 (by simp))).cell (p := ⟨l.g, 0, none⟩) hgl.out).trans hf0.out
      have ev : ∀ t, evalOf f (.tmp t) = f t := fun _ => rfl
      have ec : ∀ c, evalOf f (.const c) = c := fun _ => rfl
      have ef : ∀ g, evalOf f (.func g) = .func (.func g) #[] #[] := fun _ => rfl
      refine relUpon_value ?_ (hC.go (i := 10) (hLn 15 (by simp)) (by decide) (Below.refl _ _)) (fun _ _ => Below.refl _ _) rfl
      go_simp
    -- 11: slot 14 := nilCheck t13
    · intro w L f hC hLi hLd hLn hF
      obtain ⟨d13, _⟩ := hF
      have d13 : f 13 = .pointer (some ⟨q.g, 0, none⟩) := d13
      refine Step2.live rfl ?_
      have ev : ∀ t, evalOf f (.tmp t) = f t := fun _ => rfl
      have ec : ∀ c, evalOf f (.const c) = c := fun _ => rfl
      have ef : ∀ g, evalOf f (.func g) = .func (.func g) #[] #[] := fun _ => rfl
      refine relUpon_value ?_ (hC.go (i := 11) (hLn 15 (by simp)) (by decide) (Below.refl _ _)) (fun _ _ => Below.refl _ _) rfl
      go_simp
    -- 12: slot 15 := fieldAddr 71 t14 0
    · intro w L f hC hLi hLd hLn hF
      obtain ⟨d14, _⟩ := hF
      have d14 : f 14 = .pointer (some ⟨q.g, 0, none⟩) := d14
      refine Step2.live rfl ?_
      have ev : ∀ t, evalOf f (.tmp t) = f t := fun _ => rfl
      have ec : ∀ c, evalOf f (.const c) = c := fun _ => rfl
      have ef : ∀ g, evalOf f (.func g) = .func (.func g) #[] #[] := fun _ => rfl
      refine relUpon_value ?_ (hC.go (i := 12) (hLn 15 (by simp)) (by decide) (Below.refl _ _)) (fun _ _ => Below.refl _ _) rfl
      go_simp
    -- 13: slot 16 := call { value (Operand.func 42), args := #[t15], argTypes := #[69] }
    · intro w L f hC hLi hLd hLn hF
      obtain ⟨d15, _⟩ := hF
      have d15 : f 15 = .pointer (some ⟨q.g, 0, none⟩) := d15
      refine Step2.live rfl ?_
      have hDw := hD.out.below (hC.bel (hLn 15 (by simp)))
      have ev : ∀ t, evalOf f (.tmp t) = f t := fun _ => rfl
      have ec : ∀ c, evalOf f (.const c) = c := fun _ => rfl
      have ef : ∀ g, evalOf f (.func g) = .func (.func g) #[] #[] := fun _ => rfl
      refine relUpon_call (f := 42) (args := #[.pointer (some ⟨q.g, 0, none⟩)]) (w := w) (by go_simp) (size_any w q hDw) ?_
      rintro e w1 ⟨he, rfl⟩
      exact ⟨_, he, hC.go (i := 13) (hLn 15 (by simp)) (by decide) (Below.refl _ _), fun _ _ => Below.refl _ _, rfl⟩
    -- 14: slot 17 := build 139 #[(0, t9), (1, t16)]
    · intro w L f hC hLi hLd hLn hF
      obtain ⟨d9, d16, _⟩ := hF
      have d9 : f 9 = .int .i64 q.n := d9
      have d16 : f 16 = .int .i64 q.size := d16
      refine Step2.live rfl ?_
      have ev : ∀ t, evalOf f (.tmp t) = f t := fun _ => rfl
      have ec : ∀ c, evalOf f (.const c) = c := fun _ => rfl
      have ef : ∀ g, evalOf f (.func g) = .func (.func g) #[] #[] := fun _ => rfl
      refine relUpon_value ?_ (hC.go (i := 14) (hLn 15 (by simp)) (by decide) (Below.refl _ _)) (fun _ _ => Below.refl _ _) rfl
      go_simp
    -- 15: slot None := store 139 t2 t17
    · intro w L f hC hLi hLd hLn hF
      obtain ⟨d2, d17, _⟩ := hF
      have d2 : f 2 = .pointer (some ⟨g0, 0, none⟩) := d2
      have d17 : f 17 = .agg #[.int .i64 q.n, .int .i64 q.size] := d17
      refine Step2.live rfl ?_
      have hw := hC.bel hLi
      have hh := hH.out.below hw hlt.out
      have c0 := hh.cell 0
      have c1 := hh.cell 1
      have z0 := hh.frozen 0
      have z1 := hh.frozen 1
      have ev : ∀ t, evalOf f (.tmp t) = f t := fun _ => rfl
      have ec : ∀ c, evalOf f (.const c) = c := fun _ => rfl
      have ef : ∀ g, evalOf f (.func g) = .func (.func g) #[] #[] := fun _ => rfl
      refine relUpon_skip (w' := (w.setCell ⟨g0, 0, none⟩ (.int .i64 q.n)).setCell ⟨g0, 1, none⟩ (.int .i64 q.size)) ?_ (CS.last (hLd 14 (by decide)) ⟨(hh.store 0 _).store 1 _, (Writes.of_below hw _).trans ((Writes.store w (p := ⟨g0, 0, none⟩) (by simp) _).trans (Writes.store _ (p := ⟨g0, 1, none⟩) (by simp) _))⟩) (fun _ h => absurd rfl h) trivial
      go_simp
  intro x w' hC hV

  obtain ⟨hH2, hW⟩ := (hC.2 rfl).2
  clear hV
  simp only [framed]
  have c0 := hH2.cell 0
  have c1 := hH2.cell 1
  have hfin : Hid (Below w.heap.size w w') := Lib.hid (hb'.out.trans (hW.below hb'.out.size (fun k hk => by simp at hk; have := hg0'.out; omega)))
  clear hW hC
  go_wp2_with fail
  refine ret_cell1 rfl rfl rfl hH2 Tryz.underlying139 Tryz.sShape ?_
  exact ⟨rfl, hfin.out⟩
end Go.Proofs.YtelglbblgkhcmaaGreat
namespace Go.Proofs.YtelglbblgkhcmaaGreat
open Go.RowKit Go.Deep

theorem byteCells_map (l : List UInt8) : Lib.byteCells l = l.map byteV := rfl
theorem wpList_copy_text {ops : Array Oper} {rest : List Oper} {o : Oper} {a : Act} {Q : Exit → Act → World → Prop} (w : World) (hgd : o.guard = none) (d s : Operand) (dT sT : TypeId)
    (ho : o.op = .call { callee := .builtin .copy, args := #[d, s], argTypes := #[dT, sT] }) (hu : Tryz.prog.underlying dT = some (.slice 5))
    (g off n c : Nat) (tx : ByteArray) (hd : a.eval d = .slice (some ⟨g, off, none⟩) n c) (hs : a.eval s = .string tx) (L : List UInt8) (t : TypeId) (hg : Holds w g t (L.map byteV).toArray) (hle : tx.size ≤ n) (hfit : off + tx.size ≤ L.length)
    (h : ∀ w', Holds w' g t ((splice L off tx.data.toList).map byteV).toArray → Writes [some g] w w' → wpList Tryz.prog ops Q rest (a.put o.dst (goInt tx.size)) w') : wpList Tryz.prog ops Q (o :: rest) a w := by
  refine wpList_plain hgd fun K hK => ?_
  have hrun := Lib.run_copy_row_string (P := Tryz.prog) w dT sT o.type 5 g off n c tx (L.map byteV).toArray t hu Tryz.sizeU8 hg hle (by simpa using hfit)
  unfold Oper.wp
  simp [execOp, ho, resolve, invoke, builtin, hd, hs, hrun, Result.andThen]
  refine hK _ _ (h _ ?_ ?_)
  · have := hg.row ((L.map byteV).take off ++ (tx.data.toList.map byteV ++ (L.map byteV).drop (off + tx.size))).toArray
    rw [byteCells_map]
    have e : (splice L off tx.data.toList).map byteV = (L.map byteV).take off ++ (tx.data.toList.map byteV ++ (L.map byteV).drop (off + tx.size)) := by
      unfold splice
      rw [List.map_append, List.map_append, List.map_take, List.map_drop]
      rfl
    rw [e]
    exact this
  · exact ⟨rfl, rfl, rfl, by simp [World.setRow], fun k hk hn => setRow_other w g k _ (by simpa using hn)⟩

theorem crcOf_lt (l : List (List UInt8)) : crcOf l < 4294967296 := by unfold crcOf; omega
structure Hdr where
  serial : Nat
  area : Nat
  used : Nat
  count : Nat
def Hdr.val (h : Hdr) : Value := .agg #[.int .u64 h.serial, .int .i64 h.area, .int .i64 h.used, .int .i64 h.count]
def magicB : List UInt8 := [97, 117, 103, 117, 114, 108, 111, 103]
def hb7 (h : Hdr) (n s : Nat) : List UInt8 := splice (splice (splice (splice (splice (splice (splice (List.replicate s 0) 0 magicB) 8 (be 8 h.serial)) 16 (be 8 n)) 24 (be 8 s)) 32 (be 8 h.area)) 40 (be 8 h.used)) 48 (be 8 h.count)
def hbytes (h : Hdr) (n s : Nat) : List UInt8 := splice (splice (hb7 h n s) 56 (be 4 (crcOf [(hb7 h n s).take 56]))) (s - 8) (be 8 h.serial)
def Hdr.cells (h : Hdr) : Array Value := #[.int .u64 h.serial, .int .i64 h.area, .int .i64 h.used, .int .i64 h.count]
/-- Where the bytes of a header stand while they are written. -/
structure HB (w : World) (g : Nat) (h : Hdr) (n s : Nat) (L : List UInt8) (wr : World) : Prop where
  hd : Holds wr g 100 h.cells
  sh : Holds wr (g + 1) 139 #[.int .i64 n, .int .i64 s]
  bs : Holds wr (g + 1 + 1) 5 (L.map byteV).toArray
  bel : Below w.heap.size w wr
  size : w.heap.size = g
theorem HB.next {w wr w' : World} {g : Nat} {h : Hdr} {n s : Nat} {L L' : List UInt8} (x : HB w g h n s L wr) (hb : Holds w' (g + 1 + 1) 5 (L'.map byteV).toArray) (hw : Writes [some (g + 1 + 1)] wr w') : HB w g h n s L' w' :=
  ⟨hw.holds x.hd (by simp; omega), hw.holds x.sh (by simp), hb, x.bel.trans (hw.below x.bel.size (fun k hk => by simp at hk; have := x.size; omega)), x.size⟩
theorem HB.below {w wr w' : World} {g : Nat} {h : Hdr} {n s : Nat} {L : List UInt8} (x : HB w g h n s L wr) (hb : Below wr.heap.size wr w') : HB w g h n s L w' :=
  ⟨x.hd.below hb x.hd.lt, x.sh.below hb x.sh.lt, x.bs.below hb x.bs.lt, x.bel.trans (hb.mono x.bel.size), x.size⟩
theorem HB.facts {w wr : World} {g : Nat} {h : Hdr} {n s : Nat} {L : List UInt8} (x : HB w g h n s L wr) : wr.cell? ⟨g, 0, none⟩ = some (.int .u64 h.serial) ∧ wr.cell? ⟨g, 1, none⟩ = some (.int .i64 h.area) ∧ wr.cell? ⟨g, 2, none⟩ = some (.int .i64 h.used) ∧ wr.cell? ⟨g, 3, none⟩ = some (.int .i64 h.count) ∧ wr.cell? ⟨g + 1, 0, none⟩ = some (.int .i64 n) ∧ wr.cell? ⟨g + 1, 1, none⟩ = some (.int .i64 s) :=
  ⟨x.hd.cell 0, x.hd.cell 1, x.hd.cell 2, x.hd.cell 3, x.sh.cell 0, x.sh.cell 1⟩
theorem HB.made (w : World) (h : Hdr) (n s : Nat) (zs : List Value) (hz : zs = (List.replicate s (0 : UInt8)).map byteV) : HB w w.heap.size h n s (List.replicate s 0) (((w.alloc (.cells h.cells 100)).alloc (.cells #[.int .i64 n, .int .i64 s] 139)).alloc (.cells zs.toArray 5)) := by
  subst hz
  obtain ⟨w1, hw1⟩ : ∃ x, x = w.alloc (.cells h.cells 100) := ⟨_, rfl⟩
  have e1 : w1.heap.size = w.heap.size + 1 := by rw [hw1]; simp
  obtain ⟨w2, hw2⟩ : ∃ x, x = w1.alloc (.cells #[.int .i64 n, .int .i64 s] 139) := ⟨_, rfl⟩
  have e2 : w2.heap.size = w.heap.size + 1 + 1 := by rw [hw2]; simp [e1]
  rw [← hw1, ← hw2]
  have h1 : Holds w1 w.heap.size 100 h.cells := by rw [hw1]; exact Holds.new w _ _
  have h2 : Holds w2 w1.heap.size 139 #[.int .i64 n, .int .i64 s] := by rw [hw2]; exact Holds.new w1 _ _
  have h3 := Holds.new w2 5 ((List.replicate s (0 : UInt8)).map byteV).toArray
  have b1 : Below w.heap.size w w1 := by rw [hw1]; exact below_new w _
  have b2 : Below w1.heap.size w1 w2 := by rw [hw2]; exact below_new w1 _
  have b3 := below_new w2 (.cells ((List.replicate s (0 : UInt8)).map byteV).toArray 5)
  rw [e2] at h3
  rw [e1] at h2
  exact ⟨(h1.below b2 h1.lt).below b3 (by rw [e2]; omega), h2.below b3 (by rw [e2]; omega), h3, (b1.trans (b2.mono (by omega))).trans (b3.mono (by omega)), rfl⟩
set_option maxRecDepth 100000 in
set_option maxHeartbeats 4000000 in
theorem hbytes_any (w : World) (h : Hdr) (n s : Nat) (h1 : 16 ≤ n) (h2 : n ≤ 4096) (h3 : 128 ≤ s) (h4 : s ≤ 4096) (hs : h.serial < 18446744073709551616) (ha : h.area ≤ 1000000000) (hu : h.used ≤ 1000000000) (hc : h.count ≤ 1000000000) :
    Calls Tryz.prog 102 #[h.val, shV n s] w fun e w' => (∃ v, e = .returned v ∧ NewB w w' (hbytes h n s) v) ∧ Below w.heap.size w w' := by
  have hmk := run_make_row' (P := Tryz.prog) 37 5 (.int .u8 0) 1 Tryz.underlying37 Tryz.infoU8 rfl .i64 .i64 s (by omega) (by omega)
  rw [made_bytes] at hmk
  obtain ⟨zs, hzs⟩ : ∃ zs, zs = (List.replicate s (0 : UInt8)).map byteV := ⟨_, rfl⟩
  rw [← hzs] at hmk
  have hx0 := Lib.hid (HB.made w h n s zs hzs)
  have hl0 : Hid ((List.replicate s (0 : UInt8)).length = s) := Lib.hid (by simp)
  obtain ⟨L0, hL0⟩ : ∃ L, L = List.replicate s (0 : UInt8) := ⟨_, rfl⟩
  rw [← hL0] at hx0 hl0
  have hL0' := Lib.hid hL0
  clear hzs hL0
  unfold Hdr.cells at hx0
  unfold Hdr.val shV
  go_enter Tryz.func102, Tryz.ntmps102
  go_wp2_with
    (with_reducible refine at_slot 10 ?_
     go_loud (refine wpList_copy_text _ rfl (.tmp 9) (.const (.string ⟨#[97, 117, 103, 117, 114, 108, 111, 103]⟩)) 37 9 rfl Tryz.underlying37 (w.heap.size + 1 + 1) 0 s s ⟨#[97, 117, 103, 117, 114, 108, 111, 103]⟩ rfl rfl L0 5 hx0.out.bs (by show 8 ≤ s; omega) (by show 0 + 8 ≤ _; rw [hl0.out]; omega) ?_)
     intro w1 hb1 hw1
     have hx1 := Lib.hid (hx0.out.next hb1 hw1)
     clear hb1 hw1)
  obtain ⟨g, hg⟩ : ∃ g, g = w.heap.size := ⟨_, rfl⟩
  rw [← hg] at hx1 ⊢
  have hgw := Lib.hid hg
  clear hx0 hmk hg
  have hl1 : Hid ((splice L0 0 magicB).length = s) := Lib.hid (by rw [length_splice _ _ _ (by rw [hl0.out]; simp [magicB]; omega)]; exact hl0.out)
  obtain ⟨L1, hL1⟩ : ∃ L, L = splice L0 0 magicB := ⟨_, rfl⟩
  change Hid (HB w g h n s (splice L0 0 magicB) w1) at hx1
  rw [← hL1] at hx1 hl1
  have hE1 := Lib.hid hL1
  clear hL1
  have n8 : ¬ s = 8 := by omega
  have n16 : ¬ s = 16 := by omega
  have n24 : ¬ s = 24 := by omega
  have n32 : ¬ s = 32 := by omega
  have n40 : ¬ s = 40 := by omega
  have n48 : ¬ s = 48 := by omega
  have n56 : ¬ s = 56 := by omega
  have b16 : (16 : Int) ≤ (s : Int) := by omega
  have b24 : (24 : Int) ≤ (s : Int) := by omega
  have b32 : (32 : Int) ≤ (s : Int) := by omega
  have b40 : (40 : Int) ≤ (s : Int) := by omega
  have b48 : (48 : Int) ≤ (s : Int) := by omega
  have b56 : (56 : Int) ≤ (s : Int) := by omega
  have b60 : (60 : Int) ≤ (s : Int) := by omega
  have hwn := IntWalk.u64_in (n : Int) (by omega)
  have hws := IntWalk.u64_in (s : Int) (by omega)
  have hwa := IntWalk.u64_in (h.area : Int) (by omega)
  have hwu := IntWalk.u64_in (h.used : Int) (by omega)
  have hwc := IntWalk.u64_in (h.count : Int) (by omega)
  -- BEGIN (written by gen_hbytes.py)
  -- region 3
  obtain ⟨f0, f1, f2, f3, f4, f5⟩ := hx1.out.facts
  go_still_tail 4, (by kernel_rfl)
  have hy1 := Lib.hid (hx1.out.below (Below.refl _ w1).drew)
  change wpList _ _ _ _ _ w1.drew
  generalize w1.drew = wa at hy1 ⊢
  clear f0 f1 f2 f3 f4 f5 hx1
  have hc1 := put_any wa (g + 1 + 1) 8 8 (s - 8) 5 L1 h.serial hs hy1.out.bs (by rw [hl1.out]; omega) (by rw [hl1.out]; omega)
  go_wp2_with fail
  refine hc1.mono ?_
  clear hc1
  rintro e w2 ⟨rfl, hb2, hw2⟩
  have hx2 := Lib.hid (hy1.out.next hb2 hw2)
  clear hb2 hw2 hy1
  have hl2 : Hid ((splice L1 (8) (be 8 h.serial)).length = s) := Lib.hid (by rw [length_splice _ _ _ (by rw [be_length, hl1.out]; omega)]; exact hl1.out)
  obtain ⟨L2, hL2⟩ : ∃ L, L = splice L1 (8) (be 8 h.serial) := ⟨_, rfl⟩
  rw [← hL2] at hx2 hl2
  have hE2 := Lib.hid hL2
  clear hL2
  go_wp2_with fail
  -- region 4
  obtain ⟨f0, f1, f2, f3, f4, f5⟩ := hx2.out.facts
  go_still_tail 5, (by kernel_rfl)
  have hy2 := Lib.hid (hx2.out.below (Below.refl _ w2).drew)
  change wpList _ _ _ _ _ w2.drew
  generalize w2.drew = wa at hy2 ⊢
  clear f0 f1 f2 f3 f4 f5 hx2
  have hc2 := put_any wa (g + 1 + 1) 16 8 (s - 16) 5 L2 n (by omega) hy2.out.bs (by rw [hl2.out]; omega) (by rw [hl2.out]; omega)
  go_wp2_with fail
  refine hc2.mono ?_
  clear hc2
  rintro e w3 ⟨rfl, hb2, hw2⟩
  have hx3 := Lib.hid (hy2.out.next hb2 hw2)
  clear hb2 hw2 hy2
  have hl3 : Hid ((splice L2 (16) (be 8 n)).length = s) := Lib.hid (by rw [length_splice _ _ _ (by rw [be_length, hl2.out]; omega)]; exact hl2.out)
  obtain ⟨L3, hL3⟩ : ∃ L, L = splice L2 (16) (be 8 n) := ⟨_, rfl⟩
  rw [← hL3] at hx3 hl3
  have hE3 := Lib.hid hL3
  clear hL3
  go_wp2_with fail
  -- region 5
  obtain ⟨f0, f1, f2, f3, f4, f5⟩ := hx3.out.facts
  go_still_tail 5, (by kernel_rfl)
  have hy3 := Lib.hid (hx3.out.below (Below.refl _ w3).drew)
  change wpList _ _ _ _ _ w3.drew
  generalize w3.drew = wa at hy3 ⊢
  clear f0 f1 f2 f3 f4 f5 hx3
  have hc3 := put_any wa (g + 1 + 1) 24 8 (s - 24) 5 L3 s (by omega) hy3.out.bs (by rw [hl3.out]; omega) (by rw [hl3.out]; omega)
  go_wp2_with fail
  refine hc3.mono ?_
  clear hc3
  rintro e w4 ⟨rfl, hb2, hw2⟩
  have hx4 := Lib.hid (hy3.out.next hb2 hw2)
  clear hb2 hw2 hy3
  have hl4 : Hid ((splice L3 (24) (be 8 s)).length = s) := Lib.hid (by rw [length_splice _ _ _ (by rw [be_length, hl3.out]; omega)]; exact hl3.out)
  obtain ⟨L4, hL4⟩ : ∃ L, L = splice L3 (24) (be 8 s) := ⟨_, rfl⟩
  rw [← hL4] at hx4 hl4
  have hE4 := Lib.hid hL4
  clear hL4
  go_wp2_with fail
  -- region 6
  obtain ⟨f0, f1, f2, f3, f4, f5⟩ := hx4.out.facts
  go_still_tail 5, (by kernel_rfl)
  have hy4 := Lib.hid (hx4.out.below (Below.refl _ w4).drew)
  change wpList _ _ _ _ _ w4.drew
  generalize w4.drew = wa at hy4 ⊢
  clear f0 f1 f2 f3 f4 f5 hx4
  have hc4 := put_any wa (g + 1 + 1) 32 8 (s - 32) 5 L4 h.area (by omega) hy4.out.bs (by rw [hl4.out]; omega) (by rw [hl4.out]; omega)
  go_wp2_with fail
  refine hc4.mono ?_
  clear hc4
  rintro e w5 ⟨rfl, hb2, hw2⟩
  have hx5 := Lib.hid (hy4.out.next hb2 hw2)
  clear hb2 hw2 hy4
  have hl5 : Hid ((splice L4 (32) (be 8 h.area)).length = s) := Lib.hid (by rw [length_splice _ _ _ (by rw [be_length, hl4.out]; omega)]; exact hl4.out)
  obtain ⟨L5, hL5⟩ : ∃ L, L = splice L4 (32) (be 8 h.area) := ⟨_, rfl⟩
  rw [← hL5] at hx5 hl5
  have hE5 := Lib.hid hL5
  clear hL5
  go_wp2_with fail
  -- region 7
  obtain ⟨f0, f1, f2, f3, f4, f5⟩ := hx5.out.facts
  go_still_tail 5, (by kernel_rfl)
  have hy5 := Lib.hid (hx5.out.below (Below.refl _ w5).drew)
  change wpList _ _ _ _ _ w5.drew
  generalize w5.drew = wa at hy5 ⊢
  clear f0 f1 f2 f3 f4 f5 hx5
  have hc5 := put_any wa (g + 1 + 1) 40 8 (s - 40) 5 L5 h.used (by omega) hy5.out.bs (by rw [hl5.out]; omega) (by rw [hl5.out]; omega)
  go_wp2_with fail
  refine hc5.mono ?_
  clear hc5
  rintro e w6 ⟨rfl, hb2, hw2⟩
  have hx6 := Lib.hid (hy5.out.next hb2 hw2)
  clear hb2 hw2 hy5
  have hl6 : Hid ((splice L5 (40) (be 8 h.used)).length = s) := Lib.hid (by rw [length_splice _ _ _ (by rw [be_length, hl5.out]; omega)]; exact hl5.out)
  obtain ⟨L6, hL6⟩ : ∃ L, L = splice L5 (40) (be 8 h.used) := ⟨_, rfl⟩
  rw [← hL6] at hx6 hl6
  have hE6 := Lib.hid hL6
  clear hL6
  go_wp2_with fail
  -- region 8
  obtain ⟨f0, f1, f2, f3, f4, f5⟩ := hx6.out.facts
  go_still_tail 5, (by kernel_rfl)
  have hy6 := Lib.hid (hx6.out.below (Below.refl _ w6).drew)
  change wpList _ _ _ _ _ w6.drew
  generalize w6.drew = wa at hy6 ⊢
  clear f0 f1 f2 f3 f4 f5 hx6
  have hc6 := put_any wa (g + 1 + 1) 48 8 (s - 48) 5 L6 h.count (by omega) hy6.out.bs (by rw [hl6.out]; omega) (by rw [hl6.out]; omega)
  go_wp2_with fail
  refine hc6.mono ?_
  clear hc6
  rintro e w7 ⟨rfl, hb2, hw2⟩
  have hx7 := Lib.hid (hy6.out.next hb2 hw2)
  clear hb2 hw2 hy6
  have hl7 : Hid ((splice L6 (48) (be 8 h.count)).length = s) := Lib.hid (by rw [length_splice _ _ _ (by rw [be_length, hl6.out]; omega)]; exact hl6.out)
  obtain ⟨L7, hL7⟩ : ∃ L, L = splice L6 (48) (be 8 h.count) := ⟨_, rfl⟩
  rw [← hL7] at hx7 hl7
  have hE7 := Lib.hid hL7
  clear hL7
  go_wp2_with fail
  -- region 9
  have hxr := Lib.hid hx7.out
  clear hx7
  obtain ⟨wr, hwr⟩ : ∃ x, x = w7 := ⟨_, rfl⟩
  rw [← hwr] at hxr ⊢
  -- THE REGION THAT DRAWS ITS ORDER, BY ONE LEXICAL WALK OVER GENERIC VALUES (written by relgen.py)
  refine wp_region_tabL ((fun _ _ v => v = .slice (some ⟨g + 1 + 1, 0, none⟩) s s) ::
    (fun _ _ v => v = .slice (some ⟨g + 1 + 1, 56, none⟩) 4 (s - 56)) ::
    (fun _ _ v => v = .slice (some ⟨g + 1 + 1, 0, none⟩) s s) ::
    (fun _ _ v => v = .slice (some ⟨g + 1 + 1, 0, none⟩) 56 s) ::
    (fun L w v => ∃ A, v = .slice A 1 1 ∧ Till 7 (fun w v => Slices w w.heap.size A [L7.take 56]) L w v) ::
    (fun _ _ v => v = .int .u32 (crcOf [L7.take 56] : Nat)) ::
    (fun _ _ v => v = .int .u64 (crcOf [L7.take 56] : Nat)) ::
    (fun _ _ v => v = .tuple #[]) :: [])
    (⟨[(5, none)], 0, [7]⟩ :: ⟨[(46, some 0)], 0, [7]⟩ :: ⟨[(5, none)], 0, [7]⟩ :: ⟨[(48, some 2)], 0, [7]⟩ :: ⟨[(49, some 3)], 0, [7]⟩ :: ⟨[(50, some 4)], 0, [7]⟩ :: ⟨[(51, some 5)], 0, [7]⟩ :: ⟨[(47, some 1), (52, some 6)], 0, []⟩ :: [])
    (none :: none :: none :: none :: none :: none :: none :: none :: none :: none :: none :: none :: none :: none :: none :: none :: none :: none :: none :: none :: none :: none :: none :: none :: none :: none :: none :: none :: none :: none :: none :: none :: none :: none :: none :: none :: none :: none :: none :: none :: none :: none :: none :: none :: none :: none :: some 0 :: some 1 :: some 2 :: some 3 :: some 4 :: some 5 :: some 6 :: some 7 :: [])
    (fun L w' => CS 7 6 wr (fun w' => Holds w' (g + 1 + 1) 5 ((splice L7 56 (be 4 (crcOf [L7.take 56]))).map byteV).toArray ∧ Writes [some (g + 1 + 1)] wr w') L w') (fun i w w' => i ≠ 7 → Below w.heap.size w w') ?mixK9hb9 ?okK9hb9 ?tabK9hb9 ?frK9hb9 ?inK9hb9 ?keptK9hb9 ?startK9hb9 ?eachK9hb9 ?finK9hb9
  case mixK9hb9 => kernel_rfl
  case okK9hb9 => kernel_rfl
  case tabK9hb9 => kernel_rfl
  case frK9hb9 => kernel_rfl
  case inK9hb9 => rfl
  case keptK9hb9 => exact ⟨fun _ _ _ _ _ _ _ _ _ _ _ h => h, fun _ _ _ _ _ _ _ _ _ _ _ h => h, fun _ _ _ _ _ _ _ _ _ _ _ h => h, fun _ _ _ _ _ _ _ _ _ _ _ h => h, fun i hne hrd L w w' v hLi hC hC' hG ⟨A, e, h⟩ => ⟨A, e, Till.keepN h hne (fun _ h2 => hG h2) (fun hb h => h.up hb)⟩, fun _ _ _ _ _ _ _ _ _ _ _ h => h, fun _ _ _ _ _ _ _ _ _ _ _ h => h, fun _ _ _ _ _ _ _ _ _ _ _ h => h, trivial⟩
  case startK9hb9 => exact ⟨fun _ => (Below.refl _ _).drew, fun e => by simp at e⟩
  case eachK9hb9 =>
    refine ⟨?_, ?_, ?_, ?_, ?_, ?_, ?_, ?_, trivial⟩
    -- 0: slot 46 := move t5
    · intro w L f hC hLi hLd hLn hF
      obtain ⟨d5, _⟩ := hF
      have d5 : f 5 = .slice (some ⟨g + 1 + 1, 0, none⟩) s s := d5
      refine Step2.live rfl ?_
      exact relUpon_value (v := f 5) rfl (hC.go (i := 0) (hLn 7 (by simp)) (by decide) (Below.refl _ _)) (fun _ => Below.refl _ _) d5
    -- 1: slot 47 := slice 37 t46 (some (const (56:i64))) (some (const (60:i64))) none
    · intro w L f hC hLi hLd hLn hF
      obtain ⟨d46, _⟩ := hF
      have d46 : f 46 = .slice (some ⟨g + 1 + 1, 0, none⟩) s s := d46
      refine Step2.live rfl ?_
      have ev : ∀ t, evalOf f (.tmp t) = f t := fun _ => rfl
      have ec : ∀ c, evalOf f (.const c) = c := fun _ => rfl
      have ef : ∀ g, evalOf f (.func g) = .func (.func g) #[] #[] := fun _ => rfl
      refine relUpon_value ?_ (hC.go (i := 1) (hLn 7 (by simp)) (by decide) (Below.refl _ _)) (fun _ => Below.refl _ _) rfl
      go_simp
    -- 2: slot 48 := move t5
    · intro w L f hC hLi hLd hLn hF
      obtain ⟨d5, _⟩ := hF
      have d5 : f 5 = .slice (some ⟨g + 1 + 1, 0, none⟩) s s := d5
      refine Step2.live rfl ?_
      exact relUpon_value (v := f 5) rfl (hC.go (i := 2) (hLn 7 (by simp)) (by decide) (Below.refl _ _)) (fun _ => Below.refl _ _) d5
    -- 3: slot 49 := slice 37 t48 none (some (const (56:i64))) none
    · intro w L f hC hLi hLd hLn hF
      obtain ⟨d48, _⟩ := hF
      have d48 : f 48 = .slice (some ⟨g + 1 + 1, 0, none⟩) s s := d48
      refine Step2.live rfl ?_
      have ev : ∀ t, evalOf f (.tmp t) = f t := fun _ => rfl
      have ec : ∀ c, evalOf f (.const c) = c := fun _ => rfl
      have ef : ∀ g, evalOf f (.func g) = .func (.func g) #[] #[] := fun _ => rfl
      refine relUpon_value ?_ (hC.go (i := 3) (hLn 7 (by simp)) (by decide) (Below.refl _ _)) (fun _ => Below.refl _ _) rfl
      go_simp
    -- 4: slot 50 := buildSlice 72 1 #[(0, t49)]
    · intro w L f hC hLi hLd hLn hF
      obtain ⟨d49, _⟩ := hF
      have d49 : f 49 = .slice (some ⟨g + 1 + 1, 0, none⟩) 56 s := d49
      refine Step2.live rfl ?_
      have hw := hC.bel (hLn 7 (by simp))
      have hbs := hxr.out.bs.below hw hxr.out.bs.lt
      have hby : Bytes w w.heap.size (some ⟨g + 1 + 1, 0, none⟩) (L7.take 56) := (Bytes.ofHolds L7 hbs hbs.lt).take 56
      have ev : ∀ t, evalOf f (.tmp t) = f t := fun _ => rfl
      have ec : ∀ c, evalOf f (.const c) = c := fun _ => rfl
      have ef : ∀ g, evalOf f (.func g) = .func (.func g) #[] #[] := fun _ => rfl
      refine relUpon_value (w' := w.alloc (.cells #[.slice (some ⟨g + 1 + 1, 0, none⟩) 56 s] 37)) (v := .slice (some ⟨w.heap.size, 0, none⟩) 1 1) ?_ (hC.go (i := 4) (hLn 7 (by simp)) (by decide) (below_new _ _)) (fun _ => below_new _ _) ⟨_, rfl, fun _ => Slices.one 37 (by rw [List.length_take, hl7.out]; omega) (by unfold maxLen; omega) hby⟩
      go_simp
    -- 5: slot 51 := call { value (Operand.func 104), args := #[t50], argTypes := #[72] }
    · intro w L f hC hLi hLd hLn hF
      obtain ⟨d50, _⟩ := hF
      refine Step2.live rfl ?_
      obtain ⟨A, hA, hsl⟩ := d50
      have ev : ∀ t, evalOf f (.tmp t) = f t := fun _ => rfl
      have ec : ∀ c, evalOf f (.const c) = c := fun _ => rfl
      have ef : ∀ g, evalOf f (.func g) = .func (.func g) #[] #[] := fun _ => rfl
      refine relUpon_call (f := 104) (args := #[.slice A 1 1]) (w := w) (by go_simp) (crc_len w A 1 1 [L7.take 56] (hsl (hLn 7 (by simp))) rfl (by unfold maxLen; omega)) ?_
      rintro e w1 ⟨he, hB⟩
      exact ⟨_, he, hC.go (i := 5) (hLn 7 (by simp)) (by decide) hB, fun _ => hB, rfl⟩
    -- 6: slot 52 := convert 166 59 t51
    · intro w L f hC hLi hLd hLn hF
      obtain ⟨d51, _⟩ := hF
      have d51 : f 51 = .int .u32 (crcOf [L7.take 56] : Nat) := d51
      refine Step2.live rfl ?_
      have hcw := IntWalk.u64_in ((crcOf [L7.take 56] : Nat) : Int) (by have := crcOf_lt [L7.take 56]; omega)
      have ev : ∀ t, evalOf f (.tmp t) = f t := fun _ => rfl
      have ec : ∀ c, evalOf f (.const c) = c := fun _ => rfl
      have ef : ∀ g, evalOf f (.func g) = .func (.func g) #[] #[] := fun _ => rfl
      refine relUpon_value ?_ (hC.go (i := 6) (hLn 7 (by simp)) (by decide) (Below.refl _ _)) (fun _ => Below.refl _ _) rfl
      go_simp
    -- 7: slot 53 := call { value (Operand.func 129), args := #[t47, t52], argTypes := #[37, 59] }
    · intro w L f hC hLi hLd hLn hF
      obtain ⟨d47, d52, _⟩ := hF
      have d47 : f 47 = .slice (some ⟨g + 1 + 1, 56, none⟩) 4 (s - 56) := d47
      have d52 : f 52 = .int .u64 (crcOf [L7.take 56] : Nat) := d52
      refine Step2.live rfl ?_
      have hw := hC.bel hLi
      have hbs := hxr.out.bs.below hw hxr.out.bs.lt
      have ev : ∀ t, evalOf f (.tmp t) = f t := fun _ => rfl
      have ec : ∀ c, evalOf f (.const c) = c := fun _ => rfl
      have ef : ∀ g, evalOf f (.func g) = .func (.func g) #[] #[] := fun _ => rfl
      refine relUpon_call (f := 129) (args := #[.slice (some ⟨g + 1 + 1, 56, none⟩) 4 (s - 56), .int .u64 (crcOf [L7.take 56] : Nat)]) (w := w) (by go_simp) (put_any w (g + 1 + 1) 56 4 (s - 56) 5 L7 (crcOf [L7.take 56]) (by have := crcOf_lt [L7.take 56]; omega) hbs (by rw [hl7.out]; omega) (by rw [hl7.out]; omega)) ?_
      rintro e w1 ⟨he, hB, hW⟩
      exact ⟨_, he, CS.last (hLd 6 (by decide)) ⟨hB, (Writes.of_below hw _).trans hW⟩, fun h => absurd rfl h, rfl⟩
  intro x w' hC hV

  obtain ⟨hb2, hw2⟩ := (hC.2 rfl).2
  clear hV
  simp only [framed]
  have hx8 := Lib.hid (hxr.out.next hb2 hw2)
  clear hb2 hw2 hxr
  have hl8 : Hid ((splice L7 56 (be 4 (crcOf [L7.take 56]))).length = s) := Lib.hid (by rw [length_splice _ _ _ (by rw [be_length, hl7.out]; omega)]; exact hl7.out)
  obtain ⟨L8, hL8⟩ : ∃ L, L = splice L7 56 (be 4 (crcOf [L7.take 56])) := ⟨_, rfl⟩
  rw [← hL8] at hx8 hl8
  have hE8 := Lib.hid hL8
  clear hL8 hC
  obtain ⟨w8, hw8⟩ : ∃ x, x = w' := ⟨_, rfl⟩
  rw [← hw8] at hx8 ⊢
  clear hw8
  go_wp2_with fail
  -- region 10
  have hd1 : IntKind.i64.wrap ((s : Int) - 8) = (s : Int) - 8 := IntWalk.i64_in _ (by omega)
  have hd2 : ((s : Int) - 8).toNat = s - 8 := by omega
  have hd3 : ¬ s = s - 8 := by omega
  have hd4 : (0 : Int) ≤ (s : Int) - 8 := by omega
  have hd5 : (s : Int) - 8 ≤ (s : Int) := by omega
  have hd6 : s - (s - 8) = 8 := by omega
  have hd7 : (8 : Int) ≤ (s : Int) := by omega
  obtain ⟨f0, f1, f2, f3, f4, f5⟩ := hx8.out.facts
  go_still_tail 7, (by kernel_rfl)
  have hy8 := Lib.hid (hx8.out.below (Below.refl _ w8).drew)
  change wpList _ _ _ _ _ w8.drew
  generalize w8.drew = wa at hy8 ⊢
  clear f0 f1 f2 f3 f4 f5 hx8
  have hc8 := put_any wa (g + 1 + 1) (s - 8) 8 8 5 L8 h.serial hs hy8.out.bs (by rw [hl8.out]; omega) (by rw [hl8.out]; omega)
  clear hd1 hd2 hd3 hd4 hd5 hd6 hd7
  go_wp2_with fail
  refine hc8.mono ?_
  clear hc8
  rintro e w9 ⟨rfl, hb2, hw2⟩
  have hx9 := Lib.hid (hy8.out.next hb2 hw2)
  clear hb2 hw2 hy8
  have hl9 : Hid ((splice L8 ((s - 8)) (be 8 h.serial)).length = s) := Lib.hid (by rw [length_splice _ _ _ (by rw [be_length, hl8.out]; omega)]; exact hl8.out)
  obtain ⟨L9, hL9⟩ : ∃ L, L = splice L8 ((s - 8)) (be 8 h.serial) := ⟨_, rfl⟩
  rw [← hL9] at hx9 hl9
  have hE9 := Lib.hid hL9
  clear hL9
  go_wp2_with fail
  -- END
  go_ret
  have hE : L9 = hbytes h n s := by
    rw [hE9.out, hE8.out, hE7.out, hE6.out, hE5.out, hE4.out, hE3.out, hE2.out, hE1.out, hL0'.out]
    rfl
  have hx := hx9.out.bs
  have hll := hl9.out
  rw [hE] at hx hll
  refine ⟨⟨_, rfl, ?_⟩, hx9.out.bel⟩
  have := own_block (B := w.heap.size) hx (by have := hgw.out; omega) (by rw [hll]; omega)
  unfold NewB
  rw [hll] at this ⊢
  exact this
end Go.Proofs.YtelglbblgkhcmaaGreat
namespace Go.Proofs.YtelglbblgkhcmaaGreat
open Go.RowKit Go.Deep

theorem below_drewN {B : Nat} {a w : World} (h : Below B a w) (n : Nat) : Below B a (w.drewN n) := ⟨h.os, h.tape, h.output, h.size, h.block⟩
set_option maxRecDepth 100000 in
set_option maxHeartbeats 1000000 in
theorem equal_any (w : World) (A1 A2 : Option Addr) (n1 c1 n2 c2 : Nat) (l1 l2 : List UInt8) (hn1 : l1.length = n1) (hn2 : l2.length = n2) (hm : n1 ≤ 100000000) (hm2 : n2 ≤ 100000000) (hb1 : RowAt w A1 (l1.map byteV)) (hb2 : RowAt w A2 (l2.map byteV)) :
    Calls Tryz.prog 101 #[.slice A1 n1 c1, .slice A2 n2 c2] w fun e w' => e = .returned (.bool (decide (l1 = l2))) ∧ Below w.heap.size w w' := by
  have h1' := Lib.hid hb1
  have h2' := Lib.hid hb2
  have e1 := Lib.hid hn1
  have e2 := Lib.hid hn2
  clear hb1 hb2 hn1 hn2
  by_cases hne : n1 = n2
  case neg =>
    have hq : ((n1 : Int) == (n2 : Int)) = false := by simp; omega
    have hd : Hid (decide (l1 = l2) = false) := Lib.hid (by simp; intro h; rw [h] at e1; exact hne (e1.out.symm.trans e2.out))
    clear e1 e2
    go_enter Tryz.func101, Tryz.ntmps101
    go_wp2_with fail
    go_ret
    rw [hd.out]
    exact ⟨rfl, Below.refl _ _⟩
  subst hne
  go_enter Tryz.func101, Tryz.ntmps101
  go_wp2_with fail
  go_loopw [13] (fun iv wr => ∃ k : Nat, k ≤ n1 ∧ iv = .int .i64 k ∧ Hid (l1.take k = l2.take k) ∧ Hid (Below w.heap.size w wr)) (fun iv _ => n1 - (intOf iv).toNat)
  case atStart => exact ⟨0, by omega, rfl, Lib.hid (by simp), Lib.hid (Below.refl _ _)⟩
  obtain ⟨k, hk, rfl, hT, hB⟩ := hrel
  by_cases hlt : k < n1
  · have k1 : k < l1.length := by rw [e1.out]; exact hlt
    have k2 : k < l2.length := by rw [e2.out]; exact hlt
    obtain ⟨b1, o1, hA1, _, cell1⟩ := Bytes.at_ (h1'.out.row.below hB.out) k1
    obtain ⟨b2, o2, hA2, _, cell2⟩ := Bytes.at_ (h2'.out.row.below hB.out) k2
    subst hA1 hA2
    have hkk : Hid (l1.take (k + 1) = l2.take (k + 1) ↔ l1[k] = l2[k]) := Lib.hid (by
      have t1 := List.take_succ_eq_append_getElem k1
      have t2 := List.take_succ_eq_append_getElem k2
      rw [t1, t2, hT.out, List.append_cancel_left_eq]
      exact ⟨fun h => by injection h, fun h => by rw [h]⟩)
    have hd : Hid (l1[k] ≠ l2[k] → decide (l1 = l2) = false) := Lib.hid (fun h => by
      simp only [decide_eq_false_iff_not]
      rintro rfl
      exact h rfl)
    obtain ⟨x, hx⟩ : ∃ x, x = l1[k] := ⟨_, rfl⟩
    obtain ⟨y, hy⟩ : ∃ y, y = l2[k] := ⟨_, rfl⟩
    rw [← hx] at cell1 hkk hd
    rw [← hy] at cell2 hkk hd
    have hx3 := x.toNat_lt
    have hy3 := y.toNat_lt
    by_cases hxy : x = y
    · have hq : (((x.toNat : Int)) == ((y.toNat : Int))) = true := by simp [hxy]
      have hT2 := Lib.hid (hkk.out.2 hxy)
      clear hx hy hkk hd hT e1 e2 k1 k2
      go_wp2_with fail
      go_quiet (fail)
      go_wp2_with fail
      go_roundw
      case rel => exact ⟨k + 1, by omega, by go_num, hT2, Lib.hid (below_drewN hB.out _)⟩
      case measure => simp [intOf]; omega
    · have hq : (((x.toNat : Int)) == ((y.toNat : Int))) = false := by simp; intro h; exact hxy (UInt8.toNat_inj.1 (by omega))
      have hd' := Lib.hid (hd.out hxy)
      clear hx hy hkk hd hT e1 e2 k1 k2
      go_wp2_with fail
      go_quiet (fail)
      go_wp2_with fail
      go_ret
      rw [hd'.out]
      exact ⟨rfl, below_drewN hB.out _⟩
  · obtain rfl : k = n1 := by omega
    have hd : Hid (decide (l1 = l2) = true) := Lib.hid (by
      have := hT.out
      rw [List.take_of_length_le (by rw [e1.out]; omega), List.take_of_length_le (by rw [e2.out]; omega)] at this
      simpa using this)
    clear e1 e2
    go_wp2_with fail
    go_ret
    rw [hd.out]
    exact ⟨rfl, hB.out⟩
end Go.Proofs.YtelglbblgkhcmaaGreat
namespace Go.Proofs.YtelglbblgkhcmaaGreat
open Go.RowKit Go.Deep

theorem splice_mid {α : Type} (a x c y : List α) (k : Nat) (hk : a.length = k) (h : x.length = y.length) : splice (a ++ (x ++ c)) k y = a ++ (y ++ c) := by
  subst hk
  unfold splice
  rw [List.take_left, ← List.drop_drop, List.drop_left, ← h, List.drop_left]
/-- The first 56 bytes of a header. -/
def hHead (h : Hdr) (n s : Nat) : List UInt8 := magicB ++ (be 8 h.serial ++ (be 8 n ++ (be 8 s ++ (be 8 h.area ++ (be 8 h.used ++ be 8 h.count)))))
theorem hHead_length (h : Hdr) (n s : Nat) : (hHead h n s).length = 56 := by simp [hHead, be_length, magicB]
theorem rep_cut (a b : Nat) : List.replicate (a + b) (0 : UInt8) = List.replicate a 0 ++ List.replicate b 0 := (List.replicate_append_replicate ..).symm
theorem hb7_eq (h : Hdr) (n s : Nat) (hs : 128 ≤ s) : hb7 h n s = hHead h n s ++ List.replicate (s - 56) 0 := by
  have e : List.replicate s (0 : UInt8) = List.replicate 8 0 ++ (List.replicate 8 0 ++ (List.replicate 8 0 ++ (List.replicate 8 0 ++ (List.replicate 8 0 ++ (List.replicate 8 0 ++ (List.replicate 8 0 ++ List.replicate (s - 56) 0)))))) := by
    rw [← rep_cut, ← rep_cut, ← rep_cut, ← rep_cut, ← rep_cut, ← rep_cut, ← rep_cut]
    congr 1
    omega
  unfold hb7 hHead
  rw [e]
  obtain ⟨z, hz⟩ : ∃ z, z = List.replicate (s - 56) (0 : UInt8) := ⟨_, rfl⟩
  rw [← hz]
  obtain ⟨r, hr⟩ : ∃ r : List UInt8, r = List.replicate 8 0 := ⟨_, rfl⟩
  rw [← hr]
  have hl : r.length = 8 := by rw [hr]; simp
  rw [show splice (r ++ (r ++ (r ++ (r ++ (r ++ (r ++ (r ++ z))))))) 0 magicB = magicB ++ (r ++ (r ++ (r ++ (r ++ (r ++ (r ++ z)))))) from splice_mid [] r _ magicB 0 rfl (by rw [hl]; rfl)]
  rw [splice_mid magicB r _ (be 8 h.serial) 8 rfl (by rw [hl, be_length])]
  have q1 := splice_mid (magicB ++ be 8 h.serial) r (r ++ (r ++ (r ++ (r ++ z)))) (be 8 n) 16 (by simp [be_length, magicB]) (by rw [hl, be_length])
  have q2 := splice_mid (magicB ++ (be 8 h.serial ++ be 8 n)) r (r ++ (r ++ (r ++ z))) (be 8 s) 24 (by simp [be_length, magicB]) (by rw [hl, be_length])
  have q3 := splice_mid (magicB ++ (be 8 h.serial ++ (be 8 n ++ be 8 s))) r (r ++ (r ++ z)) (be 8 h.area) 32 (by simp [be_length, magicB]) (by rw [hl, be_length])
  have q4 := splice_mid (magicB ++ (be 8 h.serial ++ (be 8 n ++ (be 8 s ++ be 8 h.area)))) r (r ++ z) (be 8 h.used) 40 (by simp [be_length, magicB]) (by rw [hl, be_length])
  have q5 := splice_mid (magicB ++ (be 8 h.serial ++ (be 8 n ++ (be 8 s ++ (be 8 h.area ++ be 8 h.used))))) r z (be 8 h.count) 48 (by simp [be_length, magicB]) (by rw [hl, be_length])
  simp only [List.append_assoc] at q1 q2 q3 q4 q5 ⊢
  rw [q1, q2, q3, q4, q5]
theorem hbytes_eq (h : Hdr) (n s : Nat) (hs : 128 ≤ s) : hbytes h n s = hHead h n s ++ (be 4 (crcOf [hHead h n s]) ++ (List.replicate (s - 68) 0 ++ be 8 h.serial)) := by
  unfold hbytes
  rw [hb7_eq h n s hs, List.take_left' (hHead_length h n s)]
  have e : List.replicate (s - 56) (0 : UInt8) = List.replicate 4 0 ++ (List.replicate (s - 68) 0 ++ List.replicate 8 0) := by
    rw [← rep_cut, ← rep_cut]
    congr 1
    omega
  rw [e, splice_mid _ _ _ _ 56 (hHead_length h n s) (by rw [be_length]; simp)]
  have := splice_mid (hHead h n s ++ (be 4 (crcOf [hHead h n s]) ++ List.replicate (s - 68) 0)) (List.replicate 8 (0 : UInt8)) [] (be 8 h.serial) (s - 8) (by simp [hHead_length, be_length]; omega) (by rw [be_length]; simp)
  simpa [List.append_assoc] using this
theorem hbytes_length (h : Hdr) (n s : Nat) (hs : 128 ≤ s) : (hbytes h n s).length = s := by
  rw [hbytes_eq h n s hs]
  simp [hHead_length, be_length]
  omega
/-- The number at an offset. -/
def getF (b : List UInt8) (off : Nat) : Nat := getN ((b.drop off).take 8)
theorem getF_mid (a c : List UInt8) (v k : Nat) (hk : a.length = k) (hv : v < 18446744073709551616) : getF (a ++ (be 8 v ++ c)) k = v := by
  subst hk
  unfold getF
  rw [List.drop_left, List.take_left' (be_length 8 v), getN_be]
  exact Nat.mod_eq_of_lt hv
structure Hdr.ok (h : Hdr) (n s : Nat) : Prop where
  s0 : 0 < h.serial
  s1 : h.serial ≤ 4611686018427387904
  a1 : h.area ≤ 1
  u1 : h.used ≤ half n * s
  c1 : h.count ≤ h.used / 8
instance (h : Hdr) (n s : Nat) : Decidable (h.ok n s) :=
  if e : 0 < h.serial ∧ h.serial ≤ 4611686018427387904 ∧ h.area ≤ 1 ∧ h.used ≤ half n * s ∧ h.count ≤ h.used / 8 then .isTrue ⟨e.1, e.2.1, e.2.2.1, e.2.2.2.1, e.2.2.2.2⟩ else .isFalse fun x => e ⟨x.s0, x.s1, x.a1, x.u1, x.c1⟩
def fieldsF (b : List UInt8) : Hdr := ⟨getF b 8, getF b 32, getF b 40, getF b 48⟩
/-- The header whose sector is b. -/
def parseF (b : List UInt8) (n s : Nat) : Option Hdr := if (fieldsF b).ok n s ∧ b = hbytes (fieldsF b) n s then some (fieldsF b) else none
theorem fieldsF_hbytes (h : Hdr) (n s : Nat) (hs : 128 ≤ s) (h1 : h.serial < 18446744073709551616) (h2 : h.area < 18446744073709551616) (h3 : h.used < 18446744073709551616) (h4 : h.count < 18446744073709551616) : fieldsF (hbytes h n s) = h := by
  rw [hbytes_eq h n s hs]
  generalize be 4 (crcOf [hHead h n s]) ++ (List.replicate (s - 68) 0 ++ be 8 h.serial) = z
  unfold fieldsF hHead
  have q0 := getF_mid magicB (be 8 n ++ (be 8 s ++ (be 8 h.area ++ (be 8 h.used ++ (be 8 h.count ++ z))))) h.serial 8 rfl h1
  have q1 := getF_mid (magicB ++ (be 8 h.serial ++ (be 8 n ++ be 8 s))) (be 8 h.used ++ (be 8 h.count ++ z)) h.area 32 (by simp [be_length, magicB]) h2
  have q2 := getF_mid (magicB ++ (be 8 h.serial ++ (be 8 n ++ (be 8 s ++ be 8 h.area)))) (be 8 h.count ++ z) h.used 40 (by simp [be_length, magicB]) h3
  have q3 := getF_mid (magicB ++ (be 8 h.serial ++ (be 8 n ++ (be 8 s ++ (be 8 h.area ++ be 8 h.used))))) z h.count 48 (by simp [be_length, magicB]) h4
  simp only [List.append_assoc] at q0 q1 q2 q3 ⊢
  rw [q0, q1, q2, q3]
theorem half_le (n : Nat) (h : n ≤ 4096) : half n ≤ 2047 := by unfold half; omega
theorem parse_hbytes (h : Hdr) (n s : Nat) (hn : n ≤ 4096) (hs : 128 ≤ s) (hs2 : s ≤ 4096) (hk : h.ok n s) : parseF (hbytes h n s) n s = some h := by
  have hm : half n * s ≤ 2047 * 4096 := Nat.mul_le_mul (half_le n hn) hs2
  have h1 := hk.s1
  have h2 := hk.a1
  have h3 := hk.u1
  have h4 := hk.c1
  have e := fieldsF_hbytes h n s hs (by omega) (by omega) (by omega) (by omega)
  unfold parseF
  rw [e, if_pos ⟨hk, rfl⟩]
theorem parseF_some {b : List UInt8} {n s : Nat} {h : Hdr} (e : parseF b n s = some h) : h.ok n s ∧ b = hbytes h n s := by
  unfold parseF at e
  split at e
  · rename_i hh
    injection e with e
    subst e
    exact hh
  · cases e
/-- A sector of zeros is no header. -/
theorem parse_zeros (n s : Nat) : parseF (List.replicate s 0) n s = none := by
  unfold parseF
  rw [if_neg]
  rintro ⟨hk, _⟩
  have := hk.s0
  have e : (fieldsF (List.replicate s 0)).serial = 0 := by
    show getN (((List.replicate s (0 : UInt8)).drop 8).take 8) = 0
    rw [List.drop_replicate, List.take_replicate]
    generalize min 8 (s - 8) = k
    induction k with
    | zero => rfl
    | succ k ih => rw [List.replicate_succ', getN_snoc, ih]; rfl
  omega
theorem hbytes_last (h : Hdr) (n s : Nat) (hs : 128 ≤ s) : (hbytes h n s)[s - 1]? = some (UInt8.ofNat (h.serial % 256)) := by
  rw [hbytes_eq h n s hs]
  have e : be 8 h.serial = be 7 (h.serial / 256) ++ [UInt8.ofNat (h.serial % 256)] := rfl
  rw [e]
  have : hHead h n s ++ (be 4 (crcOf [hHead h n s]) ++ (List.replicate (s - 68) 0 ++ (be 7 (h.serial / 256) ++ [UInt8.ofNat (h.serial % 256)]))) = (hHead h n s ++ (be 4 (crcOf [hHead h n s]) ++ (List.replicate (s - 68) 0 ++ be 7 (h.serial / 256)))) ++ [UInt8.ofNat (h.serial % 256)] := by simp
  rw [this, List.getElem?_append_right (by simp [hHead_length, be_length]; omega)]
  simp [hHead_length, be_length]
  have : s - 1 - (56 + (4 + (s - 68 + 7))) = 0 := by omega
  rw [this]
  rfl
end Go.Proofs.YtelglbblgkhcmaaGreat
namespace Go.Proofs.YtelglbblgkhcmaaGreat
open Go.RowKit Go.Deep

theorem CS.past {n m i : Nat} {w0 w : World} {F : World → Prop} {L : Nat → Bool} (h : CS n m w0 F L w) (hn : L n = true) : CS n m w0 F (fun k => k == i || L k) w := ⟨fun e => by simp [hn] at e, fun _ => ⟨by simp [(h.2 hn).1], (h.2 hn).2⟩⟩
theorem RowAt.sub {w : World} {g o : Nat} {b : List UInt8} (h : RowAt w (some ⟨g, o, none⟩) (b.map byteV)) (k m : Nat) : RowAt w (some ⟨g, o + k, none⟩) (((b.drop k).take m).map byteV) := fun hn => by
  have hb : b.map byteV ≠ [] := by
    intro e
    have : b = [] := by simpa using e
    subst this
    simp at hn
  obtain ⟨b', o', e, hc⟩ := h hb
  injection e with e
  injection e with e1 e2
  subst e1 e2
  refine ⟨g, o + k, rfl, fun j u hu => ?_⟩
  rw [Nat.add_assoc]
  refine hc (k + j) u ?_
  rw [List.map_take, List.map_drop, List.getElem?_take] at hu
  split at hu
  · rwa [List.getElem?_drop] at hu
  · cases hu
def zeroH : Hdr := ⟨0, 0, 0, 0⟩
/-- What parse answers. -/
def ParseE (b : List UInt8) (n s : Nat) (e : Ending) : Prop := ∃ h : Hdr, e = .returned (.tuple #[.agg h.cells, .bool (parseF b n s).isSome]) ∧ ∀ x, parseF b n s = some x → x = h
theorem ParseE.none_ {b : List UInt8} {n s : Nat} {e : Ending} (hp : parseF b n s = none) (he : e = .returned (.tuple #[.agg zeroH.cells, .bool false])) : ParseE b n s e :=
  ⟨zeroH, by rw [he, hp]; rfl, fun x hx => by rw [hp] at hx; cases hx⟩
theorem getF_lt (b : List UInt8) (k : Nat) : getF b k < 18446744073709551616 := by
  have h := getN_lt ((b.drop k).take 8)
  have : 256 ^ ((b.drop k).take 8).length ≤ 256 ^ 8 := Nat.pow_le_pow_right (by omega) (by simp; omega)
  unfold getF
  omega
theorem getF_any (w : World) (g k c : Nat) (b : List UInt8) (hb : RowAt w (some ⟨g, 0, none⟩) (b.map byteV)) (hk : k + 8 ≤ b.length) :
    Calls Tryz.prog 99 #[.slice (some ⟨g, k, none⟩) 8 c] w fun e w' => e = .returned (.int .u64 (getF b k)) ∧ w' = w := by
  have := hb.sub k 8
  rw [Nat.zero_add] at this
  exact get_any w _ 8 c ((b.drop k).take 8) (by simp; omega) (by omega) this

set_option maxRecDepth 100000 in
set_option maxHeartbeats 4000000 in
theorem parse_any (w : World) (gb c n s : Nat) (b : List UInt8) (h1 : 16 ≤ n) (h2 : n ≤ 4096) (h3 : 128 ≤ s) (h4 : s ≤ 4096) (hl : b.length = s) (hcs : s ≤ c) (hb : RowAt w (some ⟨gb, 0, none⟩) (b.map byteV)) :
    Calls Tryz.prog 70 #[.slice (some ⟨gb, 0, none⟩) s c, shV n s] w fun e w' => ParseE b n s e ∧ Below w.heap.size w w' := by
  unfold shV
  have hb0 := below_new w (.cells #[.int .i64 n, .int .i64 s] 139)
  have hb1 := below_new (w.alloc (.cells #[.int .i64 n, .int .i64 s] 139)) (.cells zeroH.cells 100)
  have hS0 := (Holds.new w 139 #[.int .i64 n, .int .i64 s]).below hb1 (by simp)
  have hZ0 := Holds.new (w.alloc (.cells #[.int .i64 n, .int .i64 s] 139)) 100 zeroH.cells
  have hs0 : (w.alloc (.cells #[.int .i64 n, .int .i64 s] 139)).heap.size = w.heap.size + 1 := by simp
  rw [hs0] at hZ0
  have hB0 := hb0.trans (hb1.mono hb0.size)
  have hr0 := hb.below hB0
  have n8 : ¬ c = 8 := by omega
  have n32 : ¬ c = 32 := by omega
  have n40 : ¬ c = 40 := by omega
  have n48 : ¬ c = 48 := by omega
  have b16 : (16 : Int) ≤ (c : Int) := by omega
  have b40 : (40 : Int) ≤ (c : Int) := by omega
  have b48 : (48 : Int) ≤ (c : Int) := by omega
  have b56 : (56 : Int) ≤ (c : Int) := by omega
  unfold zeroH Hdr.cells at hB0 hr0 hZ0 hS0
  clear hb0 hb1 hs0
  go_enter Tryz.func70, Tryz.ntmps70
  go_wp2_with fail
  obtain ⟨g, hg⟩ : ∃ g, g = w.heap.size := ⟨_, rfl⟩
  have hB1 := Lib.hid hB0
  have hr1 := Lib.hid hr0
  have hg1 := Lib.hid hg
  rw [← hg] at hS0 hZ0 ⊢
  have hS1 := Lib.hid hS0
  have hZ1 := Lib.hid hZ0
  clear hB0 hr0 hg hS0 hZ0 hb
  generalize (w.alloc (.cells #[.int .i64 n, .int .i64 s] 139)).alloc (.cells #[.int .u64 (0 : Nat), .int .i64 (0 : Nat), .int .i64 (0 : Nat), .int .i64 (0 : Nat)] 100) = wr at hB1 hr1 hS1 hZ1 ⊢
  have hc0 := getF_any wr gb 8 (c - 8) b hr1.out (by omega)
  have hc1 := getF_any wr gb 32 (c - 32) b hr1.out (by omega)
  have hc2 := getF_any wr gb 40 (c - 40) b hr1.out (by omega)
  have hc3 := getF_any wr gb 48 (c - 48) b hr1.out (by omega)
  have hL0 := getF_lt b 8
  have hL1 := getF_lt b 32
  have hL2 := getF_lt b 40
  have hL3 := getF_lt b 48
  have hF : Hid (fieldsF b = ⟨getF b 8, getF b 32, getF b 40, getF b 48⟩) := Lib.hid rfl
  generalize getF b 8 = x0 at *
  generalize getF b 32 = x1 at *
  generalize getF b 40 = x2 at *
  generalize getF b 48 = x3 at *
  refine hc0.mono ?_
  clear hc0
  rintro e w2 ⟨rfl, rfl⟩
  go_wp2_with fail
  refine hc1.mono ?_
  clear hc1
  rintro e w3 ⟨rfl, rfl⟩
  go_wp2_with fail
  refine hc2.mono ?_
  clear hc2
  rintro e w4 ⟨rfl, rfl⟩
  go_wp2_with fail
  refine hc3.mono ?_
  clear hc3
  rintro e wr ⟨rfl, rfl⟩
  have hnone : Hid (¬ (fieldsF b).ok n s → parseF b n s = none) := Lib.hid (fun h => by unfold parseF; rw [if_neg (fun x => h x.1)])
  have hzero : Hid (∀ w2, Holds w2 (g + 1) 100 zeroH.cells → Below w.heap.size w w2 → ¬ (fieldsF b).ok n s → ParseE b n s (.returned (.tuple #[.agg zeroH.cells, .bool false])) ∧ Below w.heap.size w w2) := Lib.hid (fun w2 h1 h2 h3 => ⟨.none_ (hnone.out h3) rfl, h2⟩)
  have hrow : Hid (∀ cs, Below w.heap.size w (wr.setRow (g + 1) cs)) := Lib.hid (fun cs => below_row hB1.out (by have := hg1.out; omega) cs)
  by_cases t0 : x0 = 0
  · subst t0
    have hno : Hid (¬ (fieldsF b).ok n s) := Lib.hid (fun h => by have := h.s0; rw [hF.out] at this; simp at this)
    go_wp2_with
      (refine wpList_store_row rfl 100 (.tmp 4) (.tmp 33) rfl (g + 1) #[.int .u64 0, .int .i64 0, .int .i64 0, .int .i64 0] rfl rfl 100 _ hZ1.out Tryz.sHeader rfl (by kernel_rfl) ?_)
    have hfin := Lib.hid (hzero.out _ (hZ1.out.row _) (hrow.out _) hno.out)
    refine ret_cell2 rfl rfl rfl (hZ1.out.row _) Tryz.underlying100 Tryz.sHeader ?_
    exact hfin.out
  have q0 : ((x0 : Int) == 0) = false := by simp; omega
  by_cases t1 : 4611686018427387904 < x0
  · have hno : Hid (¬ (fieldsF b).ok n s) := Lib.hid (fun h => by have := h.s1; rw [hF.out] at this; simp at this; omega)
    go_wp2_with
      (refine wpList_store_row rfl 100 (.tmp 4) (.tmp 33) rfl (g + 1) #[.int .u64 0, .int .i64 0, .int .i64 0, .int .i64 0] rfl rfl 100 _ hZ1.out Tryz.sHeader rfl (by kernel_rfl) ?_)
    have hfin := Lib.hid (hzero.out _ (hZ1.out.row _) (hrow.out _) hno.out)
    refine ret_cell2 rfl rfl rfl (hZ1.out.row _) Tryz.underlying100 Tryz.sHeader ?_
    exact hfin.out
  by_cases t2 : 1 < x1
  · have hno : Hid (¬ (fieldsF b).ok n s) := Lib.hid (fun h => by have := h.a1; rw [hF.out] at this; simp at this; omega)
    go_wp2_with
      (refine wpList_store_row rfl 100 (.tmp 4) (.tmp 33) rfl (g + 1) #[.int .u64 0, .int .i64 0, .int .i64 0, .int .i64 0] rfl rfl 100 _ hZ1.out Tryz.sHeader rfl (by kernel_rfl) ?_)
    have hfin := Lib.hid (hzero.out _ (hZ1.out.row _) (hrow.out _) hno.out)
    refine ret_cell2 rfl rfl rfl (hZ1.out.row _) Tryz.underlying100 Tryz.sHeader ?_
    exact hfin.out
  have har := area_any wr n s h1 h2 h4
  have hal := half_le n h2
  have hm : half n * s ≤ 2047 * 4096 := Nat.mul_le_mul hal h4
  obtain ⟨M, hM⟩ : ∃ M, M = half n * s := ⟨_, rfl⟩
  rw [← hM] at har hm
  have hM1 := Lib.hid hM
  clear hM hal
  have s0 := hS1.out.cell 0
  have s1 := hS1.out.cell 1
  go_wp2_with fail
  refine har.mono ?_
  clear har
  rintro e w5 ⟨rfl, hb5⟩
  have hZ5 := Lib.hid (hZ1.out.below hb5 hZ1.out.lt)
  have hS5 := Lib.hid (hS1.out.below hb5 hS1.out.lt)
  have hB5 := Lib.hid (hB1.out.trans (hb5.mono hB1.out.size))
  have hr5 := Lib.hid (hr1.out.below hb5)
  have hrow5 : Hid (∀ cs, Below w.heap.size w (w5.setRow (g + 1) cs)) := Lib.hid (fun cs => below_row hB5.out (by have := hg1.out; omega) cs)
  clear hrow hZ1 hS1 hB1 hr1 hb5 s0 s1
  by_cases t3 : M < x2
  · have hno : Hid (¬ (fieldsF b).ok n s) := Lib.hid (fun h => by have := h.u1; rw [hF.out, ← hM1.out] at this; simp at this; omega)
    go_wp2_with
      (refine wpList_store_row rfl 100 (.tmp 4) (.tmp 45) rfl (g + 1) #[.int .u64 0, .int .i64 0, .int .i64 0, .int .i64 0] rfl rfl 100 _ hZ5.out Tryz.sHeader rfl (by kernel_rfl) ?_)
    have hfin := Lib.hid (hzero.out _ (hZ5.out.row _) (hrow5.out _) hno.out)
    refine ret_cell2 rfl rfl rfl (hZ5.out.row _) Tryz.underlying100 Tryz.sHeader ?_
    exact hfin.out
  by_cases t4 : x2 / 8 < x3
  · have hno : Hid (¬ (fieldsF b).ok n s) := Lib.hid (fun h => by have := h.c1; rw [hF.out] at this; simp at this; omega)
    go_wp2_with
      (refine wpList_store_row rfl 100 (.tmp 4) (.tmp 45) rfl (g + 1) #[.int .u64 0, .int .i64 0, .int .i64 0, .int .i64 0] rfl rfl 100 _ hZ5.out Tryz.sHeader rfl (by kernel_rfl) ?_)
    have hfin := Lib.hid (hzero.out _ (hZ5.out.row _) (hrow5.out _) hno.out)
    refine ret_cell2 rfl rfl rfl (hZ5.out.row _) Tryz.underlying100 Tryz.sHeader ?_
    exact hfin.out
  have hok : Hid ((fieldsF b).ok n s) := Lib.hid (by rw [hF.out]; exact ⟨by show 0 < x0; omega, by show x0 ≤ _; omega, by show x1 ≤ 1; omega, by show x2 ≤ _; rw [← hM1.out]; omega, by show x3 ≤ x2 / 8; omega⟩)
  go_wp2_with fail
  have hbn := below_new w5 (.cells #[.int .u64 x0, .int .i64 x1, .int .i64 x2, .int .i64 x3] 100)
  have hHn := Holds.new w5 100 #[.int .u64 x0, .int .i64 x1, .int .i64 x2, .int .i64 x3]
  obtain ⟨g2, hg2⟩ : ∃ g, g = w5.heap.size := ⟨_, rfl⟩
  have hZ6 := Lib.hid (hZ5.out.below hbn hZ5.out.lt)
  have hS6 := Lib.hid (hS5.out.below hbn hS5.out.lt)
  have hB6 := Lib.hid (hB5.out.trans (hbn.mono hB5.out.size))
  have hr6 := Lib.hid (hr5.out.below hbn)
  rw [← hg2] at hHn ⊢
  have hH := Lib.hid hHn
  clear hHn hbn hg2 hZ5 hS5 hB5 hr5 hrow5 hzero hnone
  generalize w5.alloc (.cells #[.int .u64 x0, .int .i64 x1, .int .i64 x2, .int .i64 x3] 100) = wr at hZ6 hS6 hB6 hr6 hH ⊢
  -- THE REGION THAT DRAWS ITS ORDER, BY ONE LEXICAL WALK OVER GENERIC VALUES (written by relgen.py)
  refine wp_region_tabL ((fun _ _ v => v = .agg #[.int .u64 x0, .int .i64 x1, .int .i64 x2, .int .i64 x3]) ::
    (fun _ _ v => v = .slice (some ⟨gb, 0, none⟩) s c) ::
    (fun _ _ v => v = .agg #[.int .u64 x0, .int .i64 x1, .int .i64 x2, .int .i64 x3]) ::
    (fun _ _ v => v = .agg #[.int .i64 n, .int .i64 s]) ::
    (fun L w v => Till 6 (fun w v => ∃ A c', v = .slice A s c' ∧ RowAt w A ((hbytes ⟨x0, x1, x2, x3⟩ n s).map byteV)) L w v) ::
    (fun _ _ v => v = .bool (decide (b = hbytes ⟨x0, x1, x2, x3⟩ n s))) ::
    (fun _ _ _ => True) ::
    (fun _ _ v => v = .bool (decide (b = hbytes ⟨x0, x1, x2, x3⟩ n s))) :: [])
    (⟨[(10, none)], 0, [6]⟩ :: ⟨[(0, none)], 0, [6]⟩ :: ⟨[(10, none)], 0, [6]⟩ :: ⟨[(3, none)], 0, [6]⟩ :: ⟨[(56, some 2), (57, some 3)], 0, [6]⟩ :: ⟨[(55, some 1), (58, some 4)], 0, [6]⟩ :: ⟨[(4, none), (54, some 0)], 0, []⟩ :: ⟨[(59, some 5)], 0, []⟩ :: [])
    (none :: none :: none :: none :: none :: some 7 :: none :: none :: none :: none :: none :: none :: none :: none :: none :: none :: none :: none :: none :: none :: none :: none :: none :: none :: none :: none :: none :: none :: none :: none :: none :: none :: none :: none :: none :: none :: none :: none :: none :: none :: none :: none :: none :: none :: none :: none :: none :: none :: none :: none :: none :: none :: none :: none :: some 0 :: some 1 :: some 2 :: some 3 :: some 4 :: some 5 :: [])
    (fun L w' => CS 6 5 wr (fun w' => Holds w' (g + 1) 100 #[.int .u64 x0, .int .i64 x1, .int .i64 x2, .int .i64 x3] ∧ Writes [some (g + 1)] wr w') L w') (fun i w w' => i ≠ 6 → Below w.heap.size w w') ?mixK10parse10 ?okK10parse10 ?tabK10parse10 ?frK10parse10 ?inK10parse10 ?keptK10parse10 ?startK10parse10 ?eachK10parse10 ?finK10parse10
  case mixK10parse10 => kernel_rfl
  case okK10parse10 => kernel_rfl
  case tabK10parse10 => kernel_rfl
  case frK10parse10 => kernel_rfl
  case inK10parse10 => rfl
  case keptK10parse10 => exact ⟨fun _ _ _ _ _ _ _ _ _ _ _ h => h, fun _ _ _ _ _ _ _ _ _ _ _ h => h, fun _ _ _ _ _ _ _ _ _ _ _ h => h, fun _ _ _ _ _ _ _ _ _ _ _ h => h, fun i hne hrd L w w' v hLi hC hC' hG h => Till.keepN h hne (fun _ h2 => hG h2) (fun hb ⟨A, c', e, h⟩ => ⟨A, c', e, h.below hb⟩), fun _ _ _ _ _ _ _ _ _ _ _ h => h, fun _ _ _ _ _ _ _ _ _ _ _ h => h, fun _ _ _ _ _ _ _ _ _ _ _ h => h, trivial⟩
  case startK10parse10 => exact ⟨fun _ => (Below.refl _ _).drew, fun e => by simp at e⟩
  case eachK10parse10 =>
    refine ⟨?_, ?_, ?_, ?_, ?_, ?_, ?_, ?_, trivial⟩
    -- 0: slot 54 := load 100 t10
    · intro w L f hC hLi hLd hLn hF
      obtain ⟨d10, _⟩ := hF
      have d10 : f 10 = .pointer (some ⟨g2, 0, none⟩) := d10
      refine Step2.live rfl ?_
      have hw := hC.bel (hLn 6 (by simp))
      have hh := hH.out.below hw hH.out.lt
      have c0 := hh.cell 0
      have c1 := hh.cell 1
      have c2 := hh.cell 2
      have c3 := hh.cell 3
      have ev : ∀ t, evalOf f (.tmp t) = f t := fun _ => rfl
      have ec : ∀ c, evalOf f (.const c) = c := fun _ => rfl
      have ef : ∀ g, evalOf f (.func g) = .func (.func g) #[] #[] := fun _ => rfl
      refine relUpon_value ?_ (hC.go (i := 0) (hLn 6 (by simp)) (by decide) (Below.refl _ _)) (fun _ => Below.refl _ _) rfl
      go_simp
    -- 1: slot 55 := move t0
    · intro w L f hC hLi hLd hLn hF
      obtain ⟨d0, _⟩ := hF
      have d0 : f 0 = .slice (some ⟨gb, 0, none⟩) s c := d0
      refine Step2.live rfl ?_
      exact relUpon_value (v := f 0) rfl (hC.go (i := 1) (hLn 6 (by simp)) (by decide) (Below.refl _ _)) (fun _ => Below.refl _ _) d0
    -- 2: slot 56 := load 100 t10
    · intro w L f hC hLi hLd hLn hF
      obtain ⟨d10, _⟩ := hF
      have d10 : f 10 = .pointer (some ⟨g2, 0, none⟩) := d10
      refine Step2.live rfl ?_
      have hw := hC.bel (hLn 6 (by simp))
      have hh := hH.out.below hw hH.out.lt
      have c0 := hh.cell 0
      have c1 := hh.cell 1
      have c2 := hh.cell 2
      have c3 := hh.cell 3
      have ev : ∀ t, evalOf f (.tmp t) = f t := fun _ => rfl
      have ec : ∀ c, evalOf f (.const c) = c := fun _ => rfl
      have ef : ∀ g, evalOf f (.func g) = .func (.func g) #[] #[] := fun _ => rfl
      refine relUpon_value ?_ (hC.go (i := 2) (hLn 6 (by simp)) (by decide) (Below.refl _ _)) (fun _ => Below.refl _ _) rfl
      go_simp
    -- 3: slot 57 := load 139 t3
    · intro w L f hC hLi hLd hLn hF
      obtain ⟨d3, _⟩ := hF
      have d3 : f 3 = .pointer (some ⟨g, 0, none⟩) := d3
      refine Step2.live rfl ?_
      have hw := hC.bel (hLn 6 (by simp))
      have hh := hS6.out.below hw hS6.out.lt
      have c0 := hh.cell 0
      have c1 := hh.cell 1
      have ev : ∀ t, evalOf f (.tmp t) = f t := fun _ => rfl
      have ec : ∀ c, evalOf f (.const c) = c := fun _ => rfl
      have ef : ∀ g, evalOf f (.func g) = .func (.func g) #[] #[] := fun _ => rfl
      refine relUpon_value ?_ (hC.go (i := 3) (hLn 6 (by simp)) (by decide) (Below.refl _ _)) (fun _ => Below.refl _ _) rfl
      go_simp
    -- 4: slot 58 := call { value (Operand.func 102), args := #[t56, t57], argTypes := #[100, 139] }
    · intro w L f hC hLi hLd hLn hF
      obtain ⟨d56, d57, _⟩ := hF
      have d56 : f 56 = .agg #[.int .u64 x0, .int .i64 x1, .int .i64 x2, .int .i64 x3] := d56
      have d57 : f 57 = .agg #[.int .i64 n, .int .i64 s] := d57
      refine Step2.live rfl ?_
      have ev : ∀ t, evalOf f (.tmp t) = f t := fun _ => rfl
      have ec : ∀ c, evalOf f (.const c) = c := fun _ => rfl
      have ef : ∀ g, evalOf f (.func g) = .func (.func g) #[] #[] := fun _ => rfl
      refine relUpon_call (f := 102) (args := #[.agg #[.int .u64 x0, .int .i64 x1, .int .i64 x2, .int .i64 x3], .agg #[.int .i64 n, .int .i64 s]]) (w := w) (by go_simp) (hbytes_any w ⟨x0, x1, x2, x3⟩ n s h1 h2 h3 h4 hL0 (by show x1 ≤ _; omega) (by show x2 ≤ _; omega) (by show x3 ≤ _; omega)) ?_
      rintro e w1 ⟨⟨v, he, hv⟩, hB⟩
      obtain ⟨A, c', e2, hr, _⟩ := own_row hv
      rw [hbytes_length _ n s h3] at e2
      exact ⟨v, he, hC.go (i := 4) (hLn 6 (by simp)) (by decide) hB, fun _ => hB, fun _ => ⟨A, c', e2, hr.rowAt⟩⟩
    -- 5: slot 59 := call { value (Operand.func 101), args := #[t55, t58], argTypes := #[37, 37] }
    · intro w L f hC hLi hLd hLn hF
      obtain ⟨d55, d58, _⟩ := hF
      have d55 : f 55 = .slice (some ⟨gb, 0, none⟩) s c := d55
      refine Step2.live rfl ?_
      have hw := hC.bel (hLn 6 (by simp))
      obtain ⟨A, c', e2, hr⟩ := d58 (hLn 6 (by simp))
      have ev : ∀ t, evalOf f (.tmp t) = f t := fun _ => rfl
      have ec : ∀ c, evalOf f (.const c) = c := fun _ => rfl
      have ef : ∀ g, evalOf f (.func g) = .func (.func g) #[] #[] := fun _ => rfl
      refine relUpon_call (f := 101) (args := #[.slice (some ⟨gb, 0, none⟩) s c, .slice A s c']) (w := w) (by go_simp) (equal_any w _ A s c s c' b (hbytes ⟨x0, x1, x2, x3⟩ n s) hl (hbytes_length _ n s h3) (by omega) (by omega) (hr6.out.below hw) hr) ?_
      rintro e w1 ⟨he, hB⟩
      exact ⟨_, he, hC.go (i := 5) (hLn 6 (by simp)) (by decide) hB, fun _ => hB, rfl⟩
    -- 6: slot None := store 100 t4 t54
    · intro w L f hC hLi hLd hLn hF
      obtain ⟨d4, d54, _⟩ := hF
      have d4 : f 4 = .pointer (some ⟨g + 1, 0, none⟩) := d4
      have d54 : f 54 = .agg #[.int .u64 x0, .int .i64 x1, .int .i64 x2, .int .i64 x3] := d54
      refine Step2.live rfl ?_
      have hw := hC.bel hLi
      have hz := hZ6.out.below hw hZ6.out.lt
      have c0 := hz.cell 0
      have z0 := hz.frozen 0
      have c1 := hz.cell 1
      have z1 := hz.frozen 1
      have c2 := hz.cell 2
      have z2 := hz.frozen 2
      have c3 := hz.cell 3
      have z3 := hz.frozen 3
      have ev : ∀ t, evalOf f (.tmp t) = f t := fun _ => rfl
      have ec : ∀ c, evalOf f (.const c) = c := fun _ => rfl
      have ef : ∀ g, evalOf f (.func g) = .func (.func g) #[] #[] := fun _ => rfl
      refine relUpon_skip (w' := ((((w.setCell ⟨g + 1, 0, none⟩ (.int .u64 x0)).setCell ⟨g + 1, 1, none⟩ (.int .i64 x1)).setCell ⟨g + 1, 2, none⟩ (.int .i64 x2)).setCell ⟨g + 1, 3, none⟩ (.int .i64 x3))) ?_ (CS.last (hLd 5 (by decide)) ⟨(((hz.store 0 _).store 1 _).store 2 _).store 3 _, (Writes.of_below hw _).trans ((Writes.store w (p := ⟨g + 1, 0, none⟩) (by simp) _).trans ((Writes.store _ (p := ⟨g + 1, 1, none⟩) (by simp) _).trans ((Writes.store _ (p := ⟨g + 1, 2, none⟩) (by simp) _).trans (Writes.store _ (p := ⟨g + 1, 3, none⟩) (by simp) _))))⟩) (fun h => absurd rfl h) trivial
      go_simp
    -- 7: slot 5 := assign t59
    · intro w L f hC hLi hLd hLn hF
      obtain ⟨d59, _⟩ := hF
      have d59 : f 59 = .bool (decide (b = hbytes ⟨x0, x1, x2, x3⟩ n s)) := d59
      refine Step2.live rfl ?_
      exact relUpon_value (v := f 59) rfl (CS.past hC (hLd 6 (by decide))) (fun _ => Below.refl _ _) d59
  intro x w' hC hV

  obtain ⟨hH2, hW⟩ := (hC.2 rfl).2
  have e5 := hV 7 _ rfl rfl
  clear hV
  simp only [framed]
  rw [e5]
  clear e5
  have hfin : Hid (Below w.heap.size w w') := Lib.hid (hB6.out.trans (hW.below hB6.out.size (fun k hk => by simp at hk; have := hg1.out; omega)))
  go_wp2_with fail
  refine ret_cell2 rfl rfl rfl hH2 Tryz.underlying100 Tryz.sHeader ?_
  refine ⟨⟨⟨x0, x1, x2, x3⟩, ?_, ?_⟩, hfin.out⟩
  · by_cases e : b = hbytes ⟨x0, x1, x2, x3⟩ n s
    · have : parseF b n s = some ⟨x0, x1, x2, x3⟩ := by
        unfold parseF
        rw [hF.out] at hok ⊢
        rw [if_pos ⟨hok.out, e⟩]
      rw [this, decide_eq_true e]
      rfl
    · have : parseF b n s = none := by
        unfold parseF
        rw [hF.out, if_neg (fun h => e h.2)]
      rw [this, decide_eq_false e]
      rfl
  · intro x hx
    unfold parseF at hx
    rw [hF.out] at hx
    split at hx
    · injection hx with hx
      exact hx.symm
    · cases hx
end Go.Proofs.YtelglbblgkhcmaaGreat
