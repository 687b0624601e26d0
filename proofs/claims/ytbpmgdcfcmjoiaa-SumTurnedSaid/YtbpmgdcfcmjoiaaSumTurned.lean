/-
  The walk of SumTurned.
-/
import Derived.Test.YtbpmgdcfcmjoiaaSumG
import Derived.Test.YtbpmgdcfcmjoiaaArg
import Derived.Test.YtbpmgdcfcmjoiaaOwn
import Derived.Test.YtbpmgdcfcmjoiaaSumU
namespace Go.Proofs.Ytbpmgdcfcmjoiaa
open Go.RowKit

theorem own_form {w : World} {base : Nat} {e : TypeId} {size : Nat} {v : Value} {n : Nat} {xs : List Value} (h : w.ownsRow base e size v n xs) (hn : 0 < n) : ∃ g cap, v = .slice (some ⟨g, 0, none⟩) n cap ∧ base ≤ g := by
  rcases h.2 with ⟨_, h0⟩ | ⟨g, cap, cur, hv, hg, _⟩
  · omega
  · exact ⟨g, cap, hv, hg⟩
theorem rem_place (i n p : Nat) (h : p = i % (8 * n)) : (i : Int).tmod (8 * (n : Int)) = (p : Int) := by
  rw [Int.tmod_eq_emod_of_nonneg (by omega), h]
  simp
theorem pow_u8 (p : Nat) : IntKind.u8.wrap (2 ^ ((p : Int) % 8).toNat) = 2 ^ (p % 8) := by
  rw [show ((p : Int) % 8).toNat = p % 8 by omega]
  have h : p % 8 < 8 := by omega
  generalize p % 8 = s at *
  match s, h with
  | 0, _ => decide
  | 1, _ => decide
  | 2, _ => decide
  | 3, _ => decide
  | 4, _ => decide
  | 5, _ => decide
  | 6, _ => decide
  | 7, _ => decide
theorem xor_turn (b : UInt8) (s : Nat) (hs : s < 8) : bits .xor .u8 (b.toNat : Int) ((2 ^ s : Nat) : Int) = ((turnB b s).toNat : Int) := by
  rw [turnB_toNat b s hs]
  have h1 := b.toNat_lt
  have h2 : 2 ^ s < 2 ^ 8 := Nat.pow_lt_pow_right (by omega) hs
  exact u8_xor_nat _ _ h1 h2
theorem xor_turn' (b : UInt8) (s : Nat) (hs : s < 8) : bits .xor .u8 (b.toNat : Int) ((2 : Int) ^ s) = ((turnB b s).toNat : Int) := by
  have h := xor_turn b s hs
  rw [show ((2 ^ s : Nat) : Int) = (2 : Int) ^ s by simp] at h
  exact h
theorem own_bytes {w : World} {B g n cap : Nat} {e : TypeId} {l : List UInt8} (h : w.ownsRow B e 1 (.slice (some ⟨g, 0, none⟩) n cap) n (l.map byteV)) : Bytes w w.heap.size (some ⟨g, 0, none⟩) l := by
  obtain ⟨A, c, hv, hr, _, _⟩ := own_row h
  injection hv with hv
  subst hv
  exact hr
theorem strV_toList (l : List UInt8) : (strV l).toList = l := ByteArray.toList_mk l
theorem own_byte {w : World} {B g n cap : Nat} {e : TypeId} {l : List UInt8} (h : w.ownsRow B e 1 (.slice (some ⟨g, 0, none⟩) n cap) n (l.map byteV)) (j : Nat) (hj : j < n) : w.cell? ⟨g, j, none⟩ = some (.int .u8 ((l.getD j 0).toNat : Int)) := by
  have hl : l.length = n := by have := h.1; simpa using this
  rw [h.cellAt j (by omega)]
  simp [byteV, hl, hj]
theorem turn_cells (l : List UInt8) (p : Nat) : (l.map byteV).set (p / 8) (byteV (turnB (l.getD (p / 8) 0) (p % 8))) = (turn l p).map byteV := by
  unfold turn
  rw [List.map_set]
theorem Try.infoByte : (Try.prog.info? 5).map (fun i => (i.zero, i.size, i.bytes)) = some (some (.int .u8 0), 1, 1) := by kernel_rfl

set_option maxHeartbeats 2000000 in
theorem turned_any (w : World) (A : Option Addr) (c : Nat) (l : List UInt8) (i j k : Nat) (hi : i < 65536) (hj : j < 65536) (hk : k < 65536) (hl : Bytes w w.heap.size A l) :
    Calls Try.prog 5 #[.slice A l.length c, .int .u16 i, .int .u16 j, .int .u16 k] w fun e w' => e = .returned (.bool true) ∧ Below w.heap.size w w' := by
  obtain ⟨iA, hiA, hzA0, hzA1, hzA2⟩ := info_parts Try.infoByte
  go_enter Try.func5, Try.ntmps5
  go_wp2_with fail
  refine (known_any _).mono ?_
  rintro e w1 ⟨rfl, hb1⟩
  have hl1 := Lib.hid (hl.up hb1)
  clear hl
  by_cases h0 : l.length = 0
  · have hz : ((l.length : Int) == 0) = true := by rw [h0]; rfl
    clear h0
    go_wp2
    go_ret
    exact ⟨rfl, hb1⟩
  by_cases hbig : l.length ≤ 500
  · have hz : ((l.length : Int) == 0) = false := by rw [beq_eq_false_iff_ne]; omega
    obtain ⟨B, hB⟩ : ∃ B, B = w1.heap.size := ⟨_, rfl⟩
    have hl1 := Lib.hid (show Bytes w1 B A l by rw [hB]; exact hl1.out)
    have hBr : B ≤ w1.heap.size := by omega
    have hB := Lib.hid hB
    have h00 : 0 < l.length := by omega
    go_wp2_with (at_builtin
                 refine wpList_append_row _ rfl (.const (.slice none 0 0)) (.tmp 21) 33 rfl B 5 iA (.int .u8 0) 1 Try.underlying33 hiA hzA0 hzA1 hzA2 rfl (.slice none 0 0) 0 [] rfl (World.ownsRow_nil _ _ _ _) B A l.length c (l.map byteV) rfl (by simp) hl1.out (by intro u hu; obtain ⟨x, _, rfl⟩ := List.mem_map.1 hu; rfl) (by unfold maxLen; omega) (by omega) hBr ?_
                 intro v2 w2 hown hg2 _
                 rw [Nat.zero_add, List.nil_append] at hown
                 have hbr : Below B w1 w2 := (Below.refl _ _).grown hg2 hBr (fun q hq => by simp [Value.ownBlock] at hq)
                 have hBr2 : B ≤ w2.heap.size := Nat.le_trans hBr hg2.size
                 have hff := own_form hown h00
                 obtain ⟨g, cap, hv, hgB⟩ := hff
                 subst hv
                 clear hg2 hBr)
    have hBr := hBr2
    clear hBr2
    obtain ⟨p, hp⟩ : ∃ p, p = i % (8 * l.length) := ⟨_, rfl⟩
    obtain ⟨q, hq⟩ : ∃ q, q = j % (8 * l.length) := ⟨_, rfl⟩
    obtain ⟨r, hr⟩ : ∃ r, r = k % (8 * l.length) := ⟨_, rfl⟩
    have hp8 : p < 8 * l.length := by rw [hp]; exact Nat.mod_lt _ (by omega)
    have hq8 : q < 8 * l.length := by rw [hq]; exact Nat.mod_lt _ (by omega)
    have hr8 : r < 8 * l.length := by rw [hr]; exact Nat.mod_lt _ (by omega)
    have hz1 := Lib.hid (show ¬ 8 * (l.length : Int) = 0 by omega)
    have hrem_p := Lib.hid (rem_place i l.length p hp)
    have hrem_q := Lib.hid (rem_place j l.length q hq)
    have hrem_r := Lib.hid (rem_place k l.length r hr)
    clear hp hq hr
    have hwi : IntKind.i64.wrap (i : Int) = i := IntWalk.i64_in _ (by omega)
    have hwj : IntKind.i64.wrap (j : Int) = j := IntWalk.i64_in _ (by omega)
    have hwk : IntKind.i64.wrap (k : Int) = k := IntWalk.i64_in _ (by omega)
    have hlI : (0 : Int) < 8 * (l.length : Int) := by omega
    -- THE REGION THAT DRAWS ITS ORDER, BY ONE LEXICAL WALK OVER GENERIC VALUES (written by relgen.py)
    refine wp_region_tab ((fun _ v => v = .slice (some ⟨g, 0, none⟩) l.length cap) ::
      (fun _ v => v = .int .u16 i) ::
      (fun _ v => v = .int .i64 (i : Nat)) ::
      (fun _ v => v = .int .i64 (8 * (l.length : Int))) ::
      (fun _ v => v = .int .i64 (p : Nat)) ::
      (fun _ v => v = .int .i64 ((p / 8 : Nat) : Int)) ::
      (fun _ v => v = .pointer (some ⟨g, p / 8, none⟩)) ::
      (fun _ v => v = .int .u8 ((l.getD (p / 8) 0).toNat : Int)) ::
      (fun _ v => v = .int .u16 i) ::
      (fun _ v => v = .int .i64 (i : Nat)) ::
      (fun _ v => v = .int .i64 (8 * (l.length : Int))) ::
      (fun _ v => v = .int .i64 (p : Nat)) ::
      (fun _ v => v = .int .i64 ((p % 8 : Nat) : Int)) ::
      (fun _ v => v = .int .u8 ((2 ^ (p % 8) : Nat) : Int)) ::
      (fun _ v => v = .int .u8 ((turnB (l.getD (p / 8) 0) (p % 8)).toNat : Int)) ::
      (fun _ v => v = .pointer (some ⟨g, p / 8, none⟩)) ::
      (fun _ _ => True) :: [])
      (⟨[(9, none)], 0, []⟩ :: ⟨[(1, none)], 0, []⟩ :: ⟨[(27, some 1)], 0, []⟩ :: ⟨[(10, none)], 0, []⟩ :: ⟨[(28, some 2), (29, some 3)], 0, []⟩ :: ⟨[(30, some 4)], 0, []⟩ :: ⟨[(26, some 0), (31, some 5)], 0, []⟩ :: ⟨[(32, some 6)], 0, [16]⟩ :: ⟨[(1, none)], 0, []⟩ :: ⟨[(34, some 8)], 0, []⟩ :: ⟨[(10, none)], 0, []⟩ :: ⟨[(35, some 9), (36, some 10)], 0, []⟩ :: ⟨[(37, some 11)], 0, []⟩ :: ⟨[(38, some 12)], 0, []⟩ :: ⟨[(33, some 7), (39, some 13)], 0, []⟩ :: ⟨[(26, some 0), (31, some 5)], 0, []⟩ :: ⟨[(41, some 15), (40, some 14)], 0, []⟩ :: [])
      (none :: none :: none :: none :: none :: none :: none :: none :: none :: none :: none :: none :: none :: none :: none :: none :: none :: none :: none :: none :: none :: none :: none :: none :: none :: none :: some 0 :: some 1 :: some 2 :: some 3 :: some 4 :: some 5 :: some 6 :: some 7 :: some 8 :: some 9 :: some 10 :: some 11 :: some 12 :: some 13 :: some 14 :: some 15 :: [])
      (fun L wx => Below B w1 wx ∧ B ≤ wx.heap.size ∧ wx.ownsRow B 5 1 (.slice (some ⟨g, 0, none⟩) l.length cap) l.length ((if L 16 = true then turn l p else l).map byteV)) (fun _ _ _ => True) ?mixK ?okK ?tabK ?frK ?inK ?keptK ?startK ?eachK ?finK
    case mixK => kernel_rfl
    case okK => kernel_rfl
    case tabK => kernel_rfl
    case frK => kernel_rfl
    case inK => rfl
    case keptK => exact ⟨fun _ _ _ _ _ _ _ h => h, fun _ _ _ _ _ _ _ h => h, fun _ _ _ _ _ _ _ h => h, fun _ _ _ _ _ _ _ h => h, fun _ _ _ _ _ _ _ h => h, fun _ _ _ _ _ _ _ h => h, fun _ _ _ _ _ _ _ h => h, fun _ _ _ _ _ _ _ h => h, fun _ _ _ _ _ _ _ h => h, fun _ _ _ _ _ _ _ h => h, fun _ _ _ _ _ _ _ h => h, fun _ _ _ _ _ _ _ h => h, fun _ _ _ _ _ _ _ h => h, fun _ _ _ _ _ _ _ h => h, fun _ _ _ _ _ _ _ h => h, fun _ _ _ _ _ _ _ h => h, fun _ _ _ _ _ _ _ h => h, trivial⟩
    case startK => exact ⟨hbr.drew, hBr, by simpa using hown.drew⟩
    case eachK =>
      refine ⟨?_, ?_, ?_, ?_, ?_, ?_, ?_, ?_, ?_, ?_, ?_, ?_, ?_, ?_, ?_, ?_, ?_, trivial⟩
      -- 0: slot 26 := move t9
      · intro w L f hC hLi hLd hLn hF
        obtain ⟨d9, _⟩ := hF
        have d9 : f 9 = .slice (some ⟨g, 0, none⟩) l.length cap := d9
        refine Step2.live rfl ?_
        exact relUpon_value (v := f 9) rfl (⟨hC.1, hC.2.1, by simpa using hC.2.2⟩) (trivial) d9
      -- 1: slot 27 := move t1
      · intro w L f hC hLi hLd hLn hF
        obtain ⟨d1, _⟩ := hF
        have d1 : f 1 = .int .u16 i := d1
        refine Step2.live rfl ?_
        exact relUpon_value (v := f 1) rfl (⟨hC.1, hC.2.1, by simpa using hC.2.2⟩) (trivial) d1
      -- 2: slot 28 := convert 35 3 t27
      · intro w L f hC hLi hLd hLn hF
        obtain ⟨d27, _⟩ := hF
        have d27 : f 27 = .int .u16 i := d27
        refine Step2.live rfl ?_
        have ev : ∀ t, evalOf f (.tmp t) = f t := fun _ => rfl
        have ec : ∀ c, evalOf f (.const c) = c := fun _ => rfl
        refine relUpon_value ?_ (⟨hC.1, hC.2.1, by simpa using hC.2.2⟩) (trivial) rfl
        go_simp
      -- 3: slot 29 := move t10
      · intro w L f hC hLi hLd hLn hF
        obtain ⟨d10, _⟩ := hF
        have d10 : f 10 = .int .i64 (8 * (l.length : Int)) := d10
        refine Step2.live rfl ?_
        exact relUpon_value (v := f 10) rfl (⟨hC.1, hC.2.1, by simpa using hC.2.2⟩) (trivial) d10
      -- 4: slot 30 := binOp BinOp.rem 3 t28 t29 3
      · intro w L f hC hLi hLd hLn hF
        obtain ⟨d28, d29, _⟩ := hF
        have d28 : f 28 = .int .i64 (i : Nat) := d28
        have d29 : f 29 = .int .i64 (8 * (l.length : Int)) := d29
        refine Step2.live rfl ?_
        have ev : ∀ t, evalOf f (.tmp t) = f t := fun _ => rfl
        have ec : ∀ c, evalOf f (.const c) = c := fun _ => rfl
        have ef : ∀ g, evalOf f (.func g) = .func (.func g) #[] #[] := fun _ => rfl
        refine relUpon_value ?_ (⟨hC.1, hC.2.1, by simpa using hC.2.2⟩) (trivial) (show (_ : Value) = _ from rfl)
        go_simp
        rw [if_neg hz1.out, hrem_p.out]
      -- 5: slot 31 := binOp BinOp.quo 3 t30 (const (8:i64)) 3
      · intro w L f hC hLi hLd hLn hF
        obtain ⟨d30, _⟩ := hF
        have d30 : f 30 = .int .i64 (p : Nat) := d30
        refine Step2.live rfl ?_
        have ev : ∀ t, evalOf f (.tmp t) = f t := fun _ => rfl
        have ec : ∀ c, evalOf f (.const c) = c := fun _ => rfl
        have ef : ∀ g, evalOf f (.func g) = .func (.func g) #[] #[] := fun _ => rfl
        refine relUpon_value ?_ (⟨hC.1, hC.2.1, by simpa using hC.2.2⟩) (trivial) (show (_ : Value) = _ from rfl)
        go_simp
        exact IntWalk.i64_in _ (by omega)
      -- 6: slot 32 := indexAddr 33 t26 t31
      · intro w L f hC hLi hLd hLn hF
        obtain ⟨d26, d31, _⟩ := hF
        have d26 : f 26 = .slice (some ⟨g, 0, none⟩) l.length cap := d26
        have d31 : f 31 = .int .i64 ((p / 8 : Nat) : Int) := d31
        refine Step2.live rfl ?_
        have ev : ∀ t, evalOf f (.tmp t) = f t := fun _ => rfl
        have ec : ∀ c, evalOf f (.const c) = c := fun _ => rfl
        have ef : ∀ g, evalOf f (.func g) = .func (.func g) #[] #[] := fun _ => rfl
        refine relUpon_value ?_ (⟨hC.1, hC.2.1, by simpa using hC.2.2⟩) (trivial) (show (_ : Value) = _ from rfl)
        go_simp
        rw [if_pos ⟨by omega, by omega⟩, show ((p : Int) / 8).toNat = p / 8 by omega]
      -- 7: slot 33 := load 5 t32
      · intro w L f hC hLi hLd hLn hF
        obtain ⟨d32, _⟩ := hF
        have d32 : f 32 = .pointer (some ⟨g, p / 8, none⟩) := d32
        refine Step2.live rfl ?_
        have hown := hC.2.2
        rw [hLn 16 (by simp)] at hown
        simp only [Bool.false_eq_true, if_false] at hown
        have hcell := own_byte hown (p / 8) (by omega)
        clear hown
        have ev : ∀ t, evalOf f (.tmp t) = f t := fun _ => rfl
        have ec : ∀ c, evalOf f (.const c) = c := fun _ => rfl
        have ef : ∀ g, evalOf f (.func g) = .func (.func g) #[] #[] := fun _ => rfl
        refine relUpon_value ?_ (⟨hC.1, hC.2.1, by simpa using hC.2.2⟩) (trivial) (show (_ : Value) = _ from rfl)
        go_simp
      -- 8: slot 34 := move t1
      · intro w L f hC hLi hLd hLn hF
        obtain ⟨d1, _⟩ := hF
        have d1 : f 1 = .int .u16 i := d1
        refine Step2.live rfl ?_
        exact relUpon_value (v := f 1) rfl (⟨hC.1, hC.2.1, by simpa using hC.2.2⟩) (trivial) d1
      -- 9: slot 35 := convert 35 3 t34
      · intro w L f hC hLi hLd hLn hF
        obtain ⟨d34, _⟩ := hF
        have d34 : f 34 = .int .u16 i := d34
        refine Step2.live rfl ?_
        have ev : ∀ t, evalOf f (.tmp t) = f t := fun _ => rfl
        have ec : ∀ c, evalOf f (.const c) = c := fun _ => rfl
        refine relUpon_value ?_ (⟨hC.1, hC.2.1, by simpa using hC.2.2⟩) (trivial) rfl
        go_simp
      -- 10: slot 36 := move t10
      · intro w L f hC hLi hLd hLn hF
        obtain ⟨d10, _⟩ := hF
        have d10 : f 10 = .int .i64 (8 * (l.length : Int)) := d10
        refine Step2.live rfl ?_
        exact relUpon_value (v := f 10) rfl (⟨hC.1, hC.2.1, by simpa using hC.2.2⟩) (trivial) d10
      -- 11: slot 37 := binOp BinOp.rem 3 t35 t36 3
      · intro w L f hC hLi hLd hLn hF
        obtain ⟨d35, d36, _⟩ := hF
        have d35 : f 35 = .int .i64 (i : Nat) := d35
        have d36 : f 36 = .int .i64 (8 * (l.length : Int)) := d36
        refine Step2.live rfl ?_
        have ev : ∀ t, evalOf f (.tmp t) = f t := fun _ => rfl
        have ec : ∀ c, evalOf f (.const c) = c := fun _ => rfl
        have ef : ∀ g, evalOf f (.func g) = .func (.func g) #[] #[] := fun _ => rfl
        refine relUpon_value ?_ (⟨hC.1, hC.2.1, by simpa using hC.2.2⟩) (trivial) (show (_ : Value) = _ from rfl)
        go_simp
        rw [if_neg hz1.out, hrem_p.out]
      -- 12: slot 38 := binOp BinOp.rem 3 t37 (const (8:i64)) 3
      · intro w L f hC hLi hLd hLn hF
        obtain ⟨d37, _⟩ := hF
        have d37 : f 37 = .int .i64 (p : Nat) := d37
        refine Step2.live rfl ?_
        have ev : ∀ t, evalOf f (.tmp t) = f t := fun _ => rfl
        have ec : ∀ c, evalOf f (.const c) = c := fun _ => rfl
        have ef : ∀ g, evalOf f (.func g) = .func (.func g) #[] #[] := fun _ => rfl
        refine relUpon_value ?_ (⟨hC.1, hC.2.1, by simpa using hC.2.2⟩) (trivial) (show (_ : Value) = _ from rfl)
        go_simp
        exact Int.tmod_eq_emod_of_nonneg (by omega)
      -- 13: slot 39 := binOp BinOp.shl 5 (const (1:u8)) t38 3
      · intro w L f hC hLi hLd hLn hF
        obtain ⟨d38, _⟩ := hF
        have d38 : f 38 = .int .i64 ((p % 8 : Nat) : Int) := d38
        refine Step2.live rfl ?_
        have ev : ∀ t, evalOf f (.tmp t) = f t := fun _ => rfl
        have ec : ∀ c, evalOf f (.const c) = c := fun _ => rfl
        have ef : ∀ g, evalOf f (.func g) = .func (.func g) #[] #[] := fun _ => rfl
        refine relUpon_value ?_ (⟨hC.1, hC.2.1, by simpa using hC.2.2⟩) (trivial) (show (_ : Value) = _ from rfl)
        go_simp
        exact pow_u8 p
      -- 14: slot 40 := binOp BinOp.xor 5 t33 t39 5
      · intro w L f hC hLi hLd hLn hF
        obtain ⟨d33, d39, _⟩ := hF
        have d33 : f 33 = .int .u8 ((l.getD (p / 8) 0).toNat : Int) := d33
        have d39 : f 39 = .int .u8 ((2 ^ (p % 8) : Nat) : Int) := d39
        refine Step2.live rfl ?_
        have ev : ∀ t, evalOf f (.tmp t) = f t := fun _ => rfl
        have ec : ∀ c, evalOf f (.const c) = c := fun _ => rfl
        have ef : ∀ g, evalOf f (.func g) = .func (.func g) #[] #[] := fun _ => rfl
        refine relUpon_value ?_ (⟨hC.1, hC.2.1, by simpa using hC.2.2⟩) (trivial) (show (_ : Value) = _ from rfl)
        go_simp
        exact xor_turn' _ _ (by omega)
      -- 15: slot 41 := indexAddr 33 t26 t31
      · intro w L f hC hLi hLd hLn hF
        obtain ⟨d26, d31, _⟩ := hF
        have d26 : f 26 = .slice (some ⟨g, 0, none⟩) l.length cap := d26
        have d31 : f 31 = .int .i64 ((p / 8 : Nat) : Int) := d31
        refine Step2.live rfl ?_
        have ev : ∀ t, evalOf f (.tmp t) = f t := fun _ => rfl
        have ec : ∀ c, evalOf f (.const c) = c := fun _ => rfl
        have ef : ∀ g, evalOf f (.func g) = .func (.func g) #[] #[] := fun _ => rfl
        refine relUpon_value ?_ (⟨hC.1, hC.2.1, by simpa using hC.2.2⟩) (trivial) (show (_ : Value) = _ from rfl)
        go_simp
        rw [if_pos ⟨by omega, by omega⟩, show ((p : Int) / 8).toNat = p / 8 by omega]
      -- 16: slot None := store 5 t41 t40
      · intro w L f hC hLi hLd hLn hF
        obtain ⟨d41, d40, _⟩ := hF
        have d41 : f 41 = .pointer (some ⟨g, p / 8, none⟩) := d41
        have d40 : f 40 = .int .u8 ((turnB (l.getD (p / 8) 0) (p % 8)).toNat : Int) := d40
        refine Step2.live rfl ?_
        have hown := hC.2.2
        rw [hLi] at hown
        simp only [Bool.false_eq_true, if_false] at hown
        have hcell := own_byte hown (p / 8) (by omega)
        have hfz := hown.frozenAt (p / 8)
        have hst := (hown.stored (p / 8) (byteV (turnB (l.getD (p / 8) 0) (p % 8)))).1
        rw [turn_cells] at hst
        clear hown
        have ev : ∀ t, evalOf f (.tmp t) = f t := fun _ => rfl
        have ec : ∀ c, evalOf f (.const c) = c := fun _ => rfl
        have ef : ∀ g, evalOf f (.func g) = .func (.func g) #[] #[] := fun _ => rfl
        refine relUpon_skip (w' := w.setCell ⟨g, p / 8, none⟩ (byteV (turnB (l.getD (p / 8) 0) (p % 8)))) ?_ ⟨hC.1.setCell hgB _, by simp [World.setCell]; exact hC.2.1, by simpa using hst⟩ trivial trivial
        unfold byteV
        go_simp
    case finK =>
      intro x w' hC hV
      have hown2 := hC.2.2
      simp only [if_true] at hown2
      have hbr2 := hC.1
      have hBr2 := hC.2.1
      clear hV hC hown hbr hBr
      simp only [framed]
      have hby := own_bytes hown2
      go_wp2_with fail
      refine (crc_len _ _ 1 1 [turn l p] (Slices.one _ (by simp [turn_length]) (by unfold maxLen; omega) hby) rfl (by simp [maxLen])).mono ?_
      rintro e w3 ⟨rfl, hb3⟩
      have hb3' := (below_new w' (.cells #[.slice (some ⟨g, 0, none⟩) l.length cap] 33)).trans (hb3.mono (by simp))
      have hown3 := own_below hown2 hb3'
      have hbr3 := hbr2.trans (hb3'.mono hBr2)
      have hBr3 := Nat.le_trans hBr2 hb3'.size
      clear hown2 hbr2 hBr2 hb3 hby hb3'
      have hlb := (hl1.out.below hbr3).more hBr3
      go_wp2_with fail
      refine (crc_len _ _ 1 1 [l] (Slices.one _ rfl (by unfold maxLen; omega) hlb) rfl (by simp [maxLen])).mono ?_
      rintro e w4 ⟨rfl, hb4⟩
      have hb4' := (below_new w3 (.cells #[.slice A l.length c] 33)).trans (hb4.mono (by simp))
      have hown := own_below hown3 hb4'
      have hbr := hbr3.trans (hb4'.mono hBr3)
      have hBr := Nat.le_trans hBr3 hb4'.size
      clear hown3 hbr3 hBr3 hb4 hlb hb4'
      have hne : ((crcOf [turn l p] : Int) == crcOf [l]) = false := by
        rw [beq_eq_false_iff_ne]
        have := turned_one l p hp8
        omega
      go_wp2_with fail
      -- THE REGION THAT DRAWS ITS ORDER, BY ONE LEXICAL WALK OVER GENERIC VALUES (written by relgen.py)
      refine wp_region_tab ((fun _ v => v = .slice (some ⟨g, 0, none⟩) l.length cap) ::
        (fun _ v => v = .int .u16 j) ::
        (fun _ v => v = .int .i64 (j : Nat)) ::
        (fun _ v => v = .int .i64 (8 * (l.length : Int))) ::
        (fun _ v => v = .int .i64 (q : Nat)) ::
        (fun _ v => v = .int .i64 ((q / 8 : Nat) : Int)) ::
        (fun _ v => v = .pointer (some ⟨g, q / 8, none⟩)) ::
        (fun _ v => v = .int .u8 (((turn l p).getD (q / 8) 0).toNat : Int)) ::
        (fun _ v => v = .int .u16 j) ::
        (fun _ v => v = .int .i64 (j : Nat)) ::
        (fun _ v => v = .int .i64 (8 * (l.length : Int))) ::
        (fun _ v => v = .int .i64 (q : Nat)) ::
        (fun _ v => v = .int .i64 ((q % 8 : Nat) : Int)) ::
        (fun _ v => v = .int .u8 ((2 ^ (q % 8) : Nat) : Int)) ::
        (fun _ v => v = .int .u8 ((turnB ((turn l p).getD (q / 8) 0) (q % 8)).toNat : Int)) ::
        (fun _ v => v = .pointer (some ⟨g, q / 8, none⟩)) ::
        (fun _ _ => True) :: [])
        (⟨[(9, none)], 0, []⟩ :: ⟨[(2, none)], 0, []⟩ :: ⟨[(50, some 1)], 0, []⟩ :: ⟨[(10, none)], 0, []⟩ :: ⟨[(51, some 2), (52, some 3)], 0, []⟩ :: ⟨[(53, some 4)], 0, []⟩ :: ⟨[(49, some 0), (54, some 5)], 0, []⟩ :: ⟨[(55, some 6)], 0, [16]⟩ :: ⟨[(2, none)], 0, []⟩ :: ⟨[(57, some 8)], 0, []⟩ :: ⟨[(10, none)], 0, []⟩ :: ⟨[(58, some 9), (59, some 10)], 0, []⟩ :: ⟨[(60, some 11)], 0, []⟩ :: ⟨[(61, some 12)], 0, []⟩ :: ⟨[(56, some 7), (62, some 13)], 0, []⟩ :: ⟨[(49, some 0), (54, some 5)], 0, []⟩ :: ⟨[(64, some 15), (63, some 14)], 0, []⟩ :: [])
        (none :: none :: none :: none :: none :: none :: none :: none :: none :: none :: none :: none :: none :: none :: none :: none :: none :: none :: none :: none :: none :: none :: none :: none :: none :: none :: none :: none :: none :: none :: none :: none :: none :: none :: none :: none :: none :: none :: none :: none :: none :: none :: none :: none :: none :: none :: none :: none :: none :: some 0 :: some 1 :: some 2 :: some 3 :: some 4 :: some 5 :: some 6 :: some 7 :: some 8 :: some 9 :: some 10 :: some 11 :: some 12 :: some 13 :: some 14 :: some 15 :: [])
        (fun L wx => Below B w1 wx ∧ B ≤ wx.heap.size ∧ wx.ownsRow B 5 1 (.slice (some ⟨g, 0, none⟩) l.length cap) l.length ((if L 16 = true then turn (turn l p) q else (turn l p)).map byteV)) (fun _ _ _ => True) ?mixK ?okK ?tabK ?frK ?inK ?keptK ?startK ?eachK ?finK
      case mixK => kernel_rfl
      case okK => kernel_rfl
      case tabK => kernel_rfl
      case frK => kernel_rfl
      case inK => rfl
      case keptK => exact ⟨fun _ _ _ _ _ _ _ h => h, fun _ _ _ _ _ _ _ h => h, fun _ _ _ _ _ _ _ h => h, fun _ _ _ _ _ _ _ h => h, fun _ _ _ _ _ _ _ h => h, fun _ _ _ _ _ _ _ h => h, fun _ _ _ _ _ _ _ h => h, fun _ _ _ _ _ _ _ h => h, fun _ _ _ _ _ _ _ h => h, fun _ _ _ _ _ _ _ h => h, fun _ _ _ _ _ _ _ h => h, fun _ _ _ _ _ _ _ h => h, fun _ _ _ _ _ _ _ h => h, fun _ _ _ _ _ _ _ h => h, fun _ _ _ _ _ _ _ h => h, fun _ _ _ _ _ _ _ h => h, fun _ _ _ _ _ _ _ h => h, trivial⟩
      case startK => exact ⟨hbr.drew, hBr, by simpa using hown.drew⟩
      case eachK =>
        refine ⟨?_, ?_, ?_, ?_, ?_, ?_, ?_, ?_, ?_, ?_, ?_, ?_, ?_, ?_, ?_, ?_, ?_, trivial⟩
        -- 0: slot 49 := move t9
        · intro w L f hC hLi hLd hLn hF
          obtain ⟨d9, _⟩ := hF
          have d9 : f 9 = .slice (some ⟨g, 0, none⟩) l.length cap := d9
          refine Step2.live rfl ?_
          exact relUpon_value (v := f 9) rfl (⟨hC.1, hC.2.1, by simpa using hC.2.2⟩) (trivial) d9
        -- 1: slot 50 := move t2
        · intro w L f hC hLi hLd hLn hF
          obtain ⟨d2, _⟩ := hF
          have d2 : f 2 = .int .u16 j := d2
          refine Step2.live rfl ?_
          exact relUpon_value (v := f 2) rfl (⟨hC.1, hC.2.1, by simpa using hC.2.2⟩) (trivial) d2
        -- 2: slot 51 := convert 35 3 t50
        · intro w L f hC hLi hLd hLn hF
          obtain ⟨d50, _⟩ := hF
          have d50 : f 50 = .int .u16 j := d50
          refine Step2.live rfl ?_
          have ev : ∀ t, evalOf f (.tmp t) = f t := fun _ => rfl
          have ec : ∀ c, evalOf f (.const c) = c := fun _ => rfl
          refine relUpon_value ?_ (⟨hC.1, hC.2.1, by simpa using hC.2.2⟩) (trivial) rfl
          go_simp
        -- 3: slot 52 := move t10
        · intro w L f hC hLi hLd hLn hF
          obtain ⟨d10, _⟩ := hF
          have d10 : f 10 = .int .i64 (8 * (l.length : Int)) := d10
          refine Step2.live rfl ?_
          exact relUpon_value (v := f 10) rfl (⟨hC.1, hC.2.1, by simpa using hC.2.2⟩) (trivial) d10
        -- 4: slot 53 := binOp BinOp.rem 3 t51 t52 3
        · intro w L f hC hLi hLd hLn hF
          obtain ⟨d51, d52, _⟩ := hF
          have d51 : f 51 = .int .i64 (j : Nat) := d51
          have d52 : f 52 = .int .i64 (8 * (l.length : Int)) := d52
          refine Step2.live rfl ?_
          have ev : ∀ t, evalOf f (.tmp t) = f t := fun _ => rfl
          have ec : ∀ c, evalOf f (.const c) = c := fun _ => rfl
          have ef : ∀ g, evalOf f (.func g) = .func (.func g) #[] #[] := fun _ => rfl
          refine relUpon_value ?_ (⟨hC.1, hC.2.1, by simpa using hC.2.2⟩) (trivial) (show (_ : Value) = _ from rfl)
          go_simp
          rw [if_neg hz1.out, hrem_q.out]
        -- 5: slot 54 := binOp BinOp.quo 3 t53 (const (8:i64)) 3
        · intro w L f hC hLi hLd hLn hF
          obtain ⟨d53, _⟩ := hF
          have d53 : f 53 = .int .i64 (q : Nat) := d53
          refine Step2.live rfl ?_
          have ev : ∀ t, evalOf f (.tmp t) = f t := fun _ => rfl
          have ec : ∀ c, evalOf f (.const c) = c := fun _ => rfl
          have ef : ∀ g, evalOf f (.func g) = .func (.func g) #[] #[] := fun _ => rfl
          refine relUpon_value ?_ (⟨hC.1, hC.2.1, by simpa using hC.2.2⟩) (trivial) (show (_ : Value) = _ from rfl)
          go_simp
          exact IntWalk.i64_in _ (by omega)
        -- 6: slot 55 := indexAddr 33 t49 t54
        · intro w L f hC hLi hLd hLn hF
          obtain ⟨d49, d54, _⟩ := hF
          have d49 : f 49 = .slice (some ⟨g, 0, none⟩) l.length cap := d49
          have d54 : f 54 = .int .i64 ((q / 8 : Nat) : Int) := d54
          refine Step2.live rfl ?_
          have ev : ∀ t, evalOf f (.tmp t) = f t := fun _ => rfl
          have ec : ∀ c, evalOf f (.const c) = c := fun _ => rfl
          have ef : ∀ g, evalOf f (.func g) = .func (.func g) #[] #[] := fun _ => rfl
          refine relUpon_value ?_ (⟨hC.1, hC.2.1, by simpa using hC.2.2⟩) (trivial) (show (_ : Value) = _ from rfl)
          go_simp
          rw [if_pos ⟨by omega, by omega⟩, show ((q : Int) / 8).toNat = q / 8 by omega]
        -- 7: slot 56 := load 5 t55
        · intro w L f hC hLi hLd hLn hF
          obtain ⟨d55, _⟩ := hF
          have d55 : f 55 = .pointer (some ⟨g, q / 8, none⟩) := d55
          refine Step2.live rfl ?_
          have hown := hC.2.2
          rw [hLn 16 (by simp)] at hown
          simp only [Bool.false_eq_true, if_false] at hown
          have hcell := own_byte hown (q / 8) (by omega)
          clear hown
          have ev : ∀ t, evalOf f (.tmp t) = f t := fun _ => rfl
          have ec : ∀ c, evalOf f (.const c) = c := fun _ => rfl
          have ef : ∀ g, evalOf f (.func g) = .func (.func g) #[] #[] := fun _ => rfl
          refine relUpon_value ?_ (⟨hC.1, hC.2.1, by simpa using hC.2.2⟩) (trivial) (show (_ : Value) = _ from rfl)
          go_simp
        -- 8: slot 57 := move t2
        · intro w L f hC hLi hLd hLn hF
          obtain ⟨d2, _⟩ := hF
          have d2 : f 2 = .int .u16 j := d2
          refine Step2.live rfl ?_
          exact relUpon_value (v := f 2) rfl (⟨hC.1, hC.2.1, by simpa using hC.2.2⟩) (trivial) d2
        -- 9: slot 58 := convert 35 3 t57
        · intro w L f hC hLi hLd hLn hF
          obtain ⟨d57, _⟩ := hF
          have d57 : f 57 = .int .u16 j := d57
          refine Step2.live rfl ?_
          have ev : ∀ t, evalOf f (.tmp t) = f t := fun _ => rfl
          have ec : ∀ c, evalOf f (.const c) = c := fun _ => rfl
          refine relUpon_value ?_ (⟨hC.1, hC.2.1, by simpa using hC.2.2⟩) (trivial) rfl
          go_simp
        -- 10: slot 59 := move t10
        · intro w L f hC hLi hLd hLn hF
          obtain ⟨d10, _⟩ := hF
          have d10 : f 10 = .int .i64 (8 * (l.length : Int)) := d10
          refine Step2.live rfl ?_
          exact relUpon_value (v := f 10) rfl (⟨hC.1, hC.2.1, by simpa using hC.2.2⟩) (trivial) d10
        -- 11: slot 60 := binOp BinOp.rem 3 t58 t59 3
        · intro w L f hC hLi hLd hLn hF
          obtain ⟨d58, d59, _⟩ := hF
          have d58 : f 58 = .int .i64 (j : Nat) := d58
          have d59 : f 59 = .int .i64 (8 * (l.length : Int)) := d59
          refine Step2.live rfl ?_
          have ev : ∀ t, evalOf f (.tmp t) = f t := fun _ => rfl
          have ec : ∀ c, evalOf f (.const c) = c := fun _ => rfl
          have ef : ∀ g, evalOf f (.func g) = .func (.func g) #[] #[] := fun _ => rfl
          refine relUpon_value ?_ (⟨hC.1, hC.2.1, by simpa using hC.2.2⟩) (trivial) (show (_ : Value) = _ from rfl)
          go_simp
          rw [if_neg hz1.out, hrem_q.out]
        -- 12: slot 61 := binOp BinOp.rem 3 t60 (const (8:i64)) 3
        · intro w L f hC hLi hLd hLn hF
          obtain ⟨d60, _⟩ := hF
          have d60 : f 60 = .int .i64 (q : Nat) := d60
          refine Step2.live rfl ?_
          have ev : ∀ t, evalOf f (.tmp t) = f t := fun _ => rfl
          have ec : ∀ c, evalOf f (.const c) = c := fun _ => rfl
          have ef : ∀ g, evalOf f (.func g) = .func (.func g) #[] #[] := fun _ => rfl
          refine relUpon_value ?_ (⟨hC.1, hC.2.1, by simpa using hC.2.2⟩) (trivial) (show (_ : Value) = _ from rfl)
          go_simp
          exact Int.tmod_eq_emod_of_nonneg (by omega)
        -- 13: slot 62 := binOp BinOp.shl 5 (const (1:u8)) t61 3
        · intro w L f hC hLi hLd hLn hF
          obtain ⟨d61, _⟩ := hF
          have d61 : f 61 = .int .i64 ((q % 8 : Nat) : Int) := d61
          refine Step2.live rfl ?_
          have ev : ∀ t, evalOf f (.tmp t) = f t := fun _ => rfl
          have ec : ∀ c, evalOf f (.const c) = c := fun _ => rfl
          have ef : ∀ g, evalOf f (.func g) = .func (.func g) #[] #[] := fun _ => rfl
          refine relUpon_value ?_ (⟨hC.1, hC.2.1, by simpa using hC.2.2⟩) (trivial) (show (_ : Value) = _ from rfl)
          go_simp
          exact pow_u8 q
        -- 14: slot 63 := binOp BinOp.xor 5 t56 t62 5
        · intro w L f hC hLi hLd hLn hF
          obtain ⟨d56, d62, _⟩ := hF
          have d56 : f 56 = .int .u8 (((turn l p).getD (q / 8) 0).toNat : Int) := d56
          have d62 : f 62 = .int .u8 ((2 ^ (q % 8) : Nat) : Int) := d62
          refine Step2.live rfl ?_
          have ev : ∀ t, evalOf f (.tmp t) = f t := fun _ => rfl
          have ec : ∀ c, evalOf f (.const c) = c := fun _ => rfl
          have ef : ∀ g, evalOf f (.func g) = .func (.func g) #[] #[] := fun _ => rfl
          refine relUpon_value ?_ (⟨hC.1, hC.2.1, by simpa using hC.2.2⟩) (trivial) (show (_ : Value) = _ from rfl)
          go_simp
          exact xor_turn' _ _ (by omega)
        -- 15: slot 64 := indexAddr 33 t49 t54
        · intro w L f hC hLi hLd hLn hF
          obtain ⟨d49, d54, _⟩ := hF
          have d49 : f 49 = .slice (some ⟨g, 0, none⟩) l.length cap := d49
          have d54 : f 54 = .int .i64 ((q / 8 : Nat) : Int) := d54
          refine Step2.live rfl ?_
          have ev : ∀ t, evalOf f (.tmp t) = f t := fun _ => rfl
          have ec : ∀ c, evalOf f (.const c) = c := fun _ => rfl
          have ef : ∀ g, evalOf f (.func g) = .func (.func g) #[] #[] := fun _ => rfl
          refine relUpon_value ?_ (⟨hC.1, hC.2.1, by simpa using hC.2.2⟩) (trivial) (show (_ : Value) = _ from rfl)
          go_simp
          rw [if_pos ⟨by omega, by omega⟩, show ((q : Int) / 8).toNat = q / 8 by omega]
        -- 16: slot None := store 5 t64 t63
        · intro w L f hC hLi hLd hLn hF
          obtain ⟨d64, d63, _⟩ := hF
          have d64 : f 64 = .pointer (some ⟨g, q / 8, none⟩) := d64
          have d63 : f 63 = .int .u8 ((turnB ((turn l p).getD (q / 8) 0) (q % 8)).toNat : Int) := d63
          refine Step2.live rfl ?_
          have hown := hC.2.2
          rw [hLi] at hown
          simp only [Bool.false_eq_true, if_false] at hown
          have hcell := own_byte hown (q / 8) (by omega)
          have hfz := hown.frozenAt (q / 8)
          have hst := (hown.stored (q / 8) (byteV (turnB ((turn l p).getD (q / 8) 0) (q % 8)))).1
          rw [turn_cells] at hst
          clear hown
          have ev : ∀ t, evalOf f (.tmp t) = f t := fun _ => rfl
          have ec : ∀ c, evalOf f (.const c) = c := fun _ => rfl
          have ef : ∀ g, evalOf f (.func g) = .func (.func g) #[] #[] := fun _ => rfl
          refine relUpon_skip (w' := w.setCell ⟨g, q / 8, none⟩ (byteV (turnB ((turn l p).getD (q / 8) 0) (q % 8)))) ?_ ⟨hC.1.setCell hgB _, by simp [World.setCell]; exact hC.2.1, by simpa using hst⟩ trivial trivial
          unfold byteV
          go_simp
      case finK =>
        intro x w' hC hV
        have hown2 := hC.2.2
        simp only [if_true] at hown2
        have hbr2 := hC.1
        have hBr2 := hC.2.1
        clear hV hC hown hbr hBr
        simp only [framed]
        have hown := hown2
        have hbr := hbr2
        have hBr := hBr2
        clear hown2 hbr2 hBr2
        go_wp2_with fail
        -- THE REGION THAT DRAWS ITS ORDER, BY ONE LEXICAL WALK OVER GENERIC VALUES (written by relgen.py)
        refine wp_region_tab ((fun _ v => v = .slice (some ⟨g, 0, none⟩) l.length cap) ::
          (fun _ v => v = .int .u16 k) ::
          (fun _ v => v = .int .i64 (k : Nat)) ::
          (fun _ v => v = .int .i64 (8 * (l.length : Int))) ::
          (fun _ v => v = .int .i64 (r : Nat)) ::
          (fun _ v => v = .int .i64 ((r / 8 : Nat) : Int)) ::
          (fun _ v => v = .pointer (some ⟨g, r / 8, none⟩)) ::
          (fun _ v => v = .int .u8 (((turn (turn l p) q).getD (r / 8) 0).toNat : Int)) ::
          (fun _ v => v = .int .u16 k) ::
          (fun _ v => v = .int .i64 (k : Nat)) ::
          (fun _ v => v = .int .i64 (8 * (l.length : Int))) ::
          (fun _ v => v = .int .i64 (r : Nat)) ::
          (fun _ v => v = .int .i64 ((r % 8 : Nat) : Int)) ::
          (fun _ v => v = .int .u8 ((2 ^ (r % 8) : Nat) : Int)) ::
          (fun _ v => v = .int .u8 ((turnB ((turn (turn l p) q).getD (r / 8) 0) (r % 8)).toNat : Int)) ::
          (fun _ v => v = .pointer (some ⟨g, r / 8, none⟩)) ::
          (fun _ _ => True) :: [])
          (⟨[(9, none)], 0, []⟩ :: ⟨[(3, none)], 0, []⟩ :: ⟨[(66, some 1)], 0, []⟩ :: ⟨[(10, none)], 0, []⟩ :: ⟨[(67, some 2), (68, some 3)], 0, []⟩ :: ⟨[(69, some 4)], 0, []⟩ :: ⟨[(65, some 0), (70, some 5)], 0, []⟩ :: ⟨[(71, some 6)], 0, [16]⟩ :: ⟨[(3, none)], 0, []⟩ :: ⟨[(73, some 8)], 0, []⟩ :: ⟨[(10, none)], 0, []⟩ :: ⟨[(74, some 9), (75, some 10)], 0, []⟩ :: ⟨[(76, some 11)], 0, []⟩ :: ⟨[(77, some 12)], 0, []⟩ :: ⟨[(72, some 7), (78, some 13)], 0, []⟩ :: ⟨[(65, some 0), (70, some 5)], 0, []⟩ :: ⟨[(80, some 15), (79, some 14)], 0, []⟩ :: [])
          (none :: none :: none :: none :: none :: none :: none :: none :: none :: none :: none :: none :: none :: none :: none :: none :: none :: none :: none :: none :: none :: none :: none :: none :: none :: none :: none :: none :: none :: none :: none :: none :: none :: none :: none :: none :: none :: none :: none :: none :: none :: none :: none :: none :: none :: none :: none :: none :: none :: none :: none :: none :: none :: none :: none :: none :: none :: none :: none :: none :: none :: none :: none :: none :: none :: some 0 :: some 1 :: some 2 :: some 3 :: some 4 :: some 5 :: some 6 :: some 7 :: some 8 :: some 9 :: some 10 :: some 11 :: some 12 :: some 13 :: some 14 :: some 15 :: [])
          (fun L wx => Below B w1 wx ∧ B ≤ wx.heap.size ∧ wx.ownsRow B 5 1 (.slice (some ⟨g, 0, none⟩) l.length cap) l.length ((if L 16 = true then turn (turn (turn l p) q) r else (turn (turn l p) q)).map byteV)) (fun _ _ _ => True) ?mixK ?okK ?tabK ?frK ?inK ?keptK ?startK ?eachK ?finK
        case mixK => kernel_rfl
        case okK => kernel_rfl
        case tabK => kernel_rfl
        case frK => kernel_rfl
        case inK => rfl
        case keptK => exact ⟨fun _ _ _ _ _ _ _ h => h, fun _ _ _ _ _ _ _ h => h, fun _ _ _ _ _ _ _ h => h, fun _ _ _ _ _ _ _ h => h, fun _ _ _ _ _ _ _ h => h, fun _ _ _ _ _ _ _ h => h, fun _ _ _ _ _ _ _ h => h, fun _ _ _ _ _ _ _ h => h, fun _ _ _ _ _ _ _ h => h, fun _ _ _ _ _ _ _ h => h, fun _ _ _ _ _ _ _ h => h, fun _ _ _ _ _ _ _ h => h, fun _ _ _ _ _ _ _ h => h, fun _ _ _ _ _ _ _ h => h, fun _ _ _ _ _ _ _ h => h, fun _ _ _ _ _ _ _ h => h, fun _ _ _ _ _ _ _ h => h, trivial⟩
        case startK => exact ⟨hbr.drew, hBr, by simpa using hown.drew⟩
        case eachK =>
          refine ⟨?_, ?_, ?_, ?_, ?_, ?_, ?_, ?_, ?_, ?_, ?_, ?_, ?_, ?_, ?_, ?_, ?_, trivial⟩
          -- 0: slot 65 := move t9
          · intro w L f hC hLi hLd hLn hF
            obtain ⟨d9, _⟩ := hF
            have d9 : f 9 = .slice (some ⟨g, 0, none⟩) l.length cap := d9
            refine Step2.live rfl ?_
            exact relUpon_value (v := f 9) rfl (⟨hC.1, hC.2.1, by simpa using hC.2.2⟩) (trivial) d9
          -- 1: slot 66 := move t3
          · intro w L f hC hLi hLd hLn hF
            obtain ⟨d3, _⟩ := hF
            have d3 : f 3 = .int .u16 k := d3
            refine Step2.live rfl ?_
            exact relUpon_value (v := f 3) rfl (⟨hC.1, hC.2.1, by simpa using hC.2.2⟩) (trivial) d3
          -- 2: slot 67 := convert 35 3 t66
          · intro w L f hC hLi hLd hLn hF
            obtain ⟨d66, _⟩ := hF
            have d66 : f 66 = .int .u16 k := d66
            refine Step2.live rfl ?_
            have ev : ∀ t, evalOf f (.tmp t) = f t := fun _ => rfl
            have ec : ∀ c, evalOf f (.const c) = c := fun _ => rfl
            refine relUpon_value ?_ (⟨hC.1, hC.2.1, by simpa using hC.2.2⟩) (trivial) rfl
            go_simp
          -- 3: slot 68 := move t10
          · intro w L f hC hLi hLd hLn hF
            obtain ⟨d10, _⟩ := hF
            have d10 : f 10 = .int .i64 (8 * (l.length : Int)) := d10
            refine Step2.live rfl ?_
            exact relUpon_value (v := f 10) rfl (⟨hC.1, hC.2.1, by simpa using hC.2.2⟩) (trivial) d10
          -- 4: slot 69 := binOp BinOp.rem 3 t67 t68 3
          · intro w L f hC hLi hLd hLn hF
            obtain ⟨d67, d68, _⟩ := hF
            have d67 : f 67 = .int .i64 (k : Nat) := d67
            have d68 : f 68 = .int .i64 (8 * (l.length : Int)) := d68
            refine Step2.live rfl ?_
            have ev : ∀ t, evalOf f (.tmp t) = f t := fun _ => rfl
            have ec : ∀ c, evalOf f (.const c) = c := fun _ => rfl
            have ef : ∀ g, evalOf f (.func g) = .func (.func g) #[] #[] := fun _ => rfl
            refine relUpon_value ?_ (⟨hC.1, hC.2.1, by simpa using hC.2.2⟩) (trivial) (show (_ : Value) = _ from rfl)
            go_simp
            rw [if_neg hz1.out, hrem_r.out]
          -- 5: slot 70 := binOp BinOp.quo 3 t69 (const (8:i64)) 3
          · intro w L f hC hLi hLd hLn hF
            obtain ⟨d69, _⟩ := hF
            have d69 : f 69 = .int .i64 (r : Nat) := d69
            refine Step2.live rfl ?_
            have ev : ∀ t, evalOf f (.tmp t) = f t := fun _ => rfl
            have ec : ∀ c, evalOf f (.const c) = c := fun _ => rfl
            have ef : ∀ g, evalOf f (.func g) = .func (.func g) #[] #[] := fun _ => rfl
            refine relUpon_value ?_ (⟨hC.1, hC.2.1, by simpa using hC.2.2⟩) (trivial) (show (_ : Value) = _ from rfl)
            go_simp
            exact IntWalk.i64_in _ (by omega)
          -- 6: slot 71 := indexAddr 33 t65 t70
          · intro w L f hC hLi hLd hLn hF
            obtain ⟨d65, d70, _⟩ := hF
            have d65 : f 65 = .slice (some ⟨g, 0, none⟩) l.length cap := d65
            have d70 : f 70 = .int .i64 ((r / 8 : Nat) : Int) := d70
            refine Step2.live rfl ?_
            have ev : ∀ t, evalOf f (.tmp t) = f t := fun _ => rfl
            have ec : ∀ c, evalOf f (.const c) = c := fun _ => rfl
            have ef : ∀ g, evalOf f (.func g) = .func (.func g) #[] #[] := fun _ => rfl
            refine relUpon_value ?_ (⟨hC.1, hC.2.1, by simpa using hC.2.2⟩) (trivial) (show (_ : Value) = _ from rfl)
            go_simp
            rw [if_pos ⟨by omega, by omega⟩, show ((r : Int) / 8).toNat = r / 8 by omega]
          -- 7: slot 72 := load 5 t71
          · intro w L f hC hLi hLd hLn hF
            obtain ⟨d71, _⟩ := hF
            have d71 : f 71 = .pointer (some ⟨g, r / 8, none⟩) := d71
            refine Step2.live rfl ?_
            have hown := hC.2.2
            rw [hLn 16 (by simp)] at hown
            simp only [Bool.false_eq_true, if_false] at hown
            have hcell := own_byte hown (r / 8) (by omega)
            clear hown
            have ev : ∀ t, evalOf f (.tmp t) = f t := fun _ => rfl
            have ec : ∀ c, evalOf f (.const c) = c := fun _ => rfl
            have ef : ∀ g, evalOf f (.func g) = .func (.func g) #[] #[] := fun _ => rfl
            refine relUpon_value ?_ (⟨hC.1, hC.2.1, by simpa using hC.2.2⟩) (trivial) (show (_ : Value) = _ from rfl)
            go_simp
          -- 8: slot 73 := move t3
          · intro w L f hC hLi hLd hLn hF
            obtain ⟨d3, _⟩ := hF
            have d3 : f 3 = .int .u16 k := d3
            refine Step2.live rfl ?_
            exact relUpon_value (v := f 3) rfl (⟨hC.1, hC.2.1, by simpa using hC.2.2⟩) (trivial) d3
          -- 9: slot 74 := convert 35 3 t73
          · intro w L f hC hLi hLd hLn hF
            obtain ⟨d73, _⟩ := hF
            have d73 : f 73 = .int .u16 k := d73
            refine Step2.live rfl ?_
            have ev : ∀ t, evalOf f (.tmp t) = f t := fun _ => rfl
            have ec : ∀ c, evalOf f (.const c) = c := fun _ => rfl
            refine relUpon_value ?_ (⟨hC.1, hC.2.1, by simpa using hC.2.2⟩) (trivial) rfl
            go_simp
          -- 10: slot 75 := move t10
          · intro w L f hC hLi hLd hLn hF
            obtain ⟨d10, _⟩ := hF
            have d10 : f 10 = .int .i64 (8 * (l.length : Int)) := d10
            refine Step2.live rfl ?_
            exact relUpon_value (v := f 10) rfl (⟨hC.1, hC.2.1, by simpa using hC.2.2⟩) (trivial) d10
          -- 11: slot 76 := binOp BinOp.rem 3 t74 t75 3
          · intro w L f hC hLi hLd hLn hF
            obtain ⟨d74, d75, _⟩ := hF
            have d74 : f 74 = .int .i64 (k : Nat) := d74
            have d75 : f 75 = .int .i64 (8 * (l.length : Int)) := d75
            refine Step2.live rfl ?_
            have ev : ∀ t, evalOf f (.tmp t) = f t := fun _ => rfl
            have ec : ∀ c, evalOf f (.const c) = c := fun _ => rfl
            have ef : ∀ g, evalOf f (.func g) = .func (.func g) #[] #[] := fun _ => rfl
            refine relUpon_value ?_ (⟨hC.1, hC.2.1, by simpa using hC.2.2⟩) (trivial) (show (_ : Value) = _ from rfl)
            go_simp
            rw [if_neg hz1.out, hrem_r.out]
          -- 12: slot 77 := binOp BinOp.rem 3 t76 (const (8:i64)) 3
          · intro w L f hC hLi hLd hLn hF
            obtain ⟨d76, _⟩ := hF
            have d76 : f 76 = .int .i64 (r : Nat) := d76
            refine Step2.live rfl ?_
            have ev : ∀ t, evalOf f (.tmp t) = f t := fun _ => rfl
            have ec : ∀ c, evalOf f (.const c) = c := fun _ => rfl
            have ef : ∀ g, evalOf f (.func g) = .func (.func g) #[] #[] := fun _ => rfl
            refine relUpon_value ?_ (⟨hC.1, hC.2.1, by simpa using hC.2.2⟩) (trivial) (show (_ : Value) = _ from rfl)
            go_simp
            exact Int.tmod_eq_emod_of_nonneg (by omega)
          -- 13: slot 78 := binOp BinOp.shl 5 (const (1:u8)) t77 3
          · intro w L f hC hLi hLd hLn hF
            obtain ⟨d77, _⟩ := hF
            have d77 : f 77 = .int .i64 ((r % 8 : Nat) : Int) := d77
            refine Step2.live rfl ?_
            have ev : ∀ t, evalOf f (.tmp t) = f t := fun _ => rfl
            have ec : ∀ c, evalOf f (.const c) = c := fun _ => rfl
            have ef : ∀ g, evalOf f (.func g) = .func (.func g) #[] #[] := fun _ => rfl
            refine relUpon_value ?_ (⟨hC.1, hC.2.1, by simpa using hC.2.2⟩) (trivial) (show (_ : Value) = _ from rfl)
            go_simp
            exact pow_u8 r
          -- 14: slot 79 := binOp BinOp.xor 5 t72 t78 5
          · intro w L f hC hLi hLd hLn hF
            obtain ⟨d72, d78, _⟩ := hF
            have d72 : f 72 = .int .u8 (((turn (turn l p) q).getD (r / 8) 0).toNat : Int) := d72
            have d78 : f 78 = .int .u8 ((2 ^ (r % 8) : Nat) : Int) := d78
            refine Step2.live rfl ?_
            have ev : ∀ t, evalOf f (.tmp t) = f t := fun _ => rfl
            have ec : ∀ c, evalOf f (.const c) = c := fun _ => rfl
            have ef : ∀ g, evalOf f (.func g) = .func (.func g) #[] #[] := fun _ => rfl
            refine relUpon_value ?_ (⟨hC.1, hC.2.1, by simpa using hC.2.2⟩) (trivial) (show (_ : Value) = _ from rfl)
            go_simp
            exact xor_turn' _ _ (by omega)
          -- 15: slot 80 := indexAddr 33 t65 t70
          · intro w L f hC hLi hLd hLn hF
            obtain ⟨d65, d70, _⟩ := hF
            have d65 : f 65 = .slice (some ⟨g, 0, none⟩) l.length cap := d65
            have d70 : f 70 = .int .i64 ((r / 8 : Nat) : Int) := d70
            refine Step2.live rfl ?_
            have ev : ∀ t, evalOf f (.tmp t) = f t := fun _ => rfl
            have ec : ∀ c, evalOf f (.const c) = c := fun _ => rfl
            have ef : ∀ g, evalOf f (.func g) = .func (.func g) #[] #[] := fun _ => rfl
            refine relUpon_value ?_ (⟨hC.1, hC.2.1, by simpa using hC.2.2⟩) (trivial) (show (_ : Value) = _ from rfl)
            go_simp
            rw [if_pos ⟨by omega, by omega⟩, show ((r : Int) / 8).toNat = r / 8 by omega]
          -- 16: slot None := store 5 t80 t79
          · intro w L f hC hLi hLd hLn hF
            obtain ⟨d80, d79, _⟩ := hF
            have d80 : f 80 = .pointer (some ⟨g, r / 8, none⟩) := d80
            have d79 : f 79 = .int .u8 ((turnB ((turn (turn l p) q).getD (r / 8) 0) (r % 8)).toNat : Int) := d79
            refine Step2.live rfl ?_
            have hown := hC.2.2
            rw [hLi] at hown
            simp only [Bool.false_eq_true, if_false] at hown
            have hcell := own_byte hown (r / 8) (by omega)
            have hfz := hown.frozenAt (r / 8)
            have hst := (hown.stored (r / 8) (byteV (turnB ((turn (turn l p) q).getD (r / 8) 0) (r % 8)))).1
            rw [turn_cells] at hst
            clear hown
            have ev : ∀ t, evalOf f (.tmp t) = f t := fun _ => rfl
            have ec : ∀ c, evalOf f (.const c) = c := fun _ => rfl
            have ef : ∀ g, evalOf f (.func g) = .func (.func g) #[] #[] := fun _ => rfl
            refine relUpon_skip (w' := w.setCell ⟨g, r / 8, none⟩ (byteV (turnB ((turn (turn l p) q).getD (r / 8) 0) (r % 8)))) ?_ ⟨hC.1.setCell hgB _, by simp [World.setCell]; exact hC.2.1, by simpa using hst⟩ trivial trivial
            unfold byteV
            go_simp
        case finK =>
          intro x w' hC hV
          have hown2 := hC.2.2
          simp only [if_true] at hown2
          have hbr2 := hC.1
          have hBr2 := hC.2.1
          clear hV hC hown hbr hBr
          simp only [framed]
          have hT3 := Lib.hid (own_bytes hown2)
          have hLb := Lib.hid ((hl1.out.below hbr2).more hBr2)
          have hBc := hb1.trans (hbr2.mono (by rw [hB.out]; exact hb1.size))
          have hcf : Hid (((crcOf [turn (turn (turn l p) q) r] : Int) == crcOf [l]) = false) := Lib.hid (by
            rw [beq_eq_false_iff_ne]
            have := turned_three l p q r hbig hp8 hq8 hr8
            omega)
          have hsf : Hid (¬ (strV (turn (turn (turn l p) q) r)).toList = (strV l).toList) := Lib.hid (by
            rw [strV_toList, strV_toList]
            exact turned_text l p q r hbig hp8 hq8 hr8)
          have hss : Hid (∀ s ∈ [strV (turn (turn (turn l p) q) r)], s.size ≤ maxLen) := Lib.hid (by
            intro s hs
            simp only [List.mem_cons, List.mem_nil_iff, or_false] at hs
            subst hs
            rw [strV_size]
            simp only [turn_length]
            unfold maxLen
            omega)
          clear hown2 hbr2 hBr2
          obtain ⟨wc, rfl⟩ : ∃ wc, wc = w' := ⟨_, rfl⟩
          go_wp2_with fail
          -- THE REGION THAT DRAWS ITS ORDER, BY ONE LEXICAL WALK OVER GENERIC VALUES (written by relgen.py)
          refine wp_region_tab ((fun _ v => v = .slice (some ⟨g, 0, none⟩) l.length cap) ::
            (fun w v => ∃ A' c', v = .slice A' 1 c' ∧ Slices w w.heap.size A' [(turn (turn (turn l p) q) r)]) ::
            (fun _ v => v = .int .u32 (crcOf [(turn (turn (turn l p) q) r)] : Nat)) ::
            (fun _ v => v = .slice A l.length c) ::
            (fun w v => ∃ A' c', v = .slice A' 1 c' ∧ Slices w w.heap.size A' [l]) ::
            (fun _ v => v = .int .u32 (crcOf [l] : Nat)) ::
            (fun _ v => v = .bool false) ::
            (fun _ v => v = .slice (some ⟨g, 0, none⟩) l.length cap) ::
            (fun _ v => v = .string (strV (turn (turn (turn l p) q) r))) ::
            (fun _ v => v = .slice A l.length c) ::
            (fun _ v => v = .string (strV l)) ::
            (fun _ v => v = .bool false) ::
            (fun _ v => v = .bool true) ::
            (fun _ v => v = .bool true) ::
            (fun _ v => v = .slice (some ⟨g, 0, none⟩) l.length cap) ::
            (fun _ v => v = .string (strV (turn (turn (turn l p) q) r))) ::
            (fun w v => ∃ A' c', v = .slice A' 1 c' ∧ Strs w w.heap.size A' [strV (turn (turn (turn l p) q) r)]) ::
            (fun _ v => v = .int .u64 (printOf [strV (turn (turn (turn l p) q) r)] : Nat)) ::
            (fun _ v => v = .slice (some ⟨g, 0, none⟩) l.length cap) ::
            (fun _ v => v = .string (strV (turn (turn (turn l p) q) r))) ::
            (fun w v => ∃ A' c', v = .slice A' 1 c' ∧ Strs w w.heap.size A' [strV (turn (turn (turn l p) q) r)]) ::
            (fun _ v => v = .int .u64 (printOf [strV (turn (turn (turn l p) q) r)] : Nat)) ::
            (fun _ v => v = .bool true) ::
            (fun _ v => v = .bool true) ::
            (fun _ v => v = .bool true) :: [])
            (⟨[(9, none)], 0, []⟩ :: ⟨[(81, some 0)], 0, []⟩ :: ⟨[(82, some 1)], 0, []⟩ :: ⟨[(0, none)], 0, []⟩ :: ⟨[(84, some 3)], 0, []⟩ :: ⟨[(85, some 4)], 0, []⟩ :: ⟨[(83, some 2), (86, some 5)], 0, []⟩ :: ⟨[(9, none)], 0, []⟩ :: ⟨[(88, some 7)], 0, []⟩ :: ⟨[(0, none)], 0, []⟩ :: ⟨[(90, some 9)], 0, []⟩ :: ⟨[(89, some 8), (91, some 10)], 0, []⟩ :: ⟨[(87, some 6), (92, some 11)], 0, []⟩ :: ⟨[(93, some 12)], 0, []⟩ :: ⟨[(9, none), (94, some 13)], 94, []⟩ :: ⟨[(95, some 14), (94, some 13)], 94, []⟩ :: ⟨[(96, some 15), (94, some 13)], 94, []⟩ :: ⟨[(97, some 16), (94, some 13)], 94, []⟩ :: ⟨[(9, none), (94, some 13)], 94, []⟩ :: ⟨[(99, some 18), (94, some 13)], 94, []⟩ :: ⟨[(100, some 19), (94, some 13)], 94, []⟩ :: ⟨[(101, some 20), (94, some 13)], 94, []⟩ :: ⟨[(98, some 17), (102, some 21), (94, some 13)], 94, []⟩ :: ⟨[(94, some 13), (103, some 22)], 0, []⟩ :: ⟨[(104, some 23)], 0, []⟩ :: [])
            (none :: none :: none :: none :: none :: none :: none :: none :: some 24 :: none :: none :: none :: none :: none :: none :: none :: none :: none :: none :: none :: none :: none :: none :: none :: none :: none :: none :: none :: none :: none :: none :: none :: none :: none :: none :: none :: none :: none :: none :: none :: none :: none :: none :: none :: none :: none :: none :: none :: none :: none :: none :: none :: none :: none :: none :: none :: none :: none :: none :: none :: none :: none :: none :: none :: none :: none :: none :: none :: none :: none :: none :: none :: none :: none :: none :: none :: none :: none :: none :: none :: none :: some 0 :: some 1 :: some 2 :: some 3 :: some 4 :: some 5 :: some 6 :: some 7 :: some 8 :: some 9 :: some 10 :: some 11 :: some 12 :: some 13 :: some 14 :: some 15 :: some 16 :: some 17 :: some 18 :: some 19 :: some 20 :: some 21 :: some 22 :: some 23 :: [])
            (fun _ w' => Below wc.heap.size wc w') (fun _ w w' => Below w.heap.size w w') ?mixK ?okK ?tabK ?frK ?inK ?keptK ?startK ?eachK ?finK
          case mixK => kernel_rfl
          case okK => kernel_rfl
          case tabK => kernel_rfl
          case frK => kernel_rfl
          case inK => rfl
          case keptK => exact ⟨fun _ _ _ _ _ _ _ h => h, fun _ _ _ => fun w w' v hG ⟨A', c', e, h⟩ => ⟨A', c', e, h.up hG⟩, fun _ _ _ _ _ _ _ h => h, fun _ _ _ _ _ _ _ h => h, fun _ _ _ => fun w w' v hG ⟨A', c', e, h⟩ => ⟨A', c', e, h.up hG⟩, fun _ _ _ _ _ _ _ h => h, fun _ _ _ _ _ _ _ h => h, fun _ _ _ _ _ _ _ h => h, fun _ _ _ _ _ _ _ h => h, fun _ _ _ _ _ _ _ h => h, fun _ _ _ _ _ _ _ h => h, fun _ _ _ _ _ _ _ h => h, fun _ _ _ _ _ _ _ h => h, fun _ _ _ _ _ _ _ h => h, fun _ _ _ _ _ _ _ h => h, fun _ _ _ _ _ _ _ h => h, fun _ _ _ => fun w w' v hG ⟨A', c', e, h⟩ => ⟨A', c', e, h.up hG⟩, fun _ _ _ _ _ _ _ h => h, fun _ _ _ _ _ _ _ h => h, fun _ _ _ _ _ _ _ h => h, fun _ _ _ => fun w w' v hG ⟨A', c', e, h⟩ => ⟨A', c', e, h.up hG⟩, fun _ _ _ _ _ _ _ h => h, fun _ _ _ _ _ _ _ h => h, fun _ _ _ _ _ _ _ h => h, fun _ _ _ _ _ _ _ h => h, trivial⟩
          case startK => exact (Below.refl _ _).drew
          case eachK =>
            refine ⟨?_, ?_, ?_, ?_, ?_, ?_, ?_, ?_, ?_, ?_, ?_, ?_, ?_, ?_, ?_, ?_, ?_, ?_, ?_, ?_, ?_, ?_, ?_, ?_, ?_, trivial⟩
            -- 0: slot 81 := move t9
            · intro w L f hC hLi hLd hLn hF
              obtain ⟨d9, _⟩ := hF
              have d9 : f 9 = .slice (some ⟨g, 0, none⟩) l.length cap := d9
              refine Step2.live rfl ?_
              exact relUpon_value (v := f 9) rfl (hC) (Below.refl _ _) d9
            -- 1: slot 82 := buildSlice 22 1 #[(0, t81)]
            · intro w L f hC hLi hLd hLn hF
              obtain ⟨d81, _⟩ := hF
              have d81 : f 81 = .slice (some ⟨g, 0, none⟩) l.length cap := d81
              refine Step2.live rfl ?_
              have ev : ∀ t, evalOf f (.tmp t) = f t := fun _ => rfl
              have ec : ∀ c, evalOf f (.const c) = c := fun _ => rfl
              have ef : ∀ g, evalOf f (.func g) = .func (.func g) #[] #[] := fun _ => rfl
              refine relUpon_value (w' := w.alloc (.cells #[.slice (some ⟨g, 0, none⟩) l.length cap] 33)) (v := .slice (some ⟨w.heap.size, 0, none⟩) 1 1) (by go_simp) (hC.alloc hC.size _) (below_new _ _) ⟨_, _, rfl, Slices.one _ (by simp [turn_length]) (by unfold maxLen; omega) ((hT3.out.below hC).more hC.size)⟩
            -- 2: slot 83 := call { value (Operand.func 9), args := #[t82], argTypes := #[22] }
            · intro w L f hC hLi hLd hLn hF
              obtain ⟨d82, _⟩ := hF
              refine Step2.live rfl ?_
              obtain ⟨A', c', e0, hs⟩ := d82
              have ev : ∀ t, evalOf f (.tmp t) = f t := fun _ => rfl
              have ec : ∀ c, evalOf f (.const c) = c := fun _ => rfl
              have ef : ∀ g, evalOf f (.func g) = .func (.func g) #[] #[] := fun _ => rfl
              refine relUpon_call (f := 9) (args := #[.slice A' 1 c']) (w := w) (by go_simp) (crc_len _ A' 1 c' [(turn (turn (turn l p) q) r)] hs rfl (by simp [maxLen])) ?_
              exact fun e w1 ⟨he, hb⟩ => ⟨_, he, hC.trans (hb.mono hC.size), hb, rfl⟩
            -- 3: slot 84 := move t0
            · intro w L f hC hLi hLd hLn hF
              obtain ⟨d0, _⟩ := hF
              have d0 : f 0 = .slice A l.length c := d0
              refine Step2.live rfl ?_
              exact relUpon_value (v := f 0) rfl (hC) (Below.refl _ _) d0
            -- 4: slot 85 := buildSlice 22 1 #[(0, t84)]
            · intro w L f hC hLi hLd hLn hF
              obtain ⟨d84, _⟩ := hF
              have d84 : f 84 = .slice A l.length c := d84
              refine Step2.live rfl ?_
              have ev : ∀ t, evalOf f (.tmp t) = f t := fun _ => rfl
              have ec : ∀ c, evalOf f (.const c) = c := fun _ => rfl
              have ef : ∀ g, evalOf f (.func g) = .func (.func g) #[] #[] := fun _ => rfl
              refine relUpon_value (w' := w.alloc (.cells #[.slice A l.length c] 33)) (v := .slice (some ⟨w.heap.size, 0, none⟩) 1 1) (by go_simp) (hC.alloc hC.size _) (below_new _ _) ⟨_, _, rfl, Slices.one _ rfl (by unfold maxLen; omega) ((hLb.out.below hC).more hC.size)⟩
            -- 5: slot 86 := call { value (Operand.func 9), args := #[t85], argTypes := #[22] }
            · intro w L f hC hLi hLd hLn hF
              obtain ⟨d85, _⟩ := hF
              refine Step2.live rfl ?_
              obtain ⟨A', c', e0, hs⟩ := d85
              have ev : ∀ t, evalOf f (.tmp t) = f t := fun _ => rfl
              have ec : ∀ c, evalOf f (.const c) = c := fun _ => rfl
              have ef : ∀ g, evalOf f (.func g) = .func (.func g) #[] #[] := fun _ => rfl
              refine relUpon_call (f := 9) (args := #[.slice A' 1 c']) (w := w) (by go_simp) (crc_len _ A' 1 c' [l] hs rfl (by simp [maxLen])) ?_
              exact fun e w1 ⟨he, hb⟩ => ⟨_, he, hC.trans (hb.mono hC.size), hb, rfl⟩
            -- 6: slot 87 := binOp BinOp.eql 25 t83 t86 25
            · intro w L f hC hLi hLd hLn hF
              obtain ⟨d83, d86, _⟩ := hF
              have d83 : f 83 = .int .u32 (crcOf [(turn (turn (turn l p) q) r)] : Nat) := d83
              have d86 : f 86 = .int .u32 (crcOf [l] : Nat) := d86
              refine Step2.live rfl ?_
              have ev : ∀ t, evalOf f (.tmp t) = f t := fun _ => rfl
              have ec : ∀ c, evalOf f (.const c) = c := fun _ => rfl
              have ef : ∀ g, evalOf f (.func g) = .func (.func g) #[] #[] := fun _ => rfl
              have hcf := hcf.out
              refine relUpon_value ?_ hC (Below.refl _ _) rfl
              go_simp
            -- 7: slot 88 := move t9
            · intro w L f hC hLi hLd hLn hF
              obtain ⟨d9, _⟩ := hF
              have d9 : f 9 = .slice (some ⟨g, 0, none⟩) l.length cap := d9
              refine Step2.live rfl ?_
              exact relUpon_value (v := f 9) rfl (hC) (Below.refl _ _) d9
            -- 8: slot 89 := convert 33 9 t88
            · intro w L f hC hLi hLd hLn hF
              obtain ⟨d88, _⟩ := hF
              have d88 : f 88 = .slice (some ⟨g, 0, none⟩) l.length cap := d88
              refine Step2.live rfl ?_
              have kv := run_text (P := Try.prog) w 33 5 Try.underlying33 Try.underlying5 (some ⟨g, 0, none⟩) l.length cap (turn (turn (turn l p) q) r) (by simp [turn_length]) (hT3.out.below hC) 9 Try.underlying9
              have ev : ∀ t, evalOf f (.tmp t) = f t := fun _ => rfl
              have ec : ∀ c, evalOf f (.const c) = c := fun _ => rfl
              have ef : ∀ g, evalOf f (.func g) = .func (.func g) #[] #[] := fun _ => rfl
              refine relUpon_value ?_ hC (Below.refl _ _) rfl
              go_simp
            -- 9: slot 90 := move t0
            · intro w L f hC hLi hLd hLn hF
              obtain ⟨d0, _⟩ := hF
              have d0 : f 0 = .slice A l.length c := d0
              refine Step2.live rfl ?_
              exact relUpon_value (v := f 0) rfl (hC) (Below.refl _ _) d0
            -- 10: slot 91 := convert 33 9 t90
            · intro w L f hC hLi hLd hLn hF
              obtain ⟨d90, _⟩ := hF
              have d90 : f 90 = .slice A l.length c := d90
              refine Step2.live rfl ?_
              have kv := run_text (P := Try.prog) w 33 5 Try.underlying33 Try.underlying5 A l.length c l (rfl) (hLb.out.below hC) 9 Try.underlying9
              have ev : ∀ t, evalOf f (.tmp t) = f t := fun _ => rfl
              have ec : ∀ c, evalOf f (.const c) = c := fun _ => rfl
              have ef : ∀ g, evalOf f (.func g) = .func (.func g) #[] #[] := fun _ => rfl
              refine relUpon_value ?_ hC (Below.refl _ _) rfl
              go_simp
            -- 11: slot 92 := binOp BinOp.eql 9 t89 t91 9
            · intro w L f hC hLi hLd hLn hF
              obtain ⟨d89, d91, _⟩ := hF
              have d89 : f 89 = .string (strV (turn (turn (turn l p) q) r)) := d89
              have d91 : f 91 = .string (strV l) := d91
              refine Step2.live rfl ?_
              have ev : ∀ t, evalOf f (.tmp t) = f t := fun _ => rfl
              have ec : ∀ c, evalOf f (.const c) = c := fun _ => rfl
              have ef : ∀ g, evalOf f (.func g) = .func (.func g) #[] #[] := fun _ => rfl
              have hsf := hsf.out
              refine relUpon_value ?_ hC (Below.refl _ _) rfl
              go_simp
            -- 12: slot 93 := binOp BinOp.eql 4 t87 t92 4
            · intro w L f hC hLi hLd hLn hF
              obtain ⟨d87, d92, _⟩ := hF
              have d87 : f 87 = .bool false := d87
              have d92 : f 92 = .bool false := d92
              refine Step2.live rfl ?_
              have ev : ∀ t, evalOf f (.tmp t) = f t := fun _ => rfl
              have ec : ∀ c, evalOf f (.const c) = c := fun _ => rfl
              refine relUpon_value ?_ (hC) (Below.refl _ _) rfl
              go_simp
            -- 13: slot 94 := move t93
            · intro w L f hC hLi hLd hLn hF
              obtain ⟨d93, _⟩ := hF
              have d93 : f 93 = .bool true := d93
              refine Step2.live rfl ?_
              exact relUpon_value (v := f 93) rfl (hC) (Below.refl _ _) d93
            -- 14: slot 95 := move t9
            · intro w L f hC hLi hLd hLn hF
              obtain ⟨d9, d94, _⟩ := hF
              have d9 : f 9 = .slice (some ⟨g, 0, none⟩) l.length cap := d9
              have d94 : f 94 = .bool true := d94
              refine Step2.live (show wantedBy _ (f 94) = true by rw [d94]; rfl) ?_
              exact relUpon_value (v := f 9) rfl (hC) (Below.refl _ _) d9
            -- 15: slot 96 := convert 33 9 t95
            · intro w L f hC hLi hLd hLn hF
              obtain ⟨d95, d94, _⟩ := hF
              have d95 : f 95 = .slice (some ⟨g, 0, none⟩) l.length cap := d95
              have d94 : f 94 = .bool true := d94
              refine Step2.live (show wantedBy _ (f 94) = true by rw [d94]; rfl) ?_
              have kv := run_text (P := Try.prog) w 33 5 Try.underlying33 Try.underlying5 (some ⟨g, 0, none⟩) l.length cap (turn (turn (turn l p) q) r) (by simp [turn_length]) (hT3.out.below hC) 9 Try.underlying9
              have ev : ∀ t, evalOf f (.tmp t) = f t := fun _ => rfl
              have ec : ∀ c, evalOf f (.const c) = c := fun _ => rfl
              have ef : ∀ g, evalOf f (.func g) = .func (.func g) #[] #[] := fun _ => rfl
              refine relUpon_value ?_ hC (Below.refl _ _) rfl
              go_simp
            -- 16: slot 97 := buildSlice 30 1 #[(0, t96)]
            · intro w L f hC hLi hLd hLn hF
              obtain ⟨d96, d94, _⟩ := hF
              have d96 : f 96 = .string (strV (turn (turn (turn l p) q) r)) := d96
              have d94 : f 94 = .bool true := d94
              refine Step2.live (show wantedBy _ (f 94) = true by rw [d94]; rfl) ?_
              have ev : ∀ t, evalOf f (.tmp t) = f t := fun _ => rfl
              have ec : ∀ c, evalOf f (.const c) = c := fun _ => rfl
              have ef : ∀ g, evalOf f (.func g) = .func (.func g) #[] #[] := fun _ => rfl
              refine relUpon_value (w' := w.alloc (.cells #[.string (strV (turn (turn (turn l p) q) r))] 9)) (v := .slice (some ⟨w.heap.size, 0, none⟩) 1 1) (by go_simp) (hC.alloc hC.size _) (below_new _ _) ⟨_, _, rfl, Strs.new _ _ [strV (turn (turn (turn l p) q) r)]⟩
            -- 17: slot 98 := call { value (Operand.func 11), args := #[t97], argTypes := #[30] }
            · intro w L f hC hLi hLd hLn hF
              obtain ⟨d97, d94, _⟩ := hF
              have d94 : f 94 = .bool true := d94
              refine Step2.live (show wantedBy _ (f 94) = true by rw [d94]; rfl) ?_
              obtain ⟨A', c', e0, hs⟩ := d97
              have ev : ∀ t, evalOf f (.tmp t) = f t := fun _ => rfl
              have ec : ∀ c, evalOf f (.const c) = c := fun _ => rfl
              have ef : ∀ g, evalOf f (.func g) = .func (.func g) #[] #[] := fun _ => rfl
              refine relUpon_call (f := 11) (args := #[.slice A' 1 c']) (w := w) (by go_simp) (print_len _ A' 1 c' [strV (turn (turn (turn l p) q) r)] hs hss.out rfl (by simp [maxLen])) ?_
              exact fun e w1 ⟨he, hb⟩ => ⟨_, he, hb ▸ hC, hb ▸ Below.refl _ _, rfl⟩
            -- 18: slot 99 := move t9
            · intro w L f hC hLi hLd hLn hF
              obtain ⟨d9, d94, _⟩ := hF
              have d9 : f 9 = .slice (some ⟨g, 0, none⟩) l.length cap := d9
              have d94 : f 94 = .bool true := d94
              refine Step2.live (show wantedBy _ (f 94) = true by rw [d94]; rfl) ?_
              exact relUpon_value (v := f 9) rfl (hC) (Below.refl _ _) d9
            -- 19: slot 100 := convert 33 9 t99
            · intro w L f hC hLi hLd hLn hF
              obtain ⟨d99, d94, _⟩ := hF
              have d99 : f 99 = .slice (some ⟨g, 0, none⟩) l.length cap := d99
              have d94 : f 94 = .bool true := d94
              refine Step2.live (show wantedBy _ (f 94) = true by rw [d94]; rfl) ?_
              have kv := run_text (P := Try.prog) w 33 5 Try.underlying33 Try.underlying5 (some ⟨g, 0, none⟩) l.length cap (turn (turn (turn l p) q) r) (by simp [turn_length]) (hT3.out.below hC) 9 Try.underlying9
              have ev : ∀ t, evalOf f (.tmp t) = f t := fun _ => rfl
              have ec : ∀ c, evalOf f (.const c) = c := fun _ => rfl
              have ef : ∀ g, evalOf f (.func g) = .func (.func g) #[] #[] := fun _ => rfl
              refine relUpon_value ?_ hC (Below.refl _ _) rfl
              go_simp
            -- 20: slot 101 := buildSlice 30 1 #[(0, t100)]
            · intro w L f hC hLi hLd hLn hF
              obtain ⟨d100, d94, _⟩ := hF
              have d100 : f 100 = .string (strV (turn (turn (turn l p) q) r)) := d100
              have d94 : f 94 = .bool true := d94
              refine Step2.live (show wantedBy _ (f 94) = true by rw [d94]; rfl) ?_
              have ev : ∀ t, evalOf f (.tmp t) = f t := fun _ => rfl
              have ec : ∀ c, evalOf f (.const c) = c := fun _ => rfl
              have ef : ∀ g, evalOf f (.func g) = .func (.func g) #[] #[] := fun _ => rfl
              refine relUpon_value (w' := w.alloc (.cells #[.string (strV (turn (turn (turn l p) q) r))] 9)) (v := .slice (some ⟨w.heap.size, 0, none⟩) 1 1) (by go_simp) (hC.alloc hC.size _) (below_new _ _) ⟨_, _, rfl, Strs.new _ _ [strV (turn (turn (turn l p) q) r)]⟩
            -- 21: slot 102 := call { value (Operand.func 13), args := #[t101], argTypes := #[30] }
            · intro w L f hC hLi hLd hLn hF
              obtain ⟨d101, d94, _⟩ := hF
              have d94 : f 94 = .bool true := d94
              refine Step2.live (show wantedBy _ (f 94) = true by rw [d94]; rfl) ?_
              obtain ⟨A', c', e0, hs⟩ := d101
              have ev : ∀ t, evalOf f (.tmp t) = f t := fun _ => rfl
              have ec : ∀ c, evalOf f (.const c) = c := fun _ => rfl
              have ef : ∀ g, evalOf f (.func g) = .func (.func g) #[] #[] := fun _ => rfl
              refine relUpon_call (f := 13) (args := #[.slice A' 1 c']) (w := w) (by go_simp) (refprint_len _ A' 1 c' [strV (turn (turn (turn l p) q) r)] hs hss.out rfl (by simp [maxLen])) ?_
              exact fun e w1 ⟨he, hb⟩ => ⟨_, he, hb ▸ hC, hb ▸ Below.refl _ _, rfl⟩
            -- 22: slot 103 := binOp BinOp.eql 28 t98 t102 28
            · intro w L f hC hLi hLd hLn hF
              obtain ⟨d98, d102, d94, _⟩ := hF
              have d98 : f 98 = .int .u64 (printOf [strV (turn (turn (turn l p) q) r)] : Nat) := d98
              have d102 : f 102 = .int .u64 (printOf [strV (turn (turn (turn l p) q) r)] : Nat) := d102
              have d94 : f 94 = .bool true := d94
              refine Step2.live (show wantedBy _ (f 94) = true by rw [d94]; rfl) ?_
              have ev : ∀ t, evalOf f (.tmp t) = f t := fun _ => rfl
              have ec : ∀ c, evalOf f (.const c) = c := fun _ => rfl
              refine relUpon_value ?_ (hC) (Below.refl _ _) rfl
              go_simp
            -- 23: slot 104 := pick t94 t103 (const (Value.bool false))
            · intro w L f hC hLi hLd hLn hF
              obtain ⟨d94, d103, _⟩ := hF
              have d94 : f 94 = .bool true := d94
              have d103 : f 103 = .bool true := d103
              refine Step2.live rfl ?_
              have ev : ∀ t, evalOf f (.tmp t) = f t := fun _ => rfl
              have ec : ∀ c, evalOf f (.const c) = c := fun _ => rfl
              refine relUpon_value ?_ (hC) (Below.refl _ _) rfl
              go_simp
            -- 24: slot 8 := assign t104
            · intro w L f hC hLi hLd hLn hF
              obtain ⟨d104, _⟩ := hF
              have d104 : f 104 = .bool true := d104
              refine Step2.live rfl ?_
              exact relUpon_value (v := f 104) rfl (hC) (Below.refl _ _) d104
          case finK =>
            intro x w' hC hV
            have e24 : x 24 = .bool true := hV 24 _ rfl rfl
            simp only [framed]
            rw [e24]
            clear hV
            go_wp2
            go_ret
            exact ⟨rfl, hBc.trans (hC.mono hBc.size)⟩




  · have hz : ((l.length : Int) == 0) = false := by rw [beq_eq_false_iff_ne]; omega
    have hbig' : (500 : Int) < l.length := by omega
    go_wp2
    go_ret
    exact ⟨rfl, hb1⟩

theorem turned_walk (W : World) (v0 v1 v2 v3 : Value) (o0 : ArgOk 33 W v0) (o1 : ArgOk 35 W v1) (o2 : ArgOk 35 W v2) (o3 : ArgOk 35 W v3) :
    Calls Try.prog 5 #[v0, v1, v2, v3] W fun e w' => e = .returned (.bool true) ∧ Below W.heap.size W w' := by
  obtain ⟨A, n, c, l, rfl, rfl, hn, hc, hl⟩ := o0.bytes
  obtain ⟨i, rfl, hi⟩ := o1.u16
  obtain ⟨j, rfl, hj⟩ := o2.u16
  obtain ⟨k, rfl, hk⟩ := o3.u16
  exact turned_any W A c l i j k hi hj hk hl

end Go.Proofs.Ytbpmgdcfcmjoiaa
