/-
  The walk of the reference's Add: into a list, in its place, once.
-/
import Derived.Test.YtkohobkeapcpfaaPtQ
import Derived.Test.YtkohobkeapcpfaaProg
import Derived.Sort.Walk0
import Derived.Test.YtkohobkeapcpfaaRelL
import Derived.Test.YtkohobkeapcpfaaKp
namespace Go.Proofs.Ytkohobkeapcpfaa
open Go.RowKit

theorem Try.infoStr2 : (Try.prog.info? 9).map (fun i => (i.zero, i.size, i.bytes)) = some (some (.string ⟨#[]⟩), 1, 16) := by kernel_rfl
theorem bless2 (x y : S) : Op.bytesLess x y = decide (x < y) := Go.Proofs.bytesLess_eq x y
theorem enc_one2 {l : List S} : ∀ u ∈ l.map encStr, u.oneCell' = true := by
  intro u hu
  obtain ⟨x, _, rfl⟩ := List.mem_map.1 hu
  rfl
theorem enc_cons {s : S} {l : List S} : ∀ u ∈ [encStr s] ++ l.map encStr, u.oneCell' = true := by
  intro u hu
  rcases List.mem_append.1 hu with h | h
  · simp at h
    subst h
    rfl
  · exact enc_one2 u h
/-- v is a slice of the strings l. -/
def StrV (w : World) (l : List S) (v : Value) : Prop := ∃ A c, v = .slice A l.length c ∧ Row w w.heap.size A (l.map encStr) ∧ l.length ≤ c
theorem StrV.of {w : World} {l : List S} {v : Value} (h : Sl w (l.map encStr) v) : StrV w l v := by
  obtain ⟨A, c, e, h1, h2⟩ := h
  rw [List.length_map] at e h2
  exact ⟨A, c, e, h1, h2⟩
theorem StrV.sl {w : World} {l : List S} {v : Value} (h : StrV w l v) : Sl w (l.map encStr) v := by
  obtain ⟨A, c, e, h1, h2⟩ := h
  exact ⟨A, c, by rw [List.length_map]; exact e, h1, by rw [List.length_map]; exact h2⟩
theorem StrV.up {w w' : World} {l : List S} {v : Value} (h : StrV w l v) (hb : Below w.heap.size w w') : StrV w' l v := .of (h.sl.up hb)
def RetS (w0 : World) (l : List S) (e : Ending) (w' : World) : Prop := (∃ v, e = .returned v ∧ StrV w' l v) ∧ Below w0.heap.size w0 w'

set_option maxRecDepth 100000 in
set_option maxHeartbeats 4000000 in
theorem add_any (w0 : World) (A : Option Addr) (n c : Nat) (l : List S) (s : S) (hn : l.length = n) (hm : n ≤ 100000) (hc : n ≤ c) (hr : Row w0 w0.heap.size A (l.map encStr)) :
    Calls Try.prog 24 #[.slice A n c, encStr s] w0 (RetS w0 (addS l s)) := by
  obtain ⟨iS, hiS, hzS0, hzS1, hzS2⟩ := info_parts Try.infoStr2
  have hn' := Lib.hid hn
  have hr' := Lib.hid hr
  clear hn hr
  go_enter Try.func24, Try.ntmps24
  go_wp2_with fail
  go_loop [5] (fun i => ∃ k : Nat, k ≤ n ∧ i = .int .i64 k ∧ ∀ y ∈ l.take k, y < s) (fun i => n - (intOf i).toNat)
  case atStart => exact ⟨0, Nat.zero_le _, rfl, by simp⟩
  obtain ⟨k, hk, rfl, hall⟩ := hrel
  have hall := Lib.hid hall
  rename_i u1
  clear u1
  by_cases hlt : k < n
  · have hlt2 : k < l.length := by rw [hn'.out]; exact hlt
    obtain ⟨b, off, rfl, _, hcell⟩ := hr'.out.at_ (k := k) (by simpa using hlt2)
    rw [List.getElem_map] at hcell
    obtain ⟨y, hy0⟩ : ∃ y, y = l[k] := ⟨_, rfl⟩
    rw [← hy0] at hcell
    have hy := Lib.hid hy0
    clear hy0
    have htk : Hid (l.take (k + 1) = l.take k ++ [y]) := Lib.hid (by rw [hy.out]; exact List.take_succ_eq_append_getElem hlt2)
    by_cases hyx : y < s
    · have hbl : Op.bytesLess y s = true := by rw [bless2]; simpa using hyx
      have hyx2 := Lib.hid hyx
      clear hyx
      go_wp2_with fail
      go_round
      case rel => exact ⟨k + 1, by omega, by go_num, by
        rw [htk.out]
        intro z hz
        rcases List.mem_append.1 hz with h | h
        · exact hall.out z h
        · simp at h
          subst h
          exact hyx2.out⟩
      case measure => simp [intOf]; omega
    · have hbl : Op.bytesLess y s = false := by rw [bless2]; simpa using hyx
      have hyx2 := Lib.hid hyx
      clear hyx
      by_cases hxy : y = s
      · subst hxy
        have hd := Lib.hid (addS_eq k l y hall.out hlt2 hy.out.symm)
        go_wp2_with fail
        go_ret
        exact ⟨⟨.slice (some ⟨b, off, none⟩) n c, rfl, some ⟨b, off, none⟩, c, by rw [hd.out, hn'.out], by rw [hd.out]; exact hr'.out, by rw [hd.out, hn'.out]; exact hc⟩, Below.refl _ _⟩
      · have hbq : (y == s) = false := by simpa using hxy
        have hd := Lib.hid (addS_ins k l s hall.out (by omega) (fun h => ⟨by rw [← hy.out]; exact hyx2.out, by rw [← hy.out]; exact hxy⟩))
        clear hxy
        go_wp2_with fail
        have hkc : k ≤ c := by omega
        have hrT := Lib.hid (show Row w0 w0.heap.size (some (⟨b, off, none⟩ : Addr)) ((l.take k).map encStr) by rw [List.map_take]; exact hr'.out.take k)
        have hrD := Lib.hid (show Row w0 w0.heap.size (if c = k then (some (⟨b, off, none⟩ : Addr)) else Option.map (fun a => a.add k) (some (⟨b, off, none⟩ : Addr))) ((l.drop k).map encStr) by
          have := hr'.out.cut k (c := c) (by rw [List.length_map, hn'.out]; exact hc)
          rw [← List.map_drop] at this
          exact this)
        have hlT := Lib.hid (show ((l.take k).map encStr).length = k by rw [List.length_map, List.length_take, hn'.out]; omega)
        have hlD := Lib.hid (show ((l.drop k).map encStr).length = n - k by rw [List.length_map, List.length_drop, hn'.out])
        -- THE REGION THAT DRAWS ITS ORDER, BY ONE LEXICAL WALK OVER GENERIC VALUES (written by relgen.py)
        refine wp_region_tab ((fun _ v => v = .slice (some (⟨b, off, none⟩ : Addr)) n c) ::
          (fun _ v => v = .int .i64 k) ::
          (fun _ v => v = .int .i64 k) ::
          (fun _ v => v = .slice (some (⟨b, off, none⟩ : Addr)) k k) ::
          (fun _ v => v = encStr s) ::
          (fun w v => ∃ A1, v = .slice A1 1 1 ∧ Row w w.heap.size A1 [encStr s]) ::
          (fun _ v => v = .slice (some (⟨b, off, none⟩ : Addr)) n c) ::
          (fun _ v => v = .int .i64 k) ::
          (fun _ v => v = .slice (if c = k then (some (⟨b, off, none⟩ : Addr)) else Option.map (fun a => a.add k) (some (⟨b, off, none⟩ : Addr))) (n - k) (c - k)) ::
          (fun w v => Sl w ([encStr s] ++ (l.drop k).map encStr) v) ::
          (fun w v => Sl w ((l.take k).map encStr ++ ([encStr s] ++ (l.drop k).map encStr)) v) ::
          (fun w v => Sl w ((l.take k).map encStr ++ ([encStr s] ++ (l.drop k).map encStr)) v) :: [])
          (⟨[(0, none)], 0, []⟩ :: ⟨[(5, none)], 0, []⟩ :: ⟨[(5, none)], 0, []⟩ :: ⟨[(33, some 0), (34, some 1), (35, some 2)], 0, []⟩ :: ⟨[(1, none)], 0, []⟩ :: ⟨[(37, some 4)], 0, []⟩ :: ⟨[(0, none)], 0, []⟩ :: ⟨[(5, none)], 0, []⟩ :: ⟨[(39, some 6), (40, some 7)], 0, []⟩ :: ⟨[(38, some 5), (41, some 8)], 0, []⟩ :: ⟨[(36, some 3), (42, some 9)], 0, []⟩ :: ⟨[(43, some 10)], 0, []⟩ :: [])
          (none :: none :: none :: none :: some 11 :: none :: none :: none :: none :: none :: none :: none :: none :: none :: none :: none :: none :: none :: none :: none :: none :: none :: none :: none :: none :: none :: none :: none :: none :: none :: none :: none :: none :: some 0 :: some 1 :: some 2 :: some 3 :: some 4 :: some 5 :: some 6 :: some 7 :: some 8 :: some 9 :: some 10 :: [])
          (fun _ w' => Below w0.heap.size w0 w') (fun _ w w' => Below w.heap.size w w') ?mixK6adda ?okK6adda ?tabK6adda ?frK6adda ?inK6adda ?keptK6adda ?startK6adda ?eachK6adda ?finK6adda
        case mixK6adda => kernel_rfl
        case okK6adda => kernel_rfl
        case tabK6adda => kernel_rfl
        case frK6adda => kernel_rfl
        case inK6adda => rfl
        case keptK6adda => exact ⟨fun _ _ _ _ _ _ _ h => h, fun _ _ _ _ _ _ _ h => h, fun _ _ _ _ _ _ _ h => h, fun _ _ _ _ _ _ _ h => h, fun _ _ _ _ _ _ _ h => h, fun _ _ _ => fun w w' v hG ⟨A1, e, h⟩ => ⟨A1, e, (h.below hG).more hG.size⟩, fun _ _ _ _ _ _ _ h => h, fun _ _ _ _ _ _ _ h => h, fun _ _ _ _ _ _ _ h => h, fun _ _ _ => fun w w' v hG h => h.up hG, fun _ _ _ => fun w w' v hG h => h.up hG, fun _ _ _ => fun w w' v hG h => h.up hG, trivial⟩
        case startK6adda => exact (Below.refl _ _).drew
        case eachK6adda =>
          refine ⟨?_, ?_, ?_, ?_, ?_, ?_, ?_, ?_, ?_, ?_, ?_, ?_, trivial⟩
          -- 0: slot 33 := move t0
          · intro w L f hC hLi hLd hLn hF
            obtain ⟨d0, _⟩ := hF
            have d0 : f 0 = .slice (some (⟨b, off, none⟩ : Addr)) n c := d0
            refine Step2.live rfl ?_
            exact relUpon_value (v := f 0) rfl (hC) (Below.refl _ _) d0
          -- 1: slot 34 := move t5
          · intro w L f hC hLi hLd hLn hF
            obtain ⟨d5, _⟩ := hF
            have d5 : f 5 = .int .i64 k := d5
            refine Step2.live rfl ?_
            exact relUpon_value (v := f 5) rfl (hC) (Below.refl _ _) d5
          -- 2: slot 35 := move t5
          · intro w L f hC hLi hLd hLn hF
            obtain ⟨d5, _⟩ := hF
            have d5 : f 5 = .int .i64 k := d5
            refine Step2.live rfl ?_
            exact relUpon_value (v := f 5) rfl (hC) (Below.refl _ _) d5
          -- 3: slot 36 := slice 23 t33 none (some t34) (some t35)
          · intro w L f hC hLi hLd hLn hF
            obtain ⟨d33, d34, d35, _⟩ := hF
            have d33 : f 33 = .slice (some (⟨b, off, none⟩ : Addr)) n c := d33
            have d34 : f 34 = .int .i64 k := d34
            have d35 : f 35 = .int .i64 k := d35
            refine Step2.live rfl ?_
            have ev : ∀ t, evalOf f (.tmp t) = f t := fun _ => rfl
            have ec : ∀ c, evalOf f (.const c) = c := fun _ => rfl
            have ef : ∀ g, evalOf f (.func g) = .func (.func g) #[] #[] := fun _ => rfl
            refine relUpon_value ?_ hC (Below.refl _ _) rfl
            go_simp
          -- 4: slot 37 := move t1
          · intro w L f hC hLi hLd hLn hF
            obtain ⟨d1, _⟩ := hF
            have d1 : f 1 = encStr s := d1
            refine Step2.live rfl ?_
            exact relUpon_value (v := f 1) rfl (hC) (Below.refl _ _) d1
          -- 5: slot 38 := buildSlice 23 1 #[(0, t37)]
          · intro w L f hC hLi hLd hLn hF
            obtain ⟨d37, _⟩ := hF
            have d37 : f 37 = encStr s := d37
            refine Step2.live rfl ?_
            have hbn := below_new w (.cells #[encStr s] 9)
            have ev : ∀ t, evalOf f (.tmp t) = f t := fun _ => rfl
            have ec : ∀ c, evalOf f (.const c) = c := fun _ => rfl
            have ef : ∀ g, evalOf f (.func g) = .func (.func g) #[] #[] := fun _ => rfl
            refine relUpon_value (w' := w.alloc (.cells #[encStr s] 9)) (v := .slice (some ⟨w.heap.size, 0, none⟩) 1 1) (by go_simp) (hC.trans (hbn.mono hC.size)) hbn ⟨_, rfl, Row.fresh w 9 [encStr s]⟩
          -- 6: slot 39 := move t0
          · intro w L f hC hLi hLd hLn hF
            obtain ⟨d0, _⟩ := hF
            have d0 : f 0 = .slice (some (⟨b, off, none⟩ : Addr)) n c := d0
            refine Step2.live rfl ?_
            exact relUpon_value (v := f 0) rfl (hC) (Below.refl _ _) d0
          -- 7: slot 40 := move t5
          · intro w L f hC hLi hLd hLn hF
            obtain ⟨d5, _⟩ := hF
            have d5 : f 5 = .int .i64 k := d5
            refine Step2.live rfl ?_
            exact relUpon_value (v := f 5) rfl (hC) (Below.refl _ _) d5
          -- 8: slot 41 := slice 23 t39 (some t40) none none
          · intro w L f hC hLi hLd hLn hF
            obtain ⟨d39, d40, _⟩ := hF
            have d39 : f 39 = .slice (some (⟨b, off, none⟩ : Addr)) n c := d39
            have d40 : f 40 = .int .i64 k := d40
            refine Step2.live rfl ?_
            have ev : ∀ t, evalOf f (.tmp t) = f t := fun _ => rfl
            have ec : ∀ c, evalOf f (.const c) = c := fun _ => rfl
            have ef : ∀ g, evalOf f (.func g) = .func (.func g) #[] #[] := fun _ => rfl
            refine relUpon_value ?_ hC (Below.refl _ _) rfl
            go_simp
          -- 9: slot 42 := call { builtin append, args := #[t38, t41], argTypes := #[23, 23] }
          · intro w L f hC hLi hLd hLn hF
            obtain ⟨d38, d41, _⟩ := hF
            have d41 : f 41 = .slice (if c = k then (some (⟨b, off, none⟩ : Addr)) else Option.map (fun a => a.add k) (some (⟨b, off, none⟩ : Addr))) (n - k) (c - k) := d41
            refine Step2.live rfl ?_
            obtain ⟨A1, e1, h1⟩ := d38
            have ev : ∀ t, evalOf f (.tmp t) = f t := fun _ => rfl
            have ec : ∀ c, evalOf f (.const c) = c := fun _ => rfl
            have ef : ∀ g, evalOf f (.func g) = .func (.func g) #[] #[] := fun _ => rfl
            refine relUpon_append_tight w (.tmp 38) (.tmp 41) 23 rfl 9 iS (.string ⟨#[]⟩) 16 Try.underlying23 hiS hzS0 hzS1 hzS2 rfl A1 1 [encStr s] (by rw [ev, e1]) rfl h1 (if c = k then (some (⟨b, off, none⟩ : Addr)) else Option.map (fun a => a.add k) (some (⟨b, off, none⟩ : Addr))) (n - k) (c - k) ((l.drop k).map encStr) (by rw [ev, d41]) hlD.out (hrD.out.below hC) enc_one2 (by unfold maxLen; omega) (by omega) ?_
            intro v' w' hS hB
            exact ⟨hC.trans (hB.mono hC.size), hB, hS⟩
          -- 10: slot 43 := call { builtin append, args := #[t36, t42], argTypes := #[23, 23] }
          · intro w L f hC hLi hLd hLn hF
            obtain ⟨d36, d42, _⟩ := hF
            have d36 : f 36 = .slice (some (⟨b, off, none⟩ : Addr)) k k := d36
            refine Step2.live rfl ?_
            obtain ⟨A1, c1, e1, h1, h2⟩ := d42
            have hl42 : ([encStr s] ++ (l.drop k).map encStr).length = 1 + (n - k) := by rw [List.length_append, hlD.out]; rfl
            have ev : ∀ t, evalOf f (.tmp t) = f t := fun _ => rfl
            have ec : ∀ c, evalOf f (.const c) = c := fun _ => rfl
            have ef : ∀ g, evalOf f (.func g) = .func (.func g) #[] #[] := fun _ => rfl
            refine relUpon_append_tight w (.tmp 36) (.tmp 42) 23 rfl 9 iS (.string ⟨#[]⟩) 16 Try.underlying23 hiS hzS0 hzS1 hzS2 rfl (some (⟨b, off, none⟩ : Addr)) k ((l.take k).map encStr) (by rw [ev, d36]) hlT.out ((hrT.out.below hC).more hC.size) A1 (1 + (n - k)) c1 ([encStr s] ++ (l.drop k).map encStr) (by rw [ev, e1, hl42]) hl42 h1 enc_cons (by unfold maxLen; omega) (by omega) ?_
            intro v' w' hS hB
            exact ⟨hC.trans (hB.mono hC.size), hB, hS⟩
          -- 11: slot 4 := assign t43
          · intro w L f hC hLi hLd hLn hF
            obtain ⟨d43, _⟩ := hF
            refine Step2.live rfl ?_
            exact relUpon_value (v := f 43) rfl (hC) (Below.refl _ _) d43
        intro x w' hC hV

        have e0 := hV 11 _ rfl rfl
        clear hV
        obtain ⟨vv, hvv⟩ : ∃ v, v = x 11 := ⟨_, rfl⟩
        rw [← hvv] at e0
        simp only [framed]
        rw [← hvv]
        clear hvv
        go_wp2_with fail
        go_ret
        exact ⟨⟨vv, rfl, by rw [hd.out]; exact StrV.of (by rw [List.map_append, List.map_cons]; exact e0)⟩, hC⟩
  · have hge : n ≤ k := by omega
    have hd := Lib.hid (addS_ins k l s hall.out (by rw [hn'.out]; exact hk) (fun h => absurd h (by rw [hn'.out]; omega)))
    go_wp2_with fail
    have hkc : k ≤ c := by omega
    have hrT := Lib.hid (show Row w0 w0.heap.size A ((l.take k).map encStr) by rw [List.map_take]; exact hr'.out.take k)
    have hrD := Lib.hid (show Row w0 w0.heap.size (if c = k then A else Option.map (fun a => a.add k) A) ((l.drop k).map encStr) by
      have := hr'.out.cut k (c := c) (by rw [List.length_map, hn'.out]; exact hc)
      rw [← List.map_drop] at this
      exact this)
    have hlT := Lib.hid (show ((l.take k).map encStr).length = k by rw [List.length_map, List.length_take, hn'.out]; omega)
    have hlD := Lib.hid (show ((l.drop k).map encStr).length = n - k by rw [List.length_map, List.length_drop, hn'.out])
    -- THE REGION THAT DRAWS ITS ORDER, BY ONE LEXICAL WALK OVER GENERIC VALUES (written by relgen.py)
    refine wp_region_tab ((fun _ v => v = .slice A n c) ::
      (fun _ v => v = .int .i64 k) ::
      (fun _ v => v = .int .i64 k) ::
      (fun _ v => v = .slice A k k) ::
      (fun _ v => v = encStr s) ::
      (fun w v => ∃ A1, v = .slice A1 1 1 ∧ Row w w.heap.size A1 [encStr s]) ::
      (fun _ v => v = .slice A n c) ::
      (fun _ v => v = .int .i64 k) ::
      (fun _ v => v = .slice (if c = k then A else Option.map (fun a => a.add k) A) (n - k) (c - k)) ::
      (fun w v => Sl w ([encStr s] ++ (l.drop k).map encStr) v) ::
      (fun w v => Sl w ((l.take k).map encStr ++ ([encStr s] ++ (l.drop k).map encStr)) v) ::
      (fun w v => Sl w ((l.take k).map encStr ++ ([encStr s] ++ (l.drop k).map encStr)) v) :: [])
      (⟨[(0, none)], 0, []⟩ :: ⟨[(5, none)], 0, []⟩ :: ⟨[(5, none)], 0, []⟩ :: ⟨[(33, some 0), (34, some 1), (35, some 2)], 0, []⟩ :: ⟨[(1, none)], 0, []⟩ :: ⟨[(37, some 4)], 0, []⟩ :: ⟨[(0, none)], 0, []⟩ :: ⟨[(5, none)], 0, []⟩ :: ⟨[(39, some 6), (40, some 7)], 0, []⟩ :: ⟨[(38, some 5), (41, some 8)], 0, []⟩ :: ⟨[(36, some 3), (42, some 9)], 0, []⟩ :: ⟨[(43, some 10)], 0, []⟩ :: [])
      (none :: none :: none :: none :: some 11 :: none :: none :: none :: none :: none :: none :: none :: none :: none :: none :: none :: none :: none :: none :: none :: none :: none :: none :: none :: none :: none :: none :: none :: none :: none :: none :: none :: none :: some 0 :: some 1 :: some 2 :: some 3 :: some 4 :: some 5 :: some 6 :: some 7 :: some 8 :: some 9 :: some 10 :: [])
      (fun _ w' => Below w0.heap.size w0 w') (fun _ w w' => Below w.heap.size w w') ?mixK6addb ?okK6addb ?tabK6addb ?frK6addb ?inK6addb ?keptK6addb ?startK6addb ?eachK6addb ?finK6addb
    case mixK6addb => kernel_rfl
    case okK6addb => kernel_rfl
    case tabK6addb => kernel_rfl
    case frK6addb => kernel_rfl
    case inK6addb => rfl
    case keptK6addb => exact ⟨fun _ _ _ _ _ _ _ h => h, fun _ _ _ _ _ _ _ h => h, fun _ _ _ _ _ _ _ h => h, fun _ _ _ _ _ _ _ h => h, fun _ _ _ _ _ _ _ h => h, fun _ _ _ => fun w w' v hG ⟨A1, e, h⟩ => ⟨A1, e, (h.below hG).more hG.size⟩, fun _ _ _ _ _ _ _ h => h, fun _ _ _ _ _ _ _ h => h, fun _ _ _ _ _ _ _ h => h, fun _ _ _ => fun w w' v hG h => h.up hG, fun _ _ _ => fun w w' v hG h => h.up hG, fun _ _ _ => fun w w' v hG h => h.up hG, trivial⟩
    case startK6addb => exact (Below.refl _ _).drew
    case eachK6addb =>
      refine ⟨?_, ?_, ?_, ?_, ?_, ?_, ?_, ?_, ?_, ?_, ?_, ?_, trivial⟩
      -- 0: slot 33 := move t0
      · intro w L f hC hLi hLd hLn hF
        obtain ⟨d0, _⟩ := hF
        have d0 : f 0 = .slice A n c := d0
        refine Step2.live rfl ?_
        exact relUpon_value (v := f 0) rfl (hC) (Below.refl _ _) d0
      -- 1: slot 34 := move t5
      · intro w L f hC hLi hLd hLn hF
        obtain ⟨d5, _⟩ := hF
        have d5 : f 5 = .int .i64 k := d5
        refine Step2.live rfl ?_
        exact relUpon_value (v := f 5) rfl (hC) (Below.refl _ _) d5
      -- 2: slot 35 := move t5
      · intro w L f hC hLi hLd hLn hF
        obtain ⟨d5, _⟩ := hF
        have d5 : f 5 = .int .i64 k := d5
        refine Step2.live rfl ?_
        exact relUpon_value (v := f 5) rfl (hC) (Below.refl _ _) d5
      -- 3: slot 36 := slice 23 t33 none (some t34) (some t35)
      · intro w L f hC hLi hLd hLn hF
        obtain ⟨d33, d34, d35, _⟩ := hF
        have d33 : f 33 = .slice A n c := d33
        have d34 : f 34 = .int .i64 k := d34
        have d35 : f 35 = .int .i64 k := d35
        refine Step2.live rfl ?_
        have ev : ∀ t, evalOf f (.tmp t) = f t := fun _ => rfl
        have ec : ∀ c, evalOf f (.const c) = c := fun _ => rfl
        have ef : ∀ g, evalOf f (.func g) = .func (.func g) #[] #[] := fun _ => rfl
        refine relUpon_value ?_ hC (Below.refl _ _) rfl
        go_simp
      -- 4: slot 37 := move t1
      · intro w L f hC hLi hLd hLn hF
        obtain ⟨d1, _⟩ := hF
        have d1 : f 1 = encStr s := d1
        refine Step2.live rfl ?_
        exact relUpon_value (v := f 1) rfl (hC) (Below.refl _ _) d1
      -- 5: slot 38 := buildSlice 23 1 #[(0, t37)]
      · intro w L f hC hLi hLd hLn hF
        obtain ⟨d37, _⟩ := hF
        have d37 : f 37 = encStr s := d37
        refine Step2.live rfl ?_
        have hbn := below_new w (.cells #[encStr s] 9)
        have ev : ∀ t, evalOf f (.tmp t) = f t := fun _ => rfl
        have ec : ∀ c, evalOf f (.const c) = c := fun _ => rfl
        have ef : ∀ g, evalOf f (.func g) = .func (.func g) #[] #[] := fun _ => rfl
        refine relUpon_value (w' := w.alloc (.cells #[encStr s] 9)) (v := .slice (some ⟨w.heap.size, 0, none⟩) 1 1) (by go_simp) (hC.trans (hbn.mono hC.size)) hbn ⟨_, rfl, Row.fresh w 9 [encStr s]⟩
      -- 6: slot 39 := move t0
      · intro w L f hC hLi hLd hLn hF
        obtain ⟨d0, _⟩ := hF
        have d0 : f 0 = .slice A n c := d0
        refine Step2.live rfl ?_
        exact relUpon_value (v := f 0) rfl (hC) (Below.refl _ _) d0
      -- 7: slot 40 := move t5
      · intro w L f hC hLi hLd hLn hF
        obtain ⟨d5, _⟩ := hF
        have d5 : f 5 = .int .i64 k := d5
        refine Step2.live rfl ?_
        exact relUpon_value (v := f 5) rfl (hC) (Below.refl _ _) d5
      -- 8: slot 41 := slice 23 t39 (some t40) none none
      · intro w L f hC hLi hLd hLn hF
        obtain ⟨d39, d40, _⟩ := hF
        have d39 : f 39 = .slice A n c := d39
        have d40 : f 40 = .int .i64 k := d40
        refine Step2.live rfl ?_
        have ev : ∀ t, evalOf f (.tmp t) = f t := fun _ => rfl
        have ec : ∀ c, evalOf f (.const c) = c := fun _ => rfl
        have ef : ∀ g, evalOf f (.func g) = .func (.func g) #[] #[] := fun _ => rfl
        refine relUpon_value ?_ hC (Below.refl _ _) rfl
        go_simp
      -- 9: slot 42 := call { builtin append, args := #[t38, t41], argTypes := #[23, 23] }
      · intro w L f hC hLi hLd hLn hF
        obtain ⟨d38, d41, _⟩ := hF
        have d41 : f 41 = .slice (if c = k then A else Option.map (fun a => a.add k) A) (n - k) (c - k) := d41
        refine Step2.live rfl ?_
        obtain ⟨A1, e1, h1⟩ := d38
        have ev : ∀ t, evalOf f (.tmp t) = f t := fun _ => rfl
        have ec : ∀ c, evalOf f (.const c) = c := fun _ => rfl
        have ef : ∀ g, evalOf f (.func g) = .func (.func g) #[] #[] := fun _ => rfl
        refine relUpon_append_tight w (.tmp 38) (.tmp 41) 23 rfl 9 iS (.string ⟨#[]⟩) 16 Try.underlying23 hiS hzS0 hzS1 hzS2 rfl A1 1 [encStr s] (by rw [ev, e1]) rfl h1 (if c = k then A else Option.map (fun a => a.add k) A) (n - k) (c - k) ((l.drop k).map encStr) (by rw [ev, d41]) hlD.out (hrD.out.below hC) enc_one2 (by unfold maxLen; omega) (by omega) ?_
        intro v' w' hS hB
        exact ⟨hC.trans (hB.mono hC.size), hB, hS⟩
      -- 10: slot 43 := call { builtin append, args := #[t36, t42], argTypes := #[23, 23] }
      · intro w L f hC hLi hLd hLn hF
        obtain ⟨d36, d42, _⟩ := hF
        have d36 : f 36 = .slice A k k := d36
        refine Step2.live rfl ?_
        obtain ⟨A1, c1, e1, h1, h2⟩ := d42
        have hl42 : ([encStr s] ++ (l.drop k).map encStr).length = 1 + (n - k) := by rw [List.length_append, hlD.out]; rfl
        have ev : ∀ t, evalOf f (.tmp t) = f t := fun _ => rfl
        have ec : ∀ c, evalOf f (.const c) = c := fun _ => rfl
        have ef : ∀ g, evalOf f (.func g) = .func (.func g) #[] #[] := fun _ => rfl
        refine relUpon_append_tight w (.tmp 36) (.tmp 42) 23 rfl 9 iS (.string ⟨#[]⟩) 16 Try.underlying23 hiS hzS0 hzS1 hzS2 rfl A k ((l.take k).map encStr) (by rw [ev, d36]) hlT.out ((hrT.out.below hC).more hC.size) A1 (1 + (n - k)) c1 ([encStr s] ++ (l.drop k).map encStr) (by rw [ev, e1, hl42]) hl42 h1 enc_cons (by unfold maxLen; omega) (by omega) ?_
        intro v' w' hS hB
        exact ⟨hC.trans (hB.mono hC.size), hB, hS⟩
      -- 11: slot 4 := assign t43
      · intro w L f hC hLi hLd hLn hF
        obtain ⟨d43, _⟩ := hF
        refine Step2.live rfl ?_
        exact relUpon_value (v := f 43) rfl (hC) (Below.refl _ _) d43
    intro x w' hC hV

    have e0 := hV 11 _ rfl rfl
    clear hV
    obtain ⟨vv, hvv⟩ : ∃ v, v = x 11 := ⟨_, rfl⟩
    rw [← hvv] at e0
    simp only [framed]
    rw [← hvv]
    clear hvv
    go_wp2_with fail
    go_ret
    exact ⟨⟨vv, rfl, by rw [hd.out]; exact StrV.of (by rw [List.map_append, List.map_cons]; exact e0)⟩, hC⟩
end Go.Proofs.Ytkohobkeapcpfaa
