/-
  Package store: Keys, Size; augurlaw5: clone, alike, known; what each call of the statements leaves.
-/
import Derived.Test.YtelglbblgkhcmaaGreatSb
import Derived.Lib.OwnBridge
import Derived.Sort.KeysCollected
import Derived.Sort.OwnSorted
import Derived.Test.YtelglbblgkhcmaaGreatSc
import Derived.Deep.QuietTactic
import Derived.BigQuiet
import Derived.WalkLawsBesides
import Derived.Sort.Walk0
namespace Go.Proofs.YtelglbblgkhcmaaGreat
open Go.RowKit Go.Deep Go.Maps

theorem bytes_toList (s : ByteArray) : s.toList = s.data.toList := ByteArray.toList_mk s.data.toList
/-- l begins with p. -/
def prefL (p l : List UInt8) : Bool := decide (p.length ≤ l.length) && decide (l.take p.length = p)
theorem prefL_extract (s p : ByteArray) : ((s.extract 0 p.size).toList == p.toList) = decide (s.data.toList.take p.data.toList.length = p.data.toList) := by
  have e : (s.extract 0 p.size).data.toList = s.data.toList.take p.data.toList.length := by
    rw [ByteArray.data_extract]
    simp
  rw [bytes_toList, bytes_toList, e, Bool.eq_iff_iff]
  simp
set_option maxRecDepth 100000 in
theorem hasPrefix_low (w : World) (s p : ByteArray) :
    Calls Tryz.prog 61 #[.string s, .string p] w fun e w' => e = .returned (.bool (prefL p.data.toList s.data.toList)) ∧ w' = w := by
  have hz : s.data.toList.length = s.size ∧ p.data.toList.length = p.size := ⟨rfl, rfl⟩
  by_cases h : p.size ≤ s.size
  · have h1 : Hid (prefL p.data.toList s.data.toList = ((s.extract 0 p.size).toList == p.toList)) := Lib.hid (by
      unfold prefL
      rw [prefL_extract, decide_eq_true (by omega)]
      rfl)
    clear hz
    go_enter Tryz.func61, Tryz.ntmps61
    go_wp2_with fail
    go_ret
    exact ⟨by rw [h1.out]; rfl, rfl⟩
  · have h1 : Hid (prefL p.data.toList s.data.toList = false) := Lib.hid (by
      unfold prefL
      rw [decide_eq_false (by omega)]
      rfl)
    clear hz
    go_enter Tryz.func61, Tryz.ntmps61
    go_wp2_with fail
    go_ret
    exact ⟨by rw [h1.out]; rfl, rfl⟩
set_option maxRecDepth 100000 in
theorem hasPrefix_any (w : World) (s p : ByteArray) :
    Calls Tryz.prog 35 #[.string s, .string p] w fun e w' => e = .returned (.bool (prefL p.data.toList s.data.toList)) ∧ w' = w := by
  have hc := hasPrefix_low w s p
  generalize prefL p.data.toList s.data.toList = b at hc ⊢
  go_enter Tryz.func35, Tryz.ntmps35
  go_wp2_with fail
  refine hc.mono ?_
  rintro e w2 ⟨rfl, rfl⟩
  go_wp2_with fail
  go_ret
  exact ⟨rfl, rfl⟩
/-- slices.Sort upon a row of strings of the call's own. -/
theorem sortRow_any (w : World) (B : Nat) (v : Value) (ss : List (List UInt8)) (ho : w.ownsRow B 9 1 v ss.length (ss.map encStr)) (hB : B ≤ w.heap.size) (hl : ss.length ≤ 1000000) :
    Calls Tryz.prog 36 #[v] w fun e w' => e = .returned (.tuple #[]) ∧ w'.ownsRow B 9 1 v ss.length ((ss.mergeSort leB).map encStr) ∧ Below B w w' := by
  by_cases hnil : v = .slice none 0 0
  · subst hnil
    have hss0 : ss = [] := by
      rcases ho.2 with ⟨_, h⟩ | ⟨g, cap, cur, h, _⟩
      · exact List.eq_nil_of_length_eq_zero h
      · cases h
    subst hss0
    refine (AnyM.slices_Sort_string_none Tryz.sortB none 0 w).mono ?_
    rintro e w2 ⟨rfl, rfl⟩
    exact ⟨rfl, by simpa using ho, Below.refl _ _⟩
  · have ho2 := ho
    obtain ⟨g, cap, hv, hbg, hgl, hnc, hcm, hlen, hH⟩ := Lib.holds_of_ownsRow ho hnil
    subst hv
    refine (AnyM.slices_Sort_string Tryz.sortB g 0 cap ss w hH hgl (by omega)).mono ?_
    rintro e w2 ⟨rfl, nn, os, rfl⟩
    rcases ho2.2 with ⟨h, _⟩ | ⟨g', cap', cur, h, h1, h2, h3, h4, h5, h6⟩
    · cases h
    · injection h with h7 _ h8
      injection h7 with h7
      injection h7 with h7 _
      subst h7 h8
      refine ⟨rfl, ownsRow_sorted (List.length_mergeSort ss) h1 h2 h3 h4 h5, ?_⟩
      have hg := grownBy_sorted (w := w) (g := g) (n := nn) (os := os) (ss.mergeSort leB).toArray
      exact (Writes.of_grown hg (M := [some g]) (by simp)).below hB (by simpa using h1)
/-- The keys that begin with p. -/
def preK (p : List UInt8) (ss : List (List UInt8)) : List (List UInt8) := ss.filter (prefL p)
theorem preK_snoc_yes {p x : List UInt8} {ss : List (List UInt8)} (h : prefL p x = true) : preK p (ss ++ [x]) = preK p ss ++ [x] := by simp [preK, List.filter_append, h]
theorem preK_snoc_no {p x : List UInt8} {ss : List (List UInt8)} (h : prefL p x = false) : preK p (ss ++ [x]) = preK p ss := by simp [preK, List.filter_append, h]
theorem Tryz.rStr : (Tryz.prog.info? 9).map (fun i => (i.zero, i.size, i.bytes)) = some (some (.string ⟨#[]⟩), 1, 16) := by kernel_rfl
/-- The keys of F that begin with p, rising. -/
def KeysPre (F : ByteArray → Option ByteArray) (p : List UInt8) (ks : List (List UInt8)) : Prop := ks.Pairwise (· < ·) ∧ ∀ x, x ∈ ks ↔ (F (strV x) ≠ none ∧ prefL p x = true)
theorem SaysS.atK {D : DataW Value} {f : ByteArray → Option Value} (h : SaysS D f) {x : List UInt8} {c : Value} (hat : ∀ z, D.atKey (.string x) z = .held c) : f (strV x) = some c := by
  have h1 := h (strV x)
  unfold keyS at h1
  rw [strV_list] at h1
  have h2 := hat .nil
  cases hf : f (strV x) with
  | none => rw [hf] at h1; simp only at h1; rw [atKey_of_not_has h1] at h2; cases h2
  | some v =>
    rw [hf] at h1
    simp only at h1
    rw [h1.2 .nil] at h2
    injection h2 with h2
    rw [h2]
set_option maxRecDepth 100000 in
set_option maxHeartbeats 4000000 in
theorem stkeys_any {gs gl mb N : Nat} {F : ByteArray → Option ByteArray} {down : Bool} (w : World) (h : Front gs gl mb N F down w) (hN : N ≤ 100000) (hF : FOk F) (p : ByteArray) :
    Calls Tryz.prog 17 #[.pointer (some ⟨gs, 0, none⟩), .string p] w fun e w' => (∃ v ks, e = .returned v ∧ KeysPre F p.data.toList ks ∧ ks.length ≤ N ∧ w'.ownsRow w.heap.size 9 1 v ks.length (ks.map encStr)) ∧ Below w.heap.size w w' := by
  obtain ⟨iS, hiS, hzS0, hzS1, hzS2⟩ := info_parts Tryz.rStr
  have c2 : w.cell? ⟨gs, 2, none⟩ = some (.map (some mb)) := h.hold.cell 2
  obtain ⟨nn, D, hnn, hown, hsay⟩ := h.map
  have hml := hown.lt
  have hsz : Hid (Maps.size D ≤ N) := Lib.hid (Nat.le_trans hown.size_le hnn)
  have hown0 := Lib.hid hown
  replace hsay := Lib.hid hsay
  replace hF := Lib.hid hF
  obtain ⟨pl, hpl⟩ : ∃ x, x = p.data.toList := ⟨_, rfl⟩
  replace hpl := Lib.hid hpl
  clear h
  go_enter Tryz.func17, Tryz.ntmps17
  go_wp2_with (first
    | (at_range; refine wpList_range_own _ rfl _ 56 rfl 9 82 Tryz.strKeyed Tryz.underlying56 _ mb nn _ rfl hown ?_; intro w0 hrg0 hg0 hs0))
  go_frame
  clear hown c2
  have hB0 := grown_none hg0
  generalize hr : w.heap.size = r at hrg0 hs0 hml hB0 ⊢
  have hr' := Lib.hid hr
  clear hr
  have hst : Hid (r < w0.heap.size) := Lib.hid (by rw [hs0]; omega)
  clear hs0 hg0
  go_loopw [5] (fun v wr => ∃ (left : Lit → Bool) (cnt : Nat) (ss : List (List UInt8)), wr.ranges Tryz.prog 9 heldR mb r nn D left cnt ∧ Hid (Collected D left ss) ∧ Hid (wr.ownsRow r 9 1 v (preK pl ss).length ((preK pl ss).map encStr)) ∧ Hid (Below r w wr) ∧ Hid (ss.length + cnt ≤ Maps.size D) ∧ Hid (r < wr.heap.size))
    (fun _ wr => wr.rangeLeft mb r)
  case atStart => exact ⟨_, _, [], hrg0, Lib.hid (Collected.start D), Lib.hid (World.ownsRow_nil _ _ _ _), Lib.hid hB0, Lib.hid (by simp), hst⟩
  case round =>
    clear hrg0 hB0 hst
    obtain ⟨left, cnt, ss, hrg, hC, hO, hB, hsc, hrs⟩ := hrel
    rename World => wo
    go_wp2_with (first
      | (at_next; refine wpList_next_ranges (α := List UInt8) (β := Value) _ rfl _ rfl 9 Tryz.strKeyed heldR (fun x => .string (strV x)) id (fun key kl h => by
            obtain ⟨x, e, _⟩ := Maps.keyOf_str Tryz.underlying9 h
            exact ⟨x, e⟩) (fun v _ _ => ⟨v, rfl⟩) mb r nn D left cnt rfl hrg ?_ ?_)
      | go_in)
    · intro hc0 hl0
      have hks : Hid (KeysPre F pl ((preK pl ss).mergeSort leB) ∧ ((preK pl ss).mergeSort leB).length = (preK pl ss).length ∧ (preK pl ss).length ≤ N) := Lib.hid (by
        have hperm := List.mergeSort_perm (preK pl ss) leB
        have hnd : (preK pl ss).Nodup := hC.out.1.filter _
        have hlt := keysL_of (f := fun k => if prefL pl k.data.toList = true then (F k).map entV else none) hnd (fun x => by
          unfold preK
          rw [List.mem_filter, hC.out.2 x, hl0, hsay.out.has]
          rw [strV_list]
          cases prefL pl x <;> simp)
        refine ⟨⟨hlt.1, fun x => ?_⟩, List.length_mergeSort _, ?_⟩
        · rw [hlt.2 x]
          simp only [strV_list]
          cases prefL pl x <;> simp
        · have h1 : (preK pl ss).length ≤ ss.length := List.length_filter_le _ _
          have h2 := hsc.out
          have h3 := hsz.out
          omega)
      have hlen : (preK pl ss).length ≤ 100000 := by have := hks.out.2.2; omega
      obtain ⟨ps, hps⟩ : ∃ x, x = preK pl ss := ⟨_, rfl⟩
      rw [← hps] at hks hO hlen
      clear hps hrg hC hsc hl0 hc0
      go_wp2_with fail
      refine (sortRow_any wo r _ ps hO.out (Nat.le_of_lt hrs.out) (by omega)).mono ?_
      rintro e w2 ⟨rfl, hO2, hB2⟩
      have hfin : Hid (w2.ownsRow r 9 1 u5 (ps.mergeSort leB).length ((ps.mergeSort leB).map encStr) ∧ Below r w w2) := Lib.hid ⟨by rw [hks.out.2.1]; exact hO2, hB.out.trans hB2⟩
      clear hO2 hB2 hO hB
      go_wp2_with fail
      go_ret
      rw [hr'.out]
      exact ⟨⟨_, _, rfl, by rw [hpl.out] at hks; exact hks.out.1, by rw [hks.out.2.1]; exact hks.out.2.2, hfin.out.1⟩, hfin.out.2⟩
    · intro x c kl yd yp w1 cnt1 hkx hlx hRc hat hrg1 hlt hg1 hs1 hen
      obtain ⟨x', ex, rfl, _⟩ := Maps.keyOf_str Tryz.underlying9 hkx
      obtain rfl : x = x' := encStr_inj ex
      have hy : yd = .held c := by
        have : heldR c = some (yd, yp) := hRc
        simp [heldR] at this
        exact this.1.symm
      have hC1 := Lib.hid (hC.out.step hlx hat)
      have hne := row_ne_iter hO.out hrg
      have hO1 := Lib.hid (hO.out.kept hg1 (.inr hne.symm))
      have hB1 := Lib.hid (hB.out.trans ((Writes.of_grown hg1 (M := [some r]) (by simp)).below (Nat.le_of_lt hrs.out) (by simp)))
      have hrs1 : Hid (r < w1.heap.size) := Lib.hid (Nat.lt_of_lt_of_le hrs.out hg1.size)
      have hsc1 : Hid ((ss ++ [x]).length + cnt1 ≤ Maps.size D) := Lib.hid (by have := hsc.out; rw [List.length_append, List.length_singleton]; omega)
      have hrgl := Lib.hid hrg.left_eq
      have hsl : Hid ((preK pl ss).length ≤ 100000) := Lib.hid (by
        have h1 : (preK pl ss).length ≤ ss.length := List.length_filter_le _ _
        have h2 := hsc.out
        have h3 := hsz.out
        omega)
      replace hrg1 := Lib.hid hrg1
      replace hlt := Lib.hid hlt
      clear hs1 hg1 hat hRc hy ex hkx hlx hne hO hB hC hsc hrs hrg
      by_cases hp : prefL pl x = true
      · have hpx : Hid (preK pl (ss ++ [x]) = preK pl ss ++ [x]) := Lib.hid (preK_snoc_yes hp)
        replace hp := Lib.hid hp
        go_wp2_with fail
        refine (hasPrefix_any w1 (strV x) p).mono ?_
        rintro e w2 ⟨rfl, rfl⟩
        rw [strV_list, ← hpl.out, hp.out]
        have hb3 := below_new w2 (.cells #[.string (strV x)] 9)
        have hO3 := Lib.hid (own_below hO1.out hb3)
        have hrow3 : Hid (Row (w2.alloc (.cells #[.string (strV x)] 9)) (w2.alloc (.cells #[.string (strV x)] 9)).heap.size (some ⟨w2.heap.size, 0, none⟩) [.string (strV x)]) := Lib.hid (Row.one w2 9 _)
        have hB3 : Hid (Below r w (w2.alloc (.cells #[.string (strV x)] 9))) := Lib.hid (hB1.out.trans (hb3.mono (Nat.le_of_lt hrs1.out)))
        have hrg3 := Lib.hid (hrg1.out.alloc (.cells #[.string (strV x)] 9))
        have hrs3 : Hid (r < (w2.alloc (.cells #[.string (strV x)] 9)).heap.size) := Lib.hid (Nat.lt_of_lt_of_le hrs1.out hb3.size)
        have hone : Hid (∀ u ∈ [Value.string (strV x)], u.oneCell' = true) := Lib.hid (fun u hu => by rw [List.mem_singleton.1 hu]; rfl)
        clear hb3 hO1 hB1
        go_wp2_with
          (at_builtin
           go_loud (refine wpList_append_row _ rfl (.tmp 19) (.tmp 21) 43 rfl r 9 iS (.string ⟨#[]⟩) 16 Tryz.underlying43 hiS hzS0 hzS1 hzS2 rfl u5 (preK pl ss).length ((preK pl ss).map encStr) rfl hO3.out _ (some ⟨w2.heap.size, 0, none⟩) 1 1 [.string (strV x)] rfl rfl hrow3.out hone.out (by have := hsl.out; unfold maxLen; omega) (by have := hsl.out; omega) (Nat.le_of_lt hrs3.out) ?_)
           intro v4 w4 ho4 hg4 _
           have hrg4 := Lib.hid (hrg3.out.kept hg4 (row_ne_low hO3.out hml) (row_ne_iter hO3.out hrg3.out))
           have hO4 : Hid (w4.ownsRow r 9 1 v4 (preK pl (ss ++ [x])).length ((preK pl (ss ++ [x])).map encStr)) := Lib.hid (by rw [hpx.out, List.length_append, List.map_append]; exact ho4)
           have hB4 : Hid (Below r w w4) := Lib.hid (hB3.out.trans ((Writes.of_grown hg4 (M := [u5.ownBlock]) (by simp)).below (Nat.le_of_lt hrs3.out) (fun j hj => own_ge hO3.out (List.mem_singleton.1 hj).symm)))
           have hrs4 : Hid (r < w4.heap.size) := Lib.hid (Nat.lt_of_lt_of_le hrs3.out hg4.size)
           clear ho4 hg4)
        exact ⟨⟨_, cnt1, ss ++ [x], hrg4.out, hC1, hO4, hB4, hsc1, hrs4⟩, by rw [hrg4.out.left_eq, hrgl.out]; exact hlt.out⟩
      · have hpf : prefL pl x = false := by simpa using hp
        have hpx : Hid (preK pl (ss ++ [x]) = preK pl ss) := Lib.hid (preK_snoc_no hpf)
        replace hpf := Lib.hid hpf
        clear hp
        go_wp2_with fail
        refine (hasPrefix_any w1 (strV x) p).mono ?_
        rintro e w2 ⟨rfl, rfl⟩
        rw [strV_list, ← hpl.out, hpf.out]
        have hO2 : Hid (w2.ownsRow r 9 1 u5 (preK pl (ss ++ [x])).length ((preK pl (ss ++ [x])).map encStr)) := Lib.hid (by rw [hpx.out]; exact hO1.out)
        clear hO1
        go_wp2_with fail
        exact ⟨⟨_, cnt1, ss ++ [x], hrg1.out, hC1, hO2, hB1, hsc1, hrs1⟩, by rw [hrg1.out.left_eq, hrgl.out]; exact hlt.out⟩
/-- How long all keys and values are. -/
def sizeL (F : ByteArray → Option ByteArray) (ks : List (List UInt8)) : Nat := (ks.map fun x => x.length + ((F (strV x)).getD ⟨#[]⟩).size).sum
theorem sizeL_snoc (F : ByteArray → Option ByteArray) (ks : List (List UInt8)) (x : List UInt8) : sizeL F (ks ++ [x]) = sizeL F ks + (x.length + ((F (strV x)).getD ⟨#[]⟩).size) := by
  unfold sizeL
  rw [List.map_append, List.sum_append]
  simp
theorem sizeL_perm (F : ByteArray → Option ByteArray) {ks ks' : List (List UInt8)} (h : ks.Perm ks') : sizeL F ks = sizeL F ks' := by
  unfold sizeL
  induction h with
  | nil => rfl
  | cons a _ ih => rw [List.map_cons, List.map_cons, List.sum_cons, List.sum_cons, ih]
  | swap a b l => simp only [List.map_cons, List.sum_cons]; omega
  | trans _ _ h1 h2 => exact h1.trans h2
set_option maxRecDepth 100000 in
set_option maxHeartbeats 4000000 in
theorem stsize_any {gs gl mb N : Nat} {F : ByteArray → Option ByteArray} {down : Bool} (w : World) (h : Front gs gl mb N F down w) (hN : N ≤ 100000) (hF : FSm F) :
    Calls Tryz.prog 26 #[.pointer (some ⟨gs, 0, none⟩)] w fun e w' => (∃ ss : List (List UInt8), e = .returned (.int .i64 (sizeL F ss)) ∧ ss.Nodup ∧ ∀ x, x ∈ ss ↔ F (strV x) ≠ none) ∧ Below w.heap.size w w' := by
  have c2 : w.cell? ⟨gs, 2, none⟩ = some (.map (some mb)) := h.hold.cell 2
  obtain ⟨nn, D, hnn, hown, hsay⟩ := h.map
  have hml := hown.lt
  have hsz : Hid (Maps.size D ≤ N) := Lib.hid (Nat.le_trans hown.size_le hnn)
  replace hsay := Lib.hid hsay
  replace hF := Lib.hid hF
  clear h
  go_enter Tryz.func26, Tryz.ntmps26
  go_wp2_with (first
    | (at_range; refine wpList_range_own _ rfl _ 56 rfl 9 82 Tryz.strKeyed Tryz.underlying56 _ mb nn _ rfl hown ?_; intro w0 hrg0 hg0 hs0))
  go_frame
  clear hown c2
  have hB0 := grown_none hg0
  generalize hr : w.heap.size = r at hrg0 hs0 hml hB0 ⊢
  have hr' := Lib.hid hr
  clear hr
  have hst : Hid (r < w0.heap.size) := Lib.hid (by rw [hs0]; omega)
  clear hs0 hg0
  go_loopw [3] (fun v wr => ∃ (left : Lit → Bool) (cnt : Nat) (ss : List (List UInt8)) (T : Nat), v = .int .i64 T ∧ wr.ranges Tryz.prog 9 heldR mb r nn D left cnt ∧ Hid (Collected D left ss) ∧ Hid (T = sizeL F ss) ∧ T ≤ 2000 * ss.length ∧ Hid (Below r w wr) ∧ ss.length + cnt ≤ Maps.size D ∧ Hid (r < wr.heap.size))
    (fun _ wr => wr.rangeLeft mb r)
  case atStart => exact ⟨_, _, [], 0, rfl, hrg0, Lib.hid (Collected.start D), Lib.hid rfl, by simp, Lib.hid hB0, by simp, hst⟩
  case round =>
    clear hrg0 hB0 hst
    obtain ⟨left, cnt, ss, T, rfl, hrg, hC, hT, hTl, hB, hsc, hrs⟩ := hrel
    rename World => wo
    have hTb : T + 4000 ≤ 1000000000 := by have := hsz.out; omega
    go_wp2_with (first
      | (at_next; refine wpList_next_ranges (α := List UInt8) (β := Value) _ rfl _ rfl 9 Tryz.strKeyed heldR (fun x => .string (strV x)) id (fun key kl h => by
            obtain ⟨x, e, _⟩ := Maps.keyOf_str Tryz.underlying9 h
            exact ⟨x, e⟩) (fun v _ _ => ⟨v, rfl⟩) mb r nn D left cnt rfl hrg ?_ ?_)
      | go_in)
    · intro hc0 hl0
      have hfin : Hid (T = sizeL F ss ∧ ss.Nodup ∧ ∀ x, x ∈ ss ↔ F (strV x) ≠ none) := Lib.hid ⟨hT.out, hC.out.1, fun x => by
        rw [hC.out.2 x, hl0, hsay.out.has]
        cases F (strV x) <;> simp⟩
      clear hrg hC hsc hl0 hc0 hT
      go_wp2_with fail
      go_ret
      rw [hr'.out]
      exact ⟨⟨ss, by rw [← hfin.out.1]; rfl, hfin.out.2⟩, hB.out⟩
    · intro x c kl yd yp w1 cnt1 hkx hlx hRc hat hrg1 hlt hg1 hs1 hen
      obtain ⟨x', ex, rfl, _⟩ := Maps.keyOf_str Tryz.underlying9 hkx
      obtain rfl : x = x' := encStr_inj ex
      have hy : yd = .held c := by
        have : heldR c = some (yd, yp) := hRc
        simp [heldR] at this
        exact this.1.symm
      have hFx : (F (strV x)).map entV = some c := hsay.out.atK (x := x) (c := c) (fun z => by rw [hat z, hy])
      obtain ⟨fv, hfv, rfl⟩ := Option.map_eq_some_iff.1 hFx
      have hsm := hF.out _ _ hfv
      have hxl : (strV x).size = x.length := by show (strV x).data.size = _; simp [strV]
      have hC1 := Lib.hid (hC.out.step hlx hat)
      have hB1 := Lib.hid (hB.out.trans ((Writes.of_grown hg1 (M := [some r]) (by simp)).below (Nat.le_of_lt hrs.out) (by simp)))
      have hrs1 : Hid (r < w1.heap.size) := Lib.hid (Nat.lt_of_lt_of_le hrs.out hg1.size)
      have hsc1 : Hid ((ss ++ [x]).length + cnt1 ≤ Maps.size D) := Lib.hid (by rw [List.length_append, List.length_singleton]; omega)
      have hrgl := Lib.hid hrg.left_eq
      obtain ⟨a, ha⟩ : ∃ a, a = (strV x).size := ⟨_, rfl⟩
      obtain ⟨b, hb⟩ : ∃ b, b = fv.size := ⟨_, rfl⟩
      have hT1 : Hid (T + (a + b) = sizeL F (ss ++ [x]) ∧ T + (a + b) ≤ 2000 * (ss ++ [x]).length) := Lib.hid (by
        constructor
        · rw [sizeL_snoc, hfv, hT.out, ha, hxl, hb]; rfl
        · rw [List.length_append, List.length_singleton, ha, hb]
          have h1 := hsm.1
          have h2 := hsm.2
          omega)
      have ha1 : a ≤ 1000 := by rw [ha]; exact hsm.1
      have hb1 : b ≤ 1000 := by rw [hb]; exact hsm.2
      replace hrg1 := Lib.hid hrg1
      replace hlt := Lib.hid hlt
      have hsx1 : (Value.string (strV x)) = Value.string (strV x) := rfl
      clear hs1 hg1 hat hRc hy ex hkx hlx hB hC hsc hrs hrg hsx1 hFx hfv hxl hT hsm
      unfold entV at hen
      go_wp2_with fail
      exact ⟨⟨_, cnt1, ss ++ [x], T + (a + b), by rw [ha, hb]; simp, hrg1.out.alloc _, hC1, Lib.hid hT1.out.1, hT1.out.2, Lib.hid (hB1.out.trans ((below_new _ _).mono (Nat.le_of_lt hrs1.out))), hsc1.out, Lib.hid (Nat.lt_of_lt_of_le hrs1.out (below_new _ _).size)⟩, by rw [(hrg1.out.alloc _).left_eq, hrgl.out]; exact hlt.out⟩
end Go.Proofs.YtelglbblgkhcmaaGreat
namespace Go.Proofs.YtelglbblgkhcmaaGreat
open Go.RowKit Go.Deep Go.Maps

set_option maxRecDepth 100000 in
set_option maxHeartbeats 2000000 in
theorem strs_any (w : World) (A1 A2 : Option Addr) (n1 n2 c1 c2 : Nat) (l l' : List (List UInt8)) (h1 : l.length = n1) (h2 : l'.length = n2) (hm : n1 ≤ 100000) (hm2 : n2 ≤ 100000) (r1 : Row w w.heap.size A1 (l.map encStr)) (r2 : Row w w.heap.size A2 (l'.map encStr)) :
    Calls Tryz.prog 25 #[.slice A1 n1 c1, .slice A2 n2 c2] w fun e w' => e = .returned (.bool (decide (l = l'))) ∧ Below w.heap.size w w' := by
  have h1' := Lib.hid h1
  have h2' := Lib.hid h2
  have r1' := Lib.hid r1
  have r2' := Lib.hid r2
  clear r1 r2 h1 h2
  by_cases hne : n1 = n2
  case neg =>
    have hd := Lib.hid (show decide (l = l') = false by
      simp only [decide_eq_false_iff_not]
      rintro rfl
      exact hne (by rw [← h1'.out, ← h2'.out]))
    have hnn : ((n1 : Int) == n2) = false := by simp; omega
    go_enter Tryz.func25, Tryz.ntmps25
    go_wp2_with fail
    go_ret
    exact ⟨by rw [hd.out]; rfl, Below.refl _ _⟩
  subst hne
  go_enter Tryz.func25, Tryz.ntmps25
  go_wp2_with fail
  go_loopw [5] (fun i wr => ∃ k : Nat, k ≤ n1 ∧ i = .int .i64 k ∧ Below w.heap.size w wr ∧ l.take k = l'.take k) (fun i _ => n1 - (intOf i).toNat)
  case atStart => exact ⟨0, Nat.zero_le _, rfl, Below.refl _ _, rfl⟩
  obtain ⟨k, hk, rfl, hb, htk⟩ := hrel
  have htk := Lib.hid htk
  rename_i u1
  clear u1
  by_cases hlt : k < n1
  · have hl1 : k < l.length := by rw [h1'.out]; exact hlt
    have hl2 : k < l'.length := by rw [h2'.out]; exact hlt
    obtain ⟨b1, o1, rfl, _, q1⟩ := (r1'.out.below hb).at_ (k := k) (by simpa using hl1)
    obtain ⟨b2, o2, rfl, _, q2⟩ := (r2'.out.below hb).at_ (k := k) (by simpa using hl2)
    rw [List.getElem_map] at q1 q2
    have hx := Lib.hid (List.take_succ_eq_append_getElem hl1)
    have hy := Lib.hid (List.take_succ_eq_append_getElem hl2)
    have hinj : Hid (l = l' → l[k] = l'[k]) := Lib.hid (by rintro rfl; rfl)
    have hb' := Lib.hid hb
    clear hb
    generalize l[k] = x at q1 hx hinj
    generalize l'[k] = y at q2 hy hinj
    by_cases hxy : x = y
    · subst hxy
      go_wp2_with fail
      go_region
      all_goals
        go_wp2_with fail
        go_roundw
        case rel => exact ⟨k + 1, by omega, by go_num, hb'.out.drew, by rw [hx.out, hy.out, htk.out]⟩
        case measure => simp [intOf]; omega
    · have hd := Lib.hid (show decide (l = l') = false by
        simp only [decide_eq_false_iff_not]
        exact fun h => hxy (hinj.out h))
      have hbq : (x == y) = false := by simpa using hxy
      go_wp2_with fail
      go_region
      all_goals
        go_wp2_with fail
        go_ret
        exact ⟨by rw [hd.out]; rfl, hb'.out.drew⟩
  · obtain rfl : k = n1 := by omega
    have hd := Lib.hid (show decide (l = l') = true by
      have := htk.out
      rw [show l.take k = l by rw [← h1'.out, List.take_length], show l'.take k = l' by rw [← h2'.out, List.take_length]] at this
      simpa using this)
    go_wp2_with fail
    go_ret
    exact ⟨by rw [hd.out]; rfl, hb⟩
theorem SMapT.store {w : World} {m N : Nat} {M : ByteArray → Option ByteArray} (h : SMapT w m N M) (k v : ByteArray) (hk : k.size ≤ 1000) (hN : N ≤ 1000000) :
    ∃ w', (Instr.mapUpdate 30 (.map (some m)) (.string k) (.string v)).run Tryz.prog w = .ok () w' ∧ SMapT w' m (N + 1) (fun j => if j = k then some v else M j) ∧ w.grownBy w' (some m) := by
  obtain ⟨w', h1, h2, h3, h4⟩ := SMap.store h Tryz.underlying30 (k := k) (by unfold maxLen; omega) hN (.string v)
  refine ⟨w', h1, ?_, h3⟩
  have e : (fun j => if j = k then some (Value.string v) else (M j).map Value.string) = fun j => ((if j = k then some v else M j)).map Value.string := by
    funext j
    by_cases e : j = k
    · rw [if_pos e, if_pos e]; rfl
    · rw [if_neg e, if_neg e]
  rw [e] at h2
  exact h2
set_option maxRecDepth 100000 in
set_option maxHeartbeats 4000000 in
theorem clone5_any (w : World) (mm N : Nat) (M : ByteArray → Option ByteArray) (hm : SMapT w mm N M) (hN : N ≤ 100000) (hF : FSm M) :
    Calls Tryz.prog 22 #[.map (some mm)] w fun e w' => ∃ mo, e = .returned (.map (some mo)) ∧ w.heap.size ≤ mo ∧ SMapT w' mo N M ∧ Below w.heap.size w w' := by
  obtain ⟨nn, D, hnn, hown, hsay⟩ := hm
  have hml := hown.lt
  have hsz : Hid (Maps.size D ≤ N) := Lib.hid (Nat.le_trans hown.size_le hnn)
  have hb0 := below_new w (.map #[] 0)
  have hown1 : (w.alloc (.map #[] 0)).ownsMap Tryz.prog 9 heldR mm nn D := by
    obtain ⟨es, clock, hb, Ft, hs, hD⟩ := hown
    exact ⟨es, clock, (Below.heap_alloc _ _ mm hml).trans hb, Ft, hs, hD⟩
  have hmo0 : SMapT (w.alloc (.map #[] 0)) w.heap.size 0 (fun _ => none) := SMap.made w
  replace hsay := Lib.hid hsay
  replace hF := Lib.hid hF
  have hmm := @run_makeMap Tryz.prog
  go_enter Tryz.func22, Tryz.ntmps22
  go_wp2_with (first
    | (at_range; refine wpList_range_own _ rfl _ 30 rfl 9 9 Tryz.strKeyed Tryz.underlying30 _ mm nn _ rfl hown1 ?_; intro w0 hrg0 hg0 hs0))
  go_frame
  clear hown hown1 hmm
  have hB0 := hb0.trans ((grown_none hg0).mono hb0.size)
  have hmo1 : SMapT w0 w.heap.size 0 (fun _ => none) := SMap.loc hmo0 ((grown_none hg0).block _ (SMap.lt hmo0))
  have hr0 : (w.alloc (.map #[] 0)).heap.size = w.heap.size + 1 := by simp
  rw [hr0] at hrg0 hs0 ⊢
  clear hmo0 hb0 hg0
  generalize hmo : w.heap.size = mo at hrg0 hs0 hml hB0 hmo1 hr0 ⊢
  have hmo' := Lib.hid hmo
  generalize hr : mo + 1 = r at hrg0 hs0 ⊢
  have hrm : Hid (mo < r) := Lib.hid (by omega)
  have hr' := Lib.hid hr
  clear hr hmo hr0
  have hst : Hid (r < w0.heap.size) := Lib.hid (by rw [hs0]; omega)
  clear hs0
  go_loopw [4] (fun _ wr => ∃ (left : Lit → Bool) (cnt j : Nat), wr.ranges Tryz.prog 9 heldR mm r nn D left cnt ∧ Hid (SMapT wr mo j (fun k => if left (keyS k) = true then none else M k)) ∧ Hid (Below mo w wr) ∧ Hid (j + cnt ≤ Maps.size D) ∧ Hid (r < wr.heap.size))
    (fun _ wr => wr.rangeLeft mm r)
  case atStart =>
    refine ⟨_, _, 0, hrg0, Lib.hid ?_, Lib.hid hB0, Lib.hid (by simp), hst⟩
    have e : (fun k => if Maps.has D (keyS k) = true then none else M k) = fun _ => none := by
      funext k
      have := hsay.out k
      cases hgk : M k with
      | none => simp
      | some v => simp only [hgk, Option.map_some] at this; rw [this.1]; simp
    rw [e]
    exact hmo1
  case round =>
    clear hrg0 hB0 hst hmo1
    obtain ⟨left, cnt, j, hrg, hO, hB, hsc, hrs⟩ := hrel
    rename World => wo
    go_wp2_with (first
      | (at_next; refine wpList_next_ranges (α := List UInt8) (β := Value) _ rfl _ rfl 9 Tryz.strKeyed heldR (fun x => .string (strV x)) id (fun key kl h => by
            obtain ⟨x, e, _⟩ := Maps.keyOf_str Tryz.underlying9 h
            exact ⟨x, e⟩) (fun v _ _ => ⟨v, rfl⟩) mm r nn D left cnt rfl hrg ?_ ?_)
      | go_in)
    · intro hc0 hl0
      have hfin : Hid (SMapT wo mo N M) := Lib.hid (by
        have e : (fun k => if left (keyS k) = true then none else M k) = M := by
          funext k
          rw [hl0]
          rfl
        have h1 := hO.out
        rw [e] at h1
        exact SMap.more h1 (by have := hsc.out; have := hsz.out; omega))
      clear hrg hO hsc hl0 hc0
      go_wp2_with fail
      go_ret
      rw [hmo'.out]
      exact ⟨mo, rfl, Nat.le_refl _, hfin.out, hB.out⟩
    · intro x c kl yd yp w1 cnt1 hkx hlx hRc hat hrg1 hlt hg1 hs1 hen
      obtain ⟨x', ex, rfl, _⟩ := Maps.keyOf_str Tryz.underlying9 hkx
      obtain rfl : x = x' := encStr_inj ex
      have hy : yd = .held c := by
        have : heldR c = some (yd, yp) := hRc
        simp [heldR] at this
        exact this.1.symm
      have hFx : (M (strV x)).map Value.string = some c := hsay.out.atK (x := x) (c := c) (fun z => by rw [hat z, hy])
      obtain ⟨fv, hfv, rfl⟩ := Option.map_eq_some_iff.1 hFx
      have hsm := hF.out _ _ hfv
      have hO1 : SMapT w1 mo j (fun k => if left (keyS k) = true then none else M k) := SMap.loc hO.out (hg1.block mo (SMap.lt hO.out) (by simp; have := hrm.out; omega))
      have hB1 := Lib.hid (hB.out.trans ((Writes.of_grown hg1 (M := [some r]) (by simp)).below (by have := hrm.out; have := hrs.out; omega) (by have := hrm.out; simp; omega)))
      have hrs1 : Hid (r < w1.heap.size) := Lib.hid (Nat.lt_of_lt_of_le hrs.out hg1.size)
      have hsc1 : Hid (j + 1 + cnt1 ≤ Maps.size D) := Lib.hid (by have := hsc.out; omega)
      have hrgl := Lib.hid hrg.left_eq
      obtain ⟨w2, hrun, hO2, hg2⟩ := hO1.store (strV x) fv hsm.1 (by have := hsc.out; have := hsz.out; omega)
      have hrg2 := Lib.hid (hrg1.kept hg2 (by simp; omega) (by simp; have := hrm.out; omega))
      have hO3 : Hid (SMapT w2 mo (j + 1) (fun k => if (left (keyS k) && !(keyS k).sameKey (.string x)) = true then none else M k)) := Lib.hid (by
        have e : (fun k => if (left (keyS k) && !(keyS k).sameKey (.string x)) = true then none else M k) = fun k => if k = strV x then some fv else if left (keyS k) = true then none else M k := by
          funext k
          by_cases e : k = strV x
          · rw [if_pos e]
            subst e
            have : (keyS (strV x)).sameKey (.string x) = true := by unfold keyS; rw [strV_list]; simp [Lit.sameKey]
            rw [this, hfv]
            simp
          · rw [if_neg e]
            have : (keyS k).sameKey (.string x) = false := by
              unfold keyS
              simp only [Lit.sameKey, beq_eq_false_iff_ne]
              intro h
              exact e (strV_eq.2 h.symm).symm
            rw [this]
            simp
        rw [e]
        exact hO2)
      have hB2 : Hid (Below mo w w2) := Lib.hid (hB1.out.trans ((Writes.of_grown hg2 (M := [some mo]) (by simp)).below (by have := hrm.out; have := hrs1.out; omega) (by simp)))
      have hrs2 : Hid (r < w2.heap.size) := Lib.hid (Nat.lt_of_lt_of_le hrs1.out hg2.size)
      replace hlt := Lib.hid hlt
      clear hs1 hg1 hat hRc hy ex hkx hlx hB hO hsc hrs hrg hFx hfv hsm hO1 hO2 hg2 hrg1 hB1 hrs1
      go_wp2_with fail
      exact ⟨⟨_, cnt1, j + 1, hrg2.out, hO3, hB2, hsc1, hrs2⟩, by rw [hrg2.out.left_eq, hrgl.out]; exact hlt.out⟩
end Go.Proofs.YtelglbblgkhcmaaGreat
namespace Go.Proofs.YtelglbblgkhcmaaGreat
open Go.RowKit Go.Deep Go.Maps

/-- Only the law's keys. -/
def DomF (F : ByteArray → Option ByteArray) : Prop := ∀ k, F k ≠ none → ∃ j, j < 7 ∧ k = keyF j
def sameK (F M : ByteArray → Option ByteArray) (k : Nat) : Prop := ∀ j, j < k → F (keyF j) = M (keyF j)
instance (F M : ByteArray → Option ByteArray) (k : Nat) : Decidable (sameK F M k) := inferInstanceAs (Decidable (∀ j, j < k → F (keyF j) = M (keyF j)))
def hasK (M : ByteArray → Option ByteArray) (k : Nat) : List Nat := (List.range k).filter fun j => (M (keyF j)).isSome
def totK (M : ByteArray → Option ByteArray) (k : Nat) : Nat := ((hasK M k).map fun j => (keyF j).size + ((M (keyF j)).getD ⟨#[]⟩).size).sum
theorem hasK_yes {M : ByteArray → Option ByteArray} {k : Nat} {v : ByteArray} (h : M (keyF k) = some v) : hasK M (k + 1) = hasK M k ++ [k] := by
  unfold hasK
  rw [List.range_succ, List.filter_append]
  simp [h]
theorem hasK_no {M : ByteArray → Option ByteArray} {k : Nat} (h : M (keyF k) = none) : hasK M (k + 1) = hasK M k := by
  unfold hasK
  rw [List.range_succ, List.filter_append]
  simp [h]
theorem totK_yes {M : ByteArray → Option ByteArray} {k : Nat} {v : ByteArray} (h : M (keyF k) = some v) : totK M (k + 1) = totK M k + ((keyF k).size + v.size) := by
  unfold totK
  rw [hasK_yes h, List.map_append, List.sum_append]
  simp [h]
theorem totK_no {M : ByteArray → Option ByteArray} {k : Nat} (h : M (keyF k) = none) : totK M (k + 1) = totK M k := by
  unfold totK
  rw [hasK_no h]
theorem hasK_le (M : ByteArray → Option ByteArray) (k : Nat) : (hasK M k).length ≤ k := by
  have := List.length_filter_le (fun j => (M (keyF j)).isSome) (List.range k)
  rw [List.length_range] at this
  exact this
theorem totK_le {M : ByteArray → Option ByteArray} (h : FSm M) : ∀ k, totK M k ≤ 2000 * k
  | 0 => by simp [totK, hasK]
  | k + 1 => by
    have ih := totK_le h k
    cases hm : M (keyF k) with
    | none => rw [totK_no hm]; omega
    | some v =>
      have := h _ _ hm
      rw [totK_yes hm]
      omega
theorem keyF_lt {j : Nat} (h : j < 7) : keyF j = strV (keyL j) := by unfold keyF; rw [Nat.mod_eq_of_lt h]
theorem keyL_inj : ∀ i j, i < 7 → j < 7 → keyL i = keyL j → i = j := by
  have : ∀ i, i < 7 → ∀ j, j < 7 → keyL i = keyL j → i = j := by decide
  exact fun i j hi hj => this i hi j hj
theorem hasK_lt {M : ByteArray → Option ByteArray} {j : Nat} (h : j ∈ hasK M 7) : j < 7 := by
  unfold hasK at h
  rw [List.mem_filter, List.mem_range] at h
  exact h.1
theorem keysK_nodup (M : ByteArray → Option ByteArray) : ((hasK M 7).map keyL).Nodup := by
  have h1 : (hasK M 7).Nodup := (List.nodup_range).filter _
  refine List.pairwise_map.2 (h1.imp_of_mem fun {a b} ha hb hne e => hne ?_)
  exact keyL_inj a b (hasK_lt ha) (hasK_lt hb) e
theorem keysK_mem {F M : ByteArray → Option ByteArray} (hd : DomF F) (hs : sameK F M 7) (x : List UInt8) : x ∈ (hasK M 7).map keyL ↔ F (strV x) ≠ none := by
  rw [List.mem_map]
  constructor
  · rintro ⟨j, hj, rfl⟩
    have h7 := hasK_lt hj
    unfold hasK at hj
    rw [List.mem_filter] at hj
    rw [← keyF_lt h7, hs j h7]
    have := hj.2
    cases hm : M (keyF j) with
    | none => rw [hm] at this; cases this
    | some v => simp
  · intro h
    obtain ⟨j, h7, e⟩ := hd _ h
    rw [keyF_lt h7] at e
    have e2 : x = keyL j := by rw [← strV_list x, e, strV_list]
    refine ⟨j, ?_, e2.symm⟩
    unfold hasK
    rw [List.mem_filter, List.mem_range]
    refine ⟨h7, ?_⟩
    rw [e2, ← keyF_lt h7, hs j h7] at h
    cases hm : M (keyF j) with
    | none => exact absurd hm h
    | some v => rfl
theorem keysPre_nodup {F : ByteArray → Option ByteArray} {p : List UInt8} {ks : List (List UInt8)} (h : KeysPre F p ks) : ks.Nodup := h.1.imp fun {a b} hab e => by
  subst e
  exact absurd hab (List.lt_irrefl _)
theorem prefL_nil (x : List UInt8) : prefL [] x = true := by simp [prefL]
theorem keysAll_perm {F M : ByteArray → Option ByteArray} (hd : DomF F) (hs : sameK F M 7) {ks : List (List UInt8)} (h : KeysPre F [] ks) : ks.Perm ((hasK M 7).map keyL) :=
  (List.perm_ext_iff_of_nodup (keysPre_nodup h) (keysK_nodup M)).2 fun x => by rw [h.2 x, prefL_nil, keysK_mem hd hs]; simp
theorem keysAll_length {F M : ByteArray → Option ByteArray} (hd : DomF F) (hs : sameK F M 7) {ks : List (List UInt8)} (h : KeysPre F [] ks) : ks.length = (hasK M 7).length := by
  have := (keysAll_perm hd hs h).length_eq
  rwa [List.length_map] at this
theorem sizeAll {F M : ByteArray → Option ByteArray} (hd : DomF F) (hs : sameK F M 7) {ss : List (List UInt8)} (hn : ss.Nodup) (hm : ∀ x, x ∈ ss ↔ F (strV x) ≠ none) : sizeL F ss = totK M 7 := by
  have hp : ss.Perm ((hasK M 7).map keyL) := (List.perm_ext_iff_of_nodup hn (keysK_nodup M)).2 fun x => by rw [hm x, keysK_mem hd hs]
  rw [sizeL_perm F hp]
  unfold sizeL totK
  rw [List.map_map]
  congr 1
  refine List.map_congr_left fun j hj => ?_
  have h7 := hasK_lt hj
  show (keyL j).length + ((F (strV (keyL j))).getD ⟨#[]⟩).size = _
  rw [← keyF_lt h7, hs j h7]
  have : (keyF j).size = (keyL j).length := by rw [keyF_lt h7]; show (keyL j).toArray.size = _; simp
  rw [this]
theorem keysPre_count {F : ByteArray → Option ByteArray} {p : List UInt8} {ks ks2 : List (List UInt8)} (h : KeysPre F [] ks) (h2 : KeysPre F p ks2) : ks2.length = (preK p ks).length := by
  refine List.Perm.length_eq ((List.perm_ext_iff_of_nodup (keysPre_nodup h2) ((keysPre_nodup h).filter _)).2 fun x => ?_)
  rw [h2.2 x, List.mem_filter, h.2 x, prefL_nil]
  simp
end Go.Proofs.YtelglbblgkhcmaaGreat
namespace Go.Proofs.YtelglbblgkhcmaaGreat
open Go.RowKit Go.Deep Go.Maps

theorem sameK_not {F M : ByteArray → Option ByteArray} {k : Nat} (hk : k < 7) (h : F (keyF k) ≠ M (keyF k)) : decide (sameK F M 7) = false := decide_eq_false fun hs => h (hs k hk)
/-- The beginning that alike counts. -/
def slashL : List UInt8 := [97, 47]
theorem ext2 (y : List UInt8) : ((⟨y.toArray⟩ : ByteArray).extract 0 2).toList = y.take 2 := by
  rw [bytes_toList, ByteArray.data_extract]
  simp
theorem preK_take {p : List UInt8} {ks : List (List UInt8)} {i : Nat} (hi : i < ks.length) : preK p (ks.take (i + 1)) = preK p (ks.take i) ++ (if prefL p ks[i] = true then [ks[i]] else []) := by
  rw [List.take_succ_eq_append_getElem hi]
  cases h : prefL p ks[i] with
  | true => rw [preK_snoc_yes h]; rfl
  | false => rw [preK_snoc_no h]; simp
theorem sameK_succ {F M : ByteArray → Option ByteArray} {k : Nat} (hs : sameK F M k) (h : F (keyF k) = M (keyF k)) : sameK F M (k + 1) := fun j hj => by
  rcases Nat.lt_or_ge j k with h1 | h1
  · exact hs j h1
  · obtain rfl : j = k := by omega
    exact h
set_option maxRecDepth 100000 in
set_option maxHeartbeats 8000000 in
theorem alike_any {gs gl mb N NM mm : Nat} {F M : ByteArray → Option ByteArray} {down : Bool} (w : World) (hf : Front gs gl mb N F down w) (hN : N ≤ 100000) (hF : FSm F) (hd : DomF F) (hm : SMapT w mm NM M) (hM : FSm M) :
    Calls Tryz.prog 14 #[.pointer (some ⟨gs, 0, none⟩), .map (some mm)] w fun e w' => e = .returned (.bool (decide (sameK F M 7))) ∧ Below w.heap.size w w' := by
  have hml := SMap.lt hm
  replace hf := Lib.hid hf
  replace hF := Lib.hid hF
  replace hd := Lib.hid hd
  replace hm := Lib.hid hm
  replace hM := Lib.hid hM
  obtain ⟨res, hres⟩ : ∃ b, b = decide (sameK F M 7) := ⟨_, rfl⟩
  rw [← hres]
  replace hres := Lib.hid hres
  go_enter Tryz.func14, Tryz.ntmps14
  go_wp2_with fail
  go_loopw [5, 6, 7] (fun nv tv kv wr => ∃ k nn tt : Nat, k ≤ 7 ∧ kv = .int .u8 k ∧ nv = .int .i64 nn ∧ tv = .int .i64 tt ∧ nn ≤ 7 ∧ tt ≤ 14000 ∧ Hid (nn = (hasK M k).length) ∧ Hid (tt = totK M k) ∧ Hid (sameK F M k) ∧ Hid (Below w.heap.size w wr)) (fun _ _ kv _ => 7 - (intOf kv).toNat)
  case atStart => exact ⟨0, 0, 0, by omega, rfl, rfl, rfl, by omega, by omega, Lib.hid (by simp [hasK]), Lib.hid (by simp [hasK, totK]), Lib.hid (fun j hj => by omega), Lib.hid (Below.refl _ _)⟩
  obtain ⟨k, nn, tt, hk, rfl, rfl, rfl, hnn, htt, hnn', htt', hs, hB⟩ := hrel
  rename World => wo
  by_cases hk7 : k < 7
  · have hks := keyF_size k
    have hfr : Hid (Front gs gl mb N F down wo) := Lib.hid (hf.out.loc fun x hx => hB.out.block x (hf.out.lt hx))
    have hmo : Hid (SMapT wo mm NM M) := Lib.hid (SMap.loc hm.out (hB.out.block mm hml))
    have hkw : IntKind.u8.wrap ((k : Int) + 1) = ((k + 1 : Nat) : Int) := by
      rw [IntWalk.u8_in _ (by omega)]; omega
    go_wp2_with fail
    refine (key_any wo k (by omega)).mono ?_
    rintro e w1 ⟨rfl, hB1⟩
    have hfr1 := Lib.hid (hfr.out.below hB1)
    have hmo1 := Lib.hid (SMap.loc (w' := w1) hmo.out (hB1.block mm (SMap.lt hmo.out)))
    have hBa := Lib.hid (hB.out.trans (hB1.mono hB.out.size))
    clear hB1 hfr hmo hB
    have hg := stget_any w1 hfr1.out (keyF k) (by omega)
    rcases hfk : F (keyF k) with _ | a <;> rcases hmk : M (keyF k) with _ | b
    · rw [hfk] at hg
      simp only [Option.getD_none, Option.isSome_none] at hg
      have hnx : Hid (sameK F M (k + 1) ∧ nn = (hasK M (k + 1)).length ∧ tt = totK M (k + 1)) := Lib.hid ⟨sameK_succ hs.out (hfk.trans hmk.symm), by rw [hasK_no hmk]; exact hnn'.out, by rw [totK_no hmk]; exact htt'.out⟩
      replace hmk := Lib.hid hmk
      replace hfk := Lib.hid hfk
      go_wp2_with fail
      refine hg.mono ?_
      clear hg
      rintro e w2 ⟨rfl, hB2⟩
      have hmo2 := Lib.hid (SMap.loc (w' := w2) hmo1.out (hB2.block mm (SMap.lt hmo1.out)))
      have hBb := Lib.hid (hBa.out.trans (hB2.mono hBa.out.size))
      clear hB2 hfr1 hmo1 hBa
      go_wp2_with fail
      refine (key_any w2 k (by omega)).mono ?_
      rintro e w3 ⟨rfl, hB3⟩
      have hlk := SMapT.look (SMap.loc (w' := w3) hmo2.out (hB3.block mm (SMap.lt hmo2.out))) (k := keyF k) (by omega)
      rw [hmk.out] at hlk
      simp only [Option.getD_none, Option.isSome_none] at hlk
      have hBc := Lib.hid (hBb.out.trans (hB3.mono hBb.out.size))
      clear hB3 hmo2 hBb
      go_wp2_with fail
      exact ⟨⟨k + 1, nn, tt, by omega, by simp, rfl, rfl, hnn, htt, Lib.hid hnx.out.2.1, Lib.hid hnx.out.2.2, Lib.hid hnx.out.1, hBc⟩, by simp [intOf]; omega⟩
    · rw [hfk] at hg
      simp only [Option.getD_none, Option.isSome_none] at hg
      have hno : Hid (res = false) := Lib.hid (hres.out.trans (sameK_not hk7 (by rw [hfk, hmk]; simp)))
      replace hmk := Lib.hid hmk
      replace hfk := Lib.hid hfk
      go_wp2_with fail
      refine hg.mono ?_
      clear hg
      rintro e w2 ⟨rfl, hB2⟩
      have hmo2 := Lib.hid (SMap.loc (w' := w2) hmo1.out (hB2.block mm (SMap.lt hmo1.out)))
      have hBb := Lib.hid (hBa.out.trans (hB2.mono hBa.out.size))
      clear hB2 hfr1 hmo1 hBa
      go_wp2_with fail
      refine (key_any w2 k (by omega)).mono ?_
      rintro e w3 ⟨rfl, hB3⟩
      have hlk := SMapT.look (SMap.loc (w' := w3) hmo2.out (hB3.block mm (SMap.lt hmo2.out))) (k := keyF k) (by omega)
      rw [hmk.out] at hlk
      simp only [Option.getD_some, Option.isSome_some] at hlk
      have hBc := Lib.hid (hBb.out.trans (hB3.mono hBb.out.size))
      clear hB3 hmo2 hBb
      go_wp2_with fail
      go_ret
      exact ⟨by rw [hno.out]; rfl, hBc.out⟩
    · rw [hfk] at hg
      simp only [Option.getD_some, Option.isSome_some] at hg
      have hno : Hid (res = false) := Lib.hid (hres.out.trans (sameK_not hk7 (by rw [hfk, hmk]; simp)))
      replace hmk := Lib.hid hmk
      replace hfk := Lib.hid hfk
      go_wp2_with fail
      refine hg.mono ?_
      clear hg
      rintro e w2 ⟨rfl, hB2⟩
      have hmo2 := Lib.hid (SMap.loc (w' := w2) hmo1.out (hB2.block mm (SMap.lt hmo1.out)))
      have hBb := Lib.hid (hBa.out.trans (hB2.mono hBa.out.size))
      clear hB2 hfr1 hmo1 hBa
      go_wp2_with fail
      refine (key_any w2 k (by omega)).mono ?_
      rintro e w3 ⟨rfl, hB3⟩
      have hlk := SMapT.look (SMap.loc (w' := w3) hmo2.out (hB3.block mm (SMap.lt hmo2.out))) (k := keyF k) (by omega)
      rw [hmk.out] at hlk
      simp only [Option.getD_none, Option.isSome_none] at hlk
      have hBc := Lib.hid (hBb.out.trans (hB3.mono hBb.out.size))
      clear hB3 hmo2 hBb
      go_wp2_with fail
      go_ret
      exact ⟨by rw [hno.out]; rfl, hBc.out⟩
    · rw [hfk] at hg
      simp only [Option.getD_some, Option.isSome_some] at hg
      have hab := hF.out _ _ hfk
      have hbb := hM.out _ _ hmk
      have hnx : Hid (a = b → sameK F M (k + 1) ∧ nn + 1 = (hasK M (k + 1)).length ∧ tt + ((keyF k).size + b.size) = totK M (k + 1)) := Lib.hid (fun e => ⟨sameK_succ hs.out (by rw [hfk, hmk, e]), by rw [hasK_yes hmk, List.length_append, ← hnn'.out]; rfl, by rw [totK_yes hmk, ← htt'.out]⟩)
      have hnt : tt + ((keyF k).size + b.size) ≤ 14000 ∧ nn + 1 ≤ 7 := by
        have h1 := totK_le hM.out (k + 1)
        have h2 := hasK_le M (k + 1)
        rw [totK_yes hmk, ← htt'.out] at h1
        rw [hasK_yes hmk, List.length_append, ← hnn'.out] at h2
        simp at h2
        omega
      have hno : Hid (a ≠ b → res = false) := Lib.hid (fun e => hres.out.trans (sameK_not hk7 (by rw [hfk, hmk]; intro h; exact e (Option.some.inj h))))
      replace hmk := Lib.hid hmk
      replace hfk := Lib.hid hfk
      go_wp2_with fail
      refine hg.mono ?_
      clear hg
      rintro e w2 ⟨rfl, hB2⟩
      have hmo2 := Lib.hid (SMap.loc (w' := w2) hmo1.out (hB2.block mm (SMap.lt hmo1.out)))
      have hBb := Lib.hid (hBa.out.trans (hB2.mono hBa.out.size))
      clear hB2 hfr1 hmo1 hBa
      go_wp2_with fail
      refine (key_any w2 k (by omega)).mono ?_
      rintro e w3 ⟨rfl, hB3⟩
      have hlk := SMapT.look (SMap.loc (w' := w3) hmo2.out (hB3.block mm (SMap.lt hmo2.out))) (k := keyF k) (by omega)
      rw [hmk.out] at hlk
      simp only [Option.getD_some, Option.isSome_some] at hlk
      have hBc := Lib.hid (hBb.out.trans (hB3.mono hBb.out.size))
      clear hB3 hmo2 hBb
      by_cases hab' : a = b
      · subst hab'
        have hny := Lib.hid (hnx.out rfl)
        clear hnx hno
        go_wp2_with fail
        refine (key_any w3 k (by omega)).mono ?_
        rintro e w4 ⟨rfl, hB4⟩
        have hBd := Lib.hid (hBc.out.trans (hB4.mono hBc.out.size))
        clear hB4 hBc hlk
        obtain ⟨ks, hks'⟩ : ∃ x, x = (keyF k).size := ⟨_, rfl⟩
        go_wp2_with fail
        exact ⟨⟨k + 1, nn + 1, tt + ((keyF k).size + a.size), by omega, by simp, by simp, by simp, by omega, by omega, Lib.hid hny.out.2.1, Lib.hid hny.out.2.2, Lib.hid hny.out.1, hBd⟩, by simp [intOf]; omega⟩
      · have hne : (a.toList == b.toList) = false := by
          rw [bytes_toList, bytes_toList, beq_eq_false_iff_ne]
          intro h
          exact hab' (by cases a; cases b; congr; exact Array.toList_inj.1 h)
        have hr := hno.out hab'
        replace hr := Lib.hid hr
        go_wp2_with fail
        go_ret
        exact ⟨by rw [hr.out]; rfl, hBc.out⟩
  · obtain rfl : k = 7 := by omega
    have hkx : ((7 : Nat) : Int) = 7 := rfl
    have hfr : Hid (Front gs gl mb N F down wo) := Lib.hid (hf.out.loc fun x hx => hB.out.block x (hf.out.lt hx))
    have hd7 : ¬ ((7 : Nat) : Int) < 7 := by omega
    have hrt : Hid (res = true) := Lib.hid (hres.out.trans (decide_eq_true hs.out))
    go_wp2_with fail
    refine (stkeys_any wo hfr.out hN hF.out.ok ⟨#[]⟩).mono ?_
    rintro e w1 ⟨⟨v, ks, rfl, hks, hkl, hO⟩, hB1⟩
    obtain ⟨A, c, rfl, hr, _, _⟩ := own_row hO
    have hlen : Hid (ks.length = nn) := Lib.hid (by rw [hnn'.out]; exact keysAll_length hd.out hs.out hks)
    obtain ⟨n2, hn2⟩ : ∃ x, x = ks.length := ⟨_, rfl⟩
    rw [← hn2] at hkl ⊢
    have hn2' := Lib.hid hn2
    have hfr1 := Lib.hid (hfr.out.below hB1)
    have hBa := Lib.hid (hB.out.trans (hB1.mono hB.out.size))
    replace hks := Lib.hid hks
    replace hr := Lib.hid hr
    have hn7 : n2 ≤ 7 := by have := hlen.out; omega
    clear hB1 hn2 hO hfr hB
    go_wp2_with fail
    go_loopw [13] (fun iv wr => ∃ i : Nat, 1 ≤ i ∧ (i ≤ n2 ∨ i = 1) ∧ iv = .int .i64 i ∧ Hid (Below w1.heap.size w1 wr)) (fun iv _ => 8 - (intOf iv).toNat)
    case atStart => exact ⟨1, by omega, .inr rfl, rfl, Lib.hid (Below.refl _ _)⟩
    obtain ⟨i, hi1, hi2, rfl, hBx⟩ := hrel
    by_cases hin : i < n2
    · have hil : i < ks.length := by rw [← hn2'.out]; exact hin
      have hlt := Lib.hid (List.pairwise_iff_getElem.1 hks.out.1 (i - 1) i (by omega) hil (by omega))
      obtain ⟨b, off, rfl, _, q1⟩ := (hr.out.below hBx.out).at_ (k := i - 1) (by simp; omega)
      obtain ⟨b2, off2, e2, _, q2⟩ := (hr.out.below hBx.out).at_ (k := i) (by simpa using hil)
      injection e2 with e2
      injection e2 with e2 e3
      subst e2 e3
      rw [List.getElem_map] at q1 q2
      generalize ks[i - 1] = x at *
      generalize ks[i] = y at *
      obtain ⟨i', rfl⟩ : ∃ i', i = i' + 1 := ⟨i - 1, by omega⟩
      have hsub : IntKind.i64.wrap (((i' + 1 : Nat) : Int) - 1) = (i' : Int) := by rw [IntWalk.i64_in _ (by omega)]; omega
      rw [Nat.add_sub_cancel] at q1
      go_wp2_with fail
      have hbl : Op.bytesLess x y = true := by rw [Go.Proofs.bytesLess_eq]; exact decide_eq_true hlt.out
      go_region
      all_goals
        go_wp2_with fail
        go_roundw
        case rel => exact ⟨i' + 1 + 1, by omega, by omega, by go_num, Lib.hid hBx.out.drew⟩
        case measure => simp [intOf]; omega
    · have hii : ¬ (i : Int) < (n2 : Int) := by omega
      have hBb := Lib.hid (hBa.out.trans (hBx.out.mono hBa.out.size))
      have hr2 := Lib.hid (hr.out.below hBx.out)
      have hfr2 := Lib.hid (hfr1.out.below hBx.out)
      obtain ⟨w2, hw2⟩ : ∃ x, x = wr := ⟨_, rfl⟩
      rw [← hw2] at hBb hr2 hfr2 ⊢
      clear hw2 hBx hBa hr hfr1
      go_wp2_with fail
      go_loopw [14, 15] (fun bv iv wr => ∃ i bb : Nat, i ≤ n2 ∧ bb ≤ i ∧ iv = .int .i64 i ∧ bv = .int .i64 bb ∧ Hid (bb = (preK slashL (ks.take i)).length) ∧ Hid (wr = w2)) (fun _ iv _ => n2 - (intOf iv).toNat)
      case atStart => exact ⟨0, 0, by omega, by omega, rfl, rfl, Lib.hid (by simp [preK]), Lib.hid rfl⟩
      clear hi1 hi2 hin hii
      obtain ⟨i, bb, hi, hbi, rfl, rfl, hbb, hwr⟩ := hrel
      by_cases hin : i < n2
      · have hil : i < ks.length := by rw [← hn2'.out]; exact hin
        have hii : (i : Int) < (n2 : Int) := by omega
        obtain ⟨b, off, rfl, _, q1⟩ := hr2.out.at_ (k := i) (by simpa using hil)
        rw [List.getElem_map, ← hwr.out] at q1
        have hpt := preK_take (p := slashL) hil
        generalize ks[i] = y at *
        have hyz : (⟨y.toArray⟩ : ByteArray).size = y.length := by show y.toArray.size = _; simp
        by_cases hp : prefL slashL y = true
        · rw [if_pos hp] at hpt
          have hbn : Hid (bb + 1 = (preK slashL (ks.take (i + 1))).length) := Lib.hid (by rw [hpt, List.length_append, ← hbb.out]; rfl)
          unfold prefL slashL at hp
          rw [Bool.and_eq_true, decide_eq_true_eq, decide_eq_true_eq] at hp
          obtain ⟨hp1, hp2⟩ := hp
          have hp1' : 2 ≤ y.length := hp1
          have hq : (((⟨y.toArray⟩ : ByteArray).extract 0 2).toList == [97, 47]) = true := by rw [ext2, show y.take 2 = [97, 47] from hp2]; rfl
          clear hp1 hp2 hpt
          go_wp2_with fail
          exact ⟨⟨i + 1, bb + 1, by omega, by omega, by simp, by simp, hbn, hwr⟩, by simp [intOf]; omega⟩
        · rw [if_neg hp, List.append_nil] at hpt
          have hbn : Hid (bb = (preK slashL (ks.take (i + 1))).length) := Lib.hid (by rw [hpt, ← hbb.out])
          clear hpt
          by_cases h2 : 2 ≤ y.length
          · have hq : (((⟨y.toArray⟩ : ByteArray).extract 0 2).toList == [97, 47]) = false := by
              rw [ext2, beq_eq_false_iff_ne]
              intro e
              apply hp
              unfold prefL slashL
              rw [Bool.and_eq_true, decide_eq_true_eq, decide_eq_true_eq]
              exact ⟨h2, e⟩
            clear hp
            go_wp2_with fail
            exact ⟨⟨i + 1, bb, by omega, by omega, by simp, rfl, hbn, hwr⟩, by simp [intOf]; omega⟩
          · have h2' : ¬ (2 : Int) ≤ (y.length : Int) := by omega
            clear hp
            go_wp2_with fail
            exact ⟨⟨i + 1, bb, by omega, by omega, by simp, rfl, hbn, hwr⟩, by simp [intOf]; omega⟩
      · obtain rfl : i = n2 := by omega
        have hii : ¬ (i : Int) < (i : Int) := by omega
        have hbf : Hid (bb = (preK slashL ks).length) := Lib.hid (by rw [hbb.out, List.take_of_length_le (by rw [← hn2'.out]; exact Nat.le_refl _)])
        have hq1 : ((i : Int) == (nn : Int)) = true := by have := hlen.out; have := hn2'.out; simp; omega
        obtain ⟨w3, hw3⟩ : ∃ x, x = wr := ⟨_, rfl⟩
        have hw3' : w3 = w2 := hw3.trans hwr.out
        rw [← hw3]
        rw [← hw3'] at hBb hfr2
        clear hbb hwr hr2 hw3 hw3'
        go_wp2_with fail
        refine (stsize_any w3 hfr2.out hN hF.out).mono ?_
        rintro e w4 ⟨⟨ss, rfl, hsn, hsm⟩, hB4⟩
        rw [(sizeAll hd.out hs.out hsn hsm).trans htt'.out.symm]
        have hfr4 := Lib.hid (hfr2.out.below hB4)
        have hBc := Lib.hid (hBb.out.trans (hB4.mono hBb.out.size))
        clear hB4 hsn hsm hfr2 hBb
        go_wp2_with fail
        refine (stkeys_any w4 hfr4.out hN hF.out.ok ⟨#[97, 47]⟩).mono ?_
        rintro e w5 ⟨⟨v2, ks2, rfl, hks2, _, hO2⟩, hB5⟩
        obtain ⟨A2, c2, rfl, _, _, _⟩ := own_row hO2
        have hb2 : ks2.length = bb := (keysPre_count hks.out hks2).trans hbf.out.symm
        rw [hb2]
        have hBd := Lib.hid (hBc.out.trans (hB5.mono hBc.out.size))
        clear hB5 hO2 hks2 hb2
        go_wp2_with fail
        go_ret
        exact ⟨by rw [hrt.out]; rfl, hBd.out⟩
end Go.Proofs.YtelglbblgkhcmaaGreat
namespace Go.Proofs.YtelglbblgkhcmaaGreat
open Go.RowKit Go.Deep Go.Maps

/-- The store that known makes. -/
def knownF : ByteArray → Option ByteArray := [(⟨⟨#[97]⟩, ⟨#[49]⟩, false⟩ : PairR), ⟨⟨#[98]⟩, ⟨#[50, 50]⟩, false⟩].foldl chg (fun _ => none)
theorem knownF_eq (k : ByteArray) : knownF k = if k = ⟨#[98]⟩ then some ⟨#[50, 50]⟩ else if k = ⟨#[97]⟩ then some ⟨#[49]⟩ else none := by
  unfold knownF
  simp only [List.foldl_cons, List.foldl_nil, chg]
  rfl
theorem strV_ne {a b : List UInt8} (h : a ≠ b) : strV a ≠ strV b := fun e => h (by rw [← strV_list a, e, strV_list])
theorem knownF_mem (x : List UInt8) : knownF (strV x) ≠ none ↔ x = [97] ∨ x = [98] := by
  rw [knownF_eq]
  show (if strV x = strV [98] then _ else if strV x = strV [97] then _ else _) ≠ none ↔ _
  by_cases h1 : x = [98]
  · subst h1; simp
  · rw [if_neg (strV_ne h1)]
    by_cases h2 : x = [97]
    · subst h2; simp
    · rw [if_neg (strV_ne h2)]
      simp [h1, h2]
theorem knownF_sm : FSm knownF := fun k v e => by
  rw [knownF_eq] at e
  split at e
  · rename_i h
    injection e with e
    subst h e
    exact ⟨by decide, by decide⟩
  · split at e
    · rename_i h
      injection e with e
      subst h e
      exact ⟨by decide, by decide⟩
    · cases e
theorem known_keys {ks : List (List UInt8)} (h : KeysPre knownF [97] ks) : ks = [[97]] := by
  have hp : ks.Perm [[97]] := (List.perm_ext_iff_of_nodup (keysPre_nodup h) (by simp)).2 fun x => by
    rw [h.2 x, knownF_mem]
    constructor
    · rintro ⟨rfl | rfl, h2⟩
      · simp
      · exact absurd h2 (by decide)
    · intro h2
      obtain rfl := List.mem_singleton.1 h2
      exact ⟨.inl rfl, by decide⟩
  exact List.perm_singleton.1 hp
theorem known_size {ss : List (List UInt8)} (hn : ss.Nodup) (hm : ∀ x, x ∈ ss ↔ knownF (strV x) ≠ none) : sizeL knownF ss = 5 := by
  have hp : ss.Perm [[97], [98]] := (List.perm_ext_iff_of_nodup hn (by decide)).2 fun x => by
    rw [hm x, knownF_mem]
    simp
  rw [sizeL_perm _ hp]
  have e1 : knownF (strV [97]) = some ⟨#[49]⟩ := by rw [knownF_eq]; rfl
  have e2 : knownF (strV [98]) = some ⟨#[50, 50]⟩ := by rw [knownF_eq]; rfl
  unfold sizeL
  simp [e1, e2]
  rfl
/-- A snapshot of few small pairs fits. -/
theorem snap_bound {F : ByteArray → Option ByteArray} {ks : List (List UInt8)} {K V : Nat} (h : ∀ k v, F k = some v → k.size ≤ K ∧ v.size ≤ V) (hk : KeysL (fun k => (F k).map entV) ks) (hK : K ≤ 1000) (hV : V ≤ 1000) : (framesF (snapF F ks)).length ≤ ks.length * (K + V + 40) := by
  have hb := framesF_bound (snapF F ks) (K + V + 32) (fun r hr => by
    unfold snapF at hr
    obtain ⟨x, hx, rfl⟩ := List.mem_map.1 hr
    have h1 := (hk.2 x).1 hx
    have h1' : F (strV x) ≠ none := fun e => h1 (by show (F (strV x)).map entV = none; rw [e]; rfl)
    obtain ⟨v, hv⟩ := Option.ne_none_iff_exists'.1 h1'
    obtain ⟨h2, h3⟩ := h _ _ hv
    have h4 := txtE_len K (strV x) h2 (by omega)
    have h5 := txtE_len V v h3 (by omega)
    have h6 := markE_len
    unfold recOf packE
    rw [hv]
    simp only [List.length_append, boolE, List.length_cons, List.length_nil, Option.getD_some]
    omega)
  have : (snapF F ks).length = ks.length := by simp [snapF]
  rw [this] at hb
  exact hb
theorem nodup_le : ∀ (ks l : List (List UInt8)), ks.Nodup → (∀ x ∈ ks, x ∈ l) → ks.length ≤ l.length
  | [], _, _, _ => Nat.zero_le _
  | a :: t, l, hn, hs => by
    have ha := hs a (List.mem_cons_self ..)
    have hnt := List.nodup_cons.1 hn
    have ih := nodup_le t (l.erase a) hnt.2 fun x hx => by
      have : x ≠ a := fun e => hnt.1 (e ▸ hx)
      exact (List.mem_erase_of_ne this).2 (hs x (List.mem_cons_of_mem _ hx))
    rw [List.length_erase_of_mem ha] at ih
    have := List.length_pos_of_mem ha
    rw [List.length_cons]
    omega
/-- Keys that lie in a list. -/
theorem keysL_le {f : ByteArray → Option Value} {ks : List (List UInt8)} (hk : KeysL f ks) (l : List (List UInt8)) (hl : ∀ x, f (strV x) ≠ none → x ∈ l) : ks.length ≤ l.length := by
  have hn : ks.Nodup := hk.1.imp fun {a b} hab e => by subst e; exact absurd hab (List.lt_irrefl _)
  exact nodup_le ks l hn fun x hx => hl x ((hk.2 x).1 hx)
/-- All blocks of a store lie from B on. -/
def Low (B : Nat) (S : SR) : Prop := ∀ x, S.Fp x → B ≤ x
section
variable {n s B : Nat} {S S' : SR} {q : DR} {w w' : World} {F F2 : ByteArray → Option ByteArray} {all : List (List UInt8)} {h : Hdr}
theorem OpenS.low (ho : OpenS n s q F all h w S w') (hB : B ≤ w.heap.size) (hq : Hi B q) : Below B w w' ∧ Low B S :=
  ⟨ho.tch.below hB hq, fun x hx => by
    rcases ho.foot x hx with e | e
    · exact hq x e
    · omega⟩
theorem Upd.low (hu : Upd (LiveC n s S) w (LiveC n s S') w') (hB : B ≤ w.heap.size) (hl : Low B S) : Below B w w' ∧ Low B S' :=
  ⟨hu.tch.below hB hl, fun x hx => by
    rcases (hu.foot x hx).1 with e | e
    · exact hl x e
    · omega⟩
theorem Upd.lowD (hu : Upd (LiveC n s S) w (DeadC n s S' F2) w') (hB : B ≤ w.heap.size) (hl : Low B S) : Below B w w' ∧ Low B S' :=
  ⟨hu.tch.below hB hl, fun x hx => by
    rcases (hu.foot x hx).1 with e | e
    · exact hl x e
    · omega⟩
theorem LiveP.few (hL : LiveP n s S w) : S.all.length * 8 ≤ half n * s := by
  have h1 := frames_eight S.all
  have h2 := hL.log.good.used
  have h3 := hL.log.good.fits
  omega
/-- What Open leaves, on the disk of a store that stands. -/
structure Again (n s : Nat) (S : SR) (w : World) (S' : SR) (w' : World) : Prop where
  live : LiveP n s S' w'
  hF : S'.F = S.F
  hg : S'.q.g = S.q.g
  cut : S'.q.cut = false
  ser : S'.l.serial = S.l.serial
  hN : S'.N * 8 ≤ half n * s
  tch : Tch S.Fp w w'
  foot : ∀ x, S'.Fp x → S.Fp x ∨ w.heap.size ≤ x
theorem reopen5 (hn1 : 16 ≤ n) (hs : 128 ≤ s) (hb : half n * s ≤ 200000) (hL : LiveP n s S w) (hc : S.q.cut = false) :
    Calls Tryz.prog 11 #[.pointer (some ⟨S.q.g, 0, none⟩)] w fun e w' => ∃ S', e = .returned (.tuple #[.pointer (some ⟨S'.gs, 0, none⟩), .int .i64 0]) ∧ Again n s S w S' w' := by
  have hfew := hL.few
  refine (stopen_any hn1 hs w S.q hL.log.disk hL.log.dead hc hL.log.hn hL.log.hsz hL.log.good hL.recs (by omega)).mono ?_
  rintro e w' ⟨S', rfl, hO⟩
  exact ⟨S', rfl, hO.live, hO.hF, hO.hg, hO.cut, hO.ser, by rw [hO.hN]; exact hfew, hO.tch.more (fun k _ hk => .inr (.inr (.inr hk))), fun x hx => by
    rcases hO.foot x hx with e | e
    · exact .inl (.inr (.inr (.inr e)))
    · exact .inr e⟩
theorem Again.low (ha : Again n s S w S' w') (hB : B ≤ w.heap.size) (hl : Low B S) : Below B w w' ∧ Low B S' :=
  ⟨ha.tch.below hB hl, fun x hx => by
    rcases ha.foot x hx with e | e
    · exact hl x e
    · omega⟩
/-- Open on a new disk. -/
theorem opennew5 (hn1 : 16 ≤ n) (hs : 128 ≤ s) (hq : NewD n s q w) :
    Calls Tryz.prog 11 #[.pointer (some ⟨q.g, 0, none⟩)] w fun e w' => ∃ S', e = .returned (.tuple #[.pointer (some ⟨S'.gs, 0, none⟩), .int .i64 0]) ∧ OpenS n s q (fun _ => none) [] zeroH w S' w' :=
  stopen_any hn1 hs w q hq.disk hq.dead hq.cut hq.hn hq.hsz hq.good RecsF.nil (by simp)
end
set_option maxRecDepth 100000 in
set_option maxHeartbeats 8000000 in
theorem known5_any (w : World) : Calls Tryz.prog 9 #[] w fun e w' => e = .returned (.bool true) ∧ Below w.heap.size w w' := by
  go_enter Tryz.func9, Tryz.ntmps9
  go_wp2_with fail
  refine (newd_any w 200 256 (by omega) (by omega) (by omega) (by omega)).mono ?_
  rintro e w1 ⟨q, rfl, hq, hqg, hB1, hlow⟩
  replace hq := Lib.hid hq
  replace hlow := Lib.hid hlow
  have hB := Lib.hid hB1
  clear hqg hB1
  go_wp2_with fail
  refine (opennew5 (n := 200) (s := 256) (by omega) (by omega) hq.out).mono ?_
  rintro e w2 ⟨S, rfl, hO⟩
  obtain ⟨hb2, hl2⟩ := hO.low hB.out.size hlow.out
  have hB2 := Lib.hid (hB.out.trans hb2)
  have hb3 := below_new w2 (.cells #[.string ⟨#[97]⟩, .string ⟨#[49]⟩, .bool false, .string ⟨#[98]⟩, .string ⟨#[50, 50]⟩, .bool false] 41)
  have hh3 := Holds.new w2 41 #[.string ⟨#[97]⟩, .string ⟨#[49]⟩, .bool false, .string ⟨#[98]⟩, .string ⟨#[50, 50]⟩, .bool false]
  obtain ⟨w3, hw3⟩ : ∃ x, x = w2.alloc (.cells #[.string ⟨#[97]⟩, .string ⟨#[49]⟩, .bool false, .string ⟨#[98]⟩, .string ⟨#[50, 50]⟩, .bool false] 41) := ⟨_, rfl⟩
  obtain ⟨g3, hg3⟩ : ∃ x, x = w2.heap.size := ⟨_, rfl⟩
  rw [← hw3] at hb3 hh3
  rw [← hg3] at hh3
  have hB3 := Lib.hid (hB2.out.trans (hb3.mono hB2.out.size))
  have hL3 := Lib.hid (hO.live.below hb3)
  have hr3 : Hid (Row w3 w3.heap.size (some ⟨g3, 0, none⟩) ([(⟨⟨#[97]⟩, ⟨#[49]⟩, false⟩ : PairR), ⟨⟨#[98]⟩, ⟨#[50, 50]⟩, false⟩].flatMap PairR.cells)) := Lib.hid (Row.ofHolds hh3 hh3.lt)
  have hS : Hid (S.F = (fun _ => none) ∧ S.l.serial = 0 ∧ S.N = 0 ∧ S.q.cut = false ∧ S.q.g = q.g ∧ Low w.heap.size S) := Lib.hid ⟨hO.hF, hO.ser, hO.hN, hO.cut, hO.hg, hl2⟩
  clear hO hb2 hl2 hb3 hh3 hB hB2
  go_wp2_with fail
  rw [← hw3, ← hg3]
  clear hw3 hg3
  have hkf : Hid ([(⟨⟨#[97]⟩, ⟨#[49]⟩, false⟩ : PairR), ⟨⟨#[98]⟩, ⟨#[50, 50]⟩, false⟩].foldl chg S.F = knownF) := Lib.hid (by rw [hS.out.1]; rfl)
  refine (apply_any (n := 200) (s := 256) (by omega) (by omega) w3 S hL3.out (by rw [hS.out.2.1]; omega) (some ⟨g3, 0, none⟩) 2 2 [⟨⟨#[97]⟩, ⟨#[49]⟩, false⟩, ⟨⟨#[98]⟩, ⟨#[50, 50]⟩, false⟩] rfl hr3.out
    (fun p hp => by
      simp only [List.mem_cons, List.not_mem_nil, or_false] at hp
      rcases hp with rfl | rfl <;> exact ⟨by decide, by decide⟩) (by rw [hS.out.2.2.1]; omega) (by rw [hS.out.1]; exact FSm.none) (fun ks hks => by
      rw [hkf.out] at hks ⊢
      have h1 := snap_bound knownF_sm hks (by omega) (by omega)
      have h2 := keysL_le hks [[97], [98]] (fun x hx => by
        have h3 : knownF (strV x) ≠ none := fun e => hx (by show (knownF (strV x)).map entV = none; rw [e]; rfl)
        rcases (knownF_mem x).1 h3 with rfl | rfl <;> simp)
      have h3 : ks.length * 2040 ≤ 2 * 2040 := Nat.mul_le_mul_right _ h2
      have h4 : half 200 = 99 := rfl
      rw [h4]
      omega)).mono ?_
  rintro e w4 hA
  rw [hkf.out] at hA
  unfold ApplyE at hA
  rcases hA with ⟨S2, rfl, hU, hgs, hmb, hqg, hF2, hN2, hser, hcut⟩ | ⟨S2, hcut, _⟩
  case inr => rw [hS.out.2.2.2.1] at hcut; cases hcut
  obtain ⟨hb4, hl4⟩ := hU.low hB3.out.size hS.out.2.2.2.2.2
  have hB4 := Lib.hid (hB3.out.trans hb4)
  have hL4 : Hid (LiveP 200 256 S2 w4) := Lib.hid hU.post
  have hS2 : Hid (S2.F = knownF ∧ S2.q.cut = false ∧ S2.q.g = q.g ∧ Low w.heap.size S2) := Lib.hid ⟨hF2, hcut hS.out.2.2.2.1, hqg.trans hS.out.2.2.2.2.1, hl4⟩
  clear hU hgs hmb hqg hF2 hN2 hser hcut hb4 hl4 hS hL3 hr3 hB3 hkf
  go_wp2_with fail
  have ho := reopen5 (by omega) (by omega) (by decide) hL4.out hS2.out.2.1
  rw [hS2.out.2.2.1] at ho
  refine ho.mono ?_
  clear ho
  rintro e w5 ⟨S3, rfl, hO⟩
  obtain ⟨hb5, hl5⟩ := hO.low hB4.out.size hS2.out.2.2.2
  have hB5 := Lib.hid (hB4.out.trans hb5)
  have hfr : Hid (S3.front false w5) := Lib.hid hO.live.fr
  have hF3 : Hid (S3.F = knownF) := Lib.hid (hO.hF.trans hS2.out.1)
  have hN3 : Hid (S3.N ≤ 100000) := Lib.hid (by have := hO.hN; have : half 200 * 256 = 25344 := rfl; omega)
  clear hO hb5 hl5 hB4 hL4 hS2 hq hlow
  go_wp2_with fail
  have hfr0 := hfr.out
  unfold SR.front at hfr0
  rw [hF3.out] at hfr0
  replace hfr0 := Lib.hid hfr0
  clear hfr hF3
  have e1 : knownF ⟨#[98]⟩ = some ⟨#[50, 50]⟩ := by rw [knownF_eq]; rfl
  have e2 : knownF ⟨#[99]⟩ = none := by rw [knownF_eq]; rfl
  have hg1 := stget_any w5 hfr0.out ⟨#[98]⟩ (by decide)
  rw [e1] at hg1
  simp only [Option.getD_some, Option.isSome_some] at hg1
  clear e1
  replace e2 := Lib.hid e2
  refine hg1.mono ?_
  clear hg1
  rintro e w6 ⟨rfl, hb6⟩
  have hfr6 := Lib.hid (hfr0.out.below hb6)
  have hB6 := Lib.hid (hB5.out.trans (hb6.mono hB5.out.size))
  clear hb6 hfr0 hB5
  go_wp2_with fail
  have hg2 := stget_any w6 hfr6.out ⟨#[99]⟩ (by decide)
  rw [e2.out] at hg2
  simp only [Option.getD_none, Option.isSome_none] at hg2
  refine hg2.mono ?_
  clear hg2
  rintro e w7 ⟨rfl, hb7⟩
  have hfr7 := Lib.hid (hfr6.out.below hb7)
  have hB7 := Lib.hid (hB6.out.trans (hb7.mono hB6.out.size))
  clear hb7 hfr6 hB6 e2
  go_wp2_with fail
  refine (stkeys_any w7 hfr7.out hN3.out knownF_sm.ok ⟨#[97]⟩).mono ?_
  rintro e w8 ⟨⟨v, ks, rfl, hks, _, hO8⟩, hb8⟩
  obtain rfl := known_keys hks
  obtain ⟨A, c, rfl, hr8, _, _⟩ := own_row hO8
  have hfr8 := Lib.hid (hfr7.out.below hb8)
  have hB8 := Lib.hid (hB7.out.trans (hb8.mono hB7.out.size))
  replace hr8 := Lib.hid hr8
  rw [show ([[97]] : List (List UInt8)).length = 1 from rfl]
  have hb9 := below_new w8 (.cells #[.string ⟨#[97]⟩] 9)
  have hh9 := Holds.new w8 9 #[.string ⟨#[97]⟩]
  obtain ⟨w9, hw9⟩ : ∃ x, x = w8.alloc (.cells #[.string ⟨#[97]⟩] 9) := ⟨_, rfl⟩
  obtain ⟨g9, hg9⟩ : ∃ x, x = w8.heap.size := ⟨_, rfl⟩
  rw [← hw9] at hb9 hh9
  rw [← hg9] at hh9
  have hr9 : Hid (Row w9 w9.heap.size (some ⟨g9, 0, none⟩) (([[97]] : List (List UInt8)).map encStr)) := Lib.hid (Row.ofHolds hh9 hh9.lt)
  have hr10 : Hid (Row w9 w9.heap.size A (([[97]] : List (List UInt8)).map encStr)) := Lib.hid ((hr8.out.below hb9).more hb9.size)
  have hB9 := Lib.hid (hB8.out.trans (hb9.mono hB8.out.size))
  have hfr9 := Lib.hid (hfr8.out.below hb9)
  clear hb9 hh9 hr8 hO8 hks hb8 hfr7 hfr8 hB7 hB8
  go_wp2_with fail
  rw [← hw9, ← hg9]
  clear hw9 hg9
  refine (strs_any w9 A (some ⟨g9, 0, none⟩) 1 1 c 1 [[97]] [[97]] rfl rfl (by omega) (by omega) hr10.out hr9.out).mono ?_
  rintro e w10 ⟨rfl, hb10⟩
  rw [show decide (([[97]] : List (List UInt8)) = [[97]]) = true from rfl]
  have hB10 := Lib.hid (hB9.out.trans (hb10.mono hB9.out.size))
  have hfr10 := Lib.hid (hfr9.out.below hb10)
  clear hb10 hB9 hfr9 hr9 hr10
  go_wp2_with fail
  refine (stsize_any w10 hfr10.out hN3.out knownF_sm).mono ?_
  rintro e w11 ⟨⟨ss, rfl, hsn, hsm⟩, hb11⟩
  rw [known_size hsn hsm]
  have hB11 := Lib.hid (hB10.out.trans (hb11.mono hB10.out.size))
  have hfr11 := Lib.hid (hfr10.out.below hb11)
  clear hb11 hB10 hfr10 hsn hsm
  go_wp2_with fail
  refine (down_any w11 hfr11.out).mono ?_
  rintro e w12 ⟨rfl, rfl⟩
  go_wp2_with fail
  go_ret
  exact ⟨rfl, hB11.out⟩
end Go.Proofs.YtelglbblgkhcmaaGreat
namespace Go.Proofs.YtelglbblgkhcmaaGreat
open Go.RowKit Go.Deep Go.Maps

theorem domF_none : DomF (fun _ => none) := fun _ h => absurd rfl h
theorem keyF_mod (k : Nat) : keyF (k % 7) = keyF k := by unfold keyF; rw [Nat.mod_mod]
theorem DomF.chg {F : ByteArray → Option ByteArray} (h : DomF F) {p : PairR} (hp : ∃ j, p.k = keyF j) : DomF (chg F p) := fun k hk => by
  unfold Go.Proofs.YtelglbblgkhcmaaGreat.chg at hk
  split at hk
  · rename_i e
    obtain ⟨j, hj⟩ := hp
    exact ⟨j % 7, Nat.mod_lt _ (by omega), by rw [keyF_mod, e, hj]⟩
  · exact h k hk
theorem DomF.fold {ps : List PairR} : ∀ {F : ByteArray → Option ByteArray}, DomF F → (∀ p ∈ ps, ∃ j, p.k = keyF j) → DomF (ps.foldl Go.Proofs.YtelglbblgkhcmaaGreat.chg F) := by
  induction ps with
  | nil => intro F h _; exact h
  | cons p t ih => intro F h hp; exact ih (h.chg (hp p (List.mem_cons_self ..))) (fun x hx => hp x (List.mem_cons_of_mem _ hx))
theorem pairsF_key (i : Nat) (l : List LP) : ∀ p ∈ pairsF i l, ∃ j, p.k = keyF j := fun p hp => by
  unfold pairsF at hp
  obtain ⟨k, hk, rfl⟩ := List.mem_mapIdx.1 hp
  exact ⟨_, rfl⟩
theorem pairsF_sm (i : Nat) (l : List LP) : ∀ p ∈ pairsF i l, p.sm := fun p hp => by
  unfold pairsF at hp
  obtain ⟨k, hk, rfl⟩ := List.mem_mapIdx.1 hp
  exact prF_sm i k _
theorem fit_dom {n s : Nat} {F : ByteArray → Option ByteArray} (hd : DomF F) (hs : FSm F) (hb : 14280 ≤ half n * s) : FitF n s F := fun ks hks => by
  have h1 := snap_bound hs hks (by omega) (by omega)
  have h2 := keysL_le hks ((List.range 7).map keyL) (fun x hx => by
    have h3 : F (strV x) ≠ none := fun e => hx (by show (F (strV x)).map entV = none; rw [e]; rfl)
    obtain ⟨j, hj, e⟩ := hd _ h3
    rw [keyF_lt hj] at e
    exact List.mem_map.2 ⟨j, List.mem_range.2 hj, by rw [← strV_list (keyL j), ← e, strV_list]⟩)
  rw [List.length_map, List.length_range] at h2
  have h3 : ks.length * 2040 ≤ 7 * 2040 := Nat.mul_le_mul_right _ h2
  omega
/-- A store that stands with power, whose blocks are all new since B. -/
structure Lw (B n s : Nat) (S : SR) (w : World) : Prop where
  live : LiveP n s S w
  low : Low B S
  cut : S.q.cut = false
/-- The law's map, apart from the store. -/
structure Mp (B : Nat) (S : SR) (mm NM : Nat) (M : ByteArray → Option ByteArray) (w : World) : Prop where
  map : SMapT w mm NM M
  off : ¬ S.Fp mm
  low : B ≤ mm
section
variable {B n s mm NM : Nat} {S S' : SR} {w w' : World} {M F2 : ByteArray → Option ByteArray}
theorem Lw.below (h : Lw B n s S w) (hb : Below w.heap.size w w') : Lw B n s S w' := ⟨h.live.below hb, h.low, h.cut⟩
theorem Mp.below (h : Mp B S mm NM M w) (hb : Below w.heap.size w w') : Mp B S mm NM M w' := ⟨SMap.loc h.map (hb.block mm (SMap.lt h.map)), h.off, h.low⟩
theorem Mp.tch (h : Mp B S mm NM M w) (ht : Tch S.Fp w w') (hf : ∀ x, S'.Fp x → S.Fp x ∨ w.heap.size ≤ x) : Mp B S' mm NM M w' :=
  ⟨SMap.loc h.map (ht.block mm (SMap.lt h.map) h.off), fun hx => by
    rcases hf mm hx with e | e
    · exact h.off e
    · have := SMap.lt h.map; omega, h.low⟩
/-- The store behind a write to the law's map. -/
theorem Lw.mapped (h : Lw B n s S w) (hm : Mp B S mm NM M w) (hW : Writes [some mm] w w') : Lw B n s S w' :=
  ⟨h.live.loc fun x hx => hW.block x (h.live.lt x hx) (by
    simp only [List.mem_cons, Option.some.injEq, List.not_mem_nil, or_false]
    rintro rfl
    exact hm.off hx), h.low, h.cut⟩
theorem Mp.new (w : World) (hL : Lw B n s S w) (hB : B ≤ w.heap.size) : Mp B S w.heap.size 0 (fun _ => none) (w.alloc (.map #[] 0)) :=
  ⟨SMap.made w, fun hx => by have := hL.live.lt _ hx; omega, hB⟩
theorem pairs_step (hL : Lw B n s S w) (hm : Mp B S mm NM M w) (hB : B ≤ w.heap.size) (i : Nat) (hi : i ≤ 1000) (A : Option Addr) (k c : Nat) (l : List LP) (hl : l.length = k) (hk : k ≤ 1000) (hr : Row w w.heap.size A (l.flatMap LP.cells)) (hN : NM ≤ 100000) :
    Calls Tryz.prog 13 #[.int .i64 i, .slice A k c, .map (some mm)] w fun e w' => ∃ A' c', e = .returned (.slice A' k c') ∧ Row w' w'.heap.size A' ((pairsF i l).flatMap PairR.cells) ∧ Lw B n s S w' ∧ Mp B S mm (NM + k) ((pairsF i l).foldl chg M) w' ∧ Below B w w' := by
  refine (pairs_any w i hi A k c l hl hk hr mm NM M hm.map hN).mono ?_
  rintro e w' ⟨⟨v, rfl, hO⟩, hm', hW⟩
  obtain ⟨A', c', rfl, hr'⟩ : ∃ A' c', v = .slice A' k c' ∧ Row w' w'.heap.size A' ((pairsF i l).flatMap PairR.cells) := by
    rcases hO.2 with ⟨rfl, hk0⟩ | ⟨g, cap, cur, rfl, hg, hb, _, _, _, h6⟩
    · refine ⟨none, 0, ?_, ?_⟩
      · rw [hk0]
      · have h0 : l.length = 0 := by omega
        have : pairsF i l = [] := List.eq_nil_of_length_eq_zero (by rw [pairsF_length]; exact h0)
        rw [this]
        exact Row.nil_ _ _ _
    · refine ⟨some ⟨g, 0, none⟩, cap, rfl, fun hne => ⟨g, 0, rfl, (Array.getElem?_eq_some_iff.1 hb).1, fun j u hu => ?_⟩⟩
      have h7 : (cur.toList.take (k * 3))[j]? = some u := by rw [h6]; exact hu
      rw [List.getElem?_take] at h7
      split at h7
      · rw [Nat.zero_add, cell_of_row _ _ _ _ _ _ hb, ← Array.getElem?_toList]
        exact h7
      · cases h7
  exact ⟨A', c', rfl, hr', hL.mapped hm hW, ⟨hm', hm.off, hm.low⟩, hW.below hB (fun j hj => by simp at hj; rw [hj]; exact hm.low)⟩
/-- What a call that is done leaves. -/
structure Done (B n s : Nat) (S : SR) (mm NM : Nat) (M : ByteArray → Option ByteArray) (w : World) (F2 : ByteArray → Option ByteArray) (N2 : Nat) (S' : SR) (w' : World) : Prop where
  lw : Lw B n s S' w'
  mp : Mp B S' mm NM M w'
  gs : S'.gs = S.gs
  hg : S'.q.g = S.q.g
  hF : S'.F = F2
  hN : S'.N = N2
  ser : S'.l.serial ≤ S.l.serial + 2
  bel : Below B w w'
theorem Done.front {N2 : Nat} (h : Done B n s S mm NM M w F2 N2 S' w') : Front S.gs S'.l.g S'.mb S'.N F2 false w' := by
  have := h.lw.live.fr
  unfold SR.front at this
  rw [h.gs, h.hF] at this
  exact this
theorem done_of (hL : Lw B n s S w) (hm : Mp B S mm NM M w) (hB : B ≤ w.heap.size) {N2 : Nat} {e : Ending} (hA : ApplyE n s S F2 N2 w e w') : e = .returned (.int .i64 0) ∧ ∃ S', Done B n s S mm NM M w F2 N2 S' w' := by
  rcases hA with ⟨S2, rfl, hU, hgs, hmb, hqg, hF2, hN2, hser, hcut⟩ | ⟨S2, hcut, _⟩
  case inr => rw [hL.cut] at hcut; cases hcut
  obtain ⟨h1, h2⟩ := hU.low hB hL.low
  exact ⟨rfl, S2, ⟨hU.post, h2, hcut hL.cut⟩, hm.tch hU.tch (fun x hx => (hU.foot x hx).1), hgs, hqg, hF2, hN2, hser, h1⟩
theorem apply_step (hn1 : 16 ≤ n) (hs : 128 ≤ s) (hfit : 14280 ≤ half n * s) (hL : Lw B n s S w) (hm : Mp B S mm NM M w) (hB : B ≤ w.heap.size) (hser : S.l.serial + 2 ≤ 4611686018427387904) (A : Option Addr) (k c : Nat) (ps : List PairR) (hk : ps.length = k) (hr : Row w w.heap.size A (ps.flatMap PairR.cells)) (hps : ∀ p ∈ ps, p.sm) (hpk : ∀ p ∈ ps, ∃ j, p.k = keyF j) (hN : S.N + k ≤ 100000) (hF : FSm S.F) (hd : DomF S.F) :
    Calls Tryz.prog 12 #[.pointer (some ⟨S.gs, 0, none⟩), .slice A k c] w fun e w' => e = .returned (.int .i64 0) ∧ ∃ S', Done B n s S mm NM M w (ps.foldl chg S.F) (S.N + k) S' w' :=
  (apply_any hn1 hs w S hL.live hser A k c ps hk hr hps hN hF (fit_dom (hd.fold hpk) (hF.fold hps) hfit)).mono fun _ _ hA => done_of hL hm hB hA
theorem compact_step (hn1 : 16 ≤ n) (hs : 128 ≤ s) (hfit : 14280 ≤ half n * s) (hL : Lw B n s S w) (hm : Mp B S mm NM M w) (hB : B ≤ w.heap.size) (hser : S.l.serial + 2 ≤ 4611686018427387904) (hN : S.N ≤ 100000) (hF : FSm S.F) (hd : DomF S.F) :
    Calls Tryz.prog 20 #[.pointer (some ⟨S.gs, 0, none⟩)] w fun e w' => e = .returned (.int .i64 0) ∧ ∃ S', Done B n s S mm NM M w S.F S.N S' w' :=
  (compact_any hn1 hs w S hL.live hser hN hF (fit_dom hd hF hfit)).mono fun _ _ hA => done_of hL hm hB hA
/-- What opening anew leaves. -/
structure Anew (B n s : Nat) (S : SR) (mm NM : Nat) (M : ByteArray → Option ByteArray) (w : World) (S' : SR) (w' : World) : Prop where
  lw : Lw B n s S' w'
  mp : Mp B S' mm NM M w'
  hg : S'.q.g = S.q.g
  hF : S'.F = S.F
  hN : S'.N * 8 ≤ half n * s
  ser : S'.l.serial = S.l.serial
  bel : Below B w w'
theorem Anew.front {F : ByteArray → Option ByteArray} (h : Anew B n s S mm NM M w S' w') (hF : S.F = F) : Front S'.gs S'.l.g S'.mb S'.N F false w' := by
  have := h.lw.live.fr
  unfold SR.front at this
  rw [h.hF, hF] at this
  exact this
theorem open_step (hn1 : 16 ≤ n) (hs : 128 ≤ s) (hb : half n * s ≤ 200000) (hL : Lw B n s S w) (hm : Mp B S mm NM M w) (hB : B ≤ w.heap.size) {gd : Nat} (hgd : S.q.g = gd) :
    Calls Tryz.prog 11 #[.pointer (some ⟨gd, 0, none⟩)] w fun e w' => ∃ S', e = .returned (.tuple #[.pointer (some ⟨S'.gs, 0, none⟩), .int .i64 0]) ∧ Anew B n s S mm NM M w S' w' := by
  subst hgd
  refine (reopen5 hn1 hs hb hL.live hL.cut).mono ?_
  rintro e w' ⟨S', rfl, hA⟩
  obtain ⟨h1, h2⟩ := hA.low hB hL.low
  exact ⟨S', rfl, ⟨hA.live, h2, hA.cut⟩, hm.tch hA.tch hA.foot, hA.hg, hA.hF, hA.hN, hA.ser, h1⟩
theorem alike_step {down : Bool} {gs gl mb N : Nat} {F : ByteArray → Option ByteArray} (hf : Front gs gl mb N F down w) (hN : N ≤ 100000) (hF : FSm F) (hd : DomF F) (hm : SMapT w mm NM M) (he : F = M) :
    Calls Tryz.prog 14 #[.pointer (some ⟨gs, 0, none⟩), .map (some mm)] w fun e w' => e = .returned (.bool true) ∧ Below w.heap.size w w' := by
  subst he
  refine (alike_any w hf hN hF hd hm hF).mono ?_
  rintro e w' ⟨rfl, hb⟩
  rw [decide_eq_true (show sameK F F 7 from fun j _ => rfl)]
  exact ⟨rfl, hb⟩
end
end Go.Proofs.YtelglbblgkhcmaaGreat
