/-
  The walk of StorePrefix.
-/
import Derived.Test.YtelglbblgkhcmaaGreatSd
import Derived.Test.YtelglbblgkhcmaaGreatCodeR
namespace Go.Proofs.YtelglbblgkhcmaaGreat
open Go.RowKit Go.Deep Go.Maps Go.ChangeShapes Go.WideShapes
open Go.ChangeMaps (open_string)

set_option maxRecDepth 100000 in
theorem ArgOk.text1 {W : World} {v : Value} (h : ArgOk 9 W v) : ∃ s : ByteArray, v = .string s ∧ s.size ≤ maxLen := by
  obtain ⟨s, e, hs⟩ := h.trd.string Tryz.underlying9
  obtain ⟨H, enc, d, p, base, hok, hf⟩ := h
  obtain ⟨s', rfl, h2⟩ := open_string Tryz.underlying9 hok hf
  simp [Value.cells] at e
  subst e
  exact ⟨_, rfl, hs⟩
open Classical in
/-- A store that has the keys of l, each with no value. -/
noncomputable def preF (l : List ByteArray) : ByteArray → Option ByteArray := fun k => if k ∈ l then some ⟨#[]⟩ else none
theorem preF_nil : preF [] = fun _ => none := by funext k; simp [preF]
theorem preF_snoc (l : List ByteArray) (x : ByteArray) : chg (preF l) ⟨x, ⟨#[]⟩, false⟩ = preF (l ++ [x]) := by
  funext k
  unfold chg preF
  by_cases h : k = x
  · subst h; simp
  · rw [if_neg h]
    by_cases h2 : k ∈ l
    · rw [if_pos h2, if_pos (List.mem_append_left _ h2)]
    · rw [if_neg h2, if_neg]
      intro h3
      rcases List.mem_append.1 h3 with h3 | h3
      · exact h2 h3
      · exact h (List.mem_singleton.1 h3)
theorem preF_sm {l : List ByteArray} (h : ∀ x ∈ l, x.size ≤ 30) : FSm (preF l) := fun k v e => by
  unfold preF at e
  split at e
  · rename_i hk
    injection e with e
    subst e
    exact ⟨Nat.le_trans (h k hk) (by omega), by show (0 : Nat) ≤ _; omega⟩
  · cases e
set_option maxRecDepth 100000 in
theorem preF_fit {l : List ByteArray} (h : ∀ x ∈ l, x.size ≤ 30) (hl : l.length ≤ 20) : FitF 400 512 (preF l) := fun ks hks => by
  have h1 := snap_bound (preF_sm h) hks (by omega) (by omega)
  have h2 := keysL_le hks (l.map fun x => x.data.toList) (fun x hx => by
    have h3 : preF l (strV x) ≠ none := fun e => hx (by show (preF l (strV x)).map entV = none; rw [e]; rfl)
    unfold preF at h3
    split at h3
    · rename_i hk
      exact List.mem_map.2 ⟨_, hk, strV_list x⟩
    · exact absurd rfl h3)
  rw [List.length_map] at h2
  have h3 : ks.length * 2040 ≤ 20 * 2040 := Nat.mul_le_mul_right _ (by omega)
  have h4 : half 400 = 199 := by simp [half]
  rw [h4]
  omega
/-- The first ones that begin with p. -/
structure Firsts (p : ByteArray) (l : List ByteArray) (D : List ByteArray) : Prop where
  nd : D.Nodup
  mem : ∀ x, x ∈ D ↔ x ∈ l ∧ prefL p.data.toList x.data.toList = true
theorem firsts_nil (p : ByteArray) : Firsts p [] [] := ⟨List.nodup_nil, fun x => by simp⟩
theorem Firsts.yes {p y : ByteArray} {l D : List ByteArray} (h : Firsts p l D) (h1 : prefL p.data.toList y.data.toList = true) (h2 : y ∉ l) : Firsts p (l ++ [y]) (D ++ [y]) :=
  ⟨List.nodup_append.2 ⟨h.nd, by simp, fun a ha b hb => by
    have e := List.mem_singleton.1 hb
    subst e
    exact fun e => h2 (e ▸ ((h.mem a).1 ha).1)⟩, fun x => by
    by_cases e : x = y
    · subst e; simp [h1]
    · simp [h.mem x, e]⟩
theorem Firsts.no {p y : ByteArray} {l D : List ByteArray} (h : Firsts p l D) (h1 : prefL p.data.toList y.data.toList = false ∨ y ∈ l) : Firsts p (l ++ [y]) D :=
  ⟨h.nd, fun x => by
    by_cases e : x = y
    · subst e
      rw [h.mem x]
      rcases h1 with h1 | h1
      · simp [h1]
      · simp [h1]
    · simp [h.mem x, e]⟩
theorem firsts_keys {p : ByteArray} {l D : List ByteArray} {ks : List (List UInt8)} (h : Firsts p l D) (hk : KeysPre (preF l) p.data.toList ks) : ks.length = D.length := by
  have hn : (D.map fun x => x.data.toList).Nodup := List.pairwise_map.2 (h.nd.imp fun {a b} hne e => hne (by cases a; cases b; congr; exact Array.toList_inj.1 e))
  have hp : ks.Perm (D.map fun x => x.data.toList) := (List.perm_ext_iff_of_nodup (keysPre_nodup hk) hn).2 fun x => by
    rw [hk.2 x, List.mem_map]
    constructor
    · rintro ⟨h1, h2⟩
      unfold preF at h1
      split at h1
      · rename_i hm
        exact ⟨strV x, (h.mem _).2 ⟨hm, by rw [strV_list]; exact h2⟩, strV_list x⟩
      · exact absurd rfl h1
    · rintro ⟨y, hy, rfl⟩
      obtain ⟨h1, h2⟩ := (h.mem y).1 hy
      refine ⟨?_, h2⟩
      show preF l (strV y.data.toList) ≠ none
      rw [strV_bytes]
      unfold preF
      rw [if_pos h1]
      simp
  have := hp.length_eq
  rwa [List.length_map] at this
theorem take_snoc' (l : List ByteArray) {i : Nat} (h : i < l.length) : l.take (i + 1) = l.take i ++ [l[i]] := List.take_succ_eq_append_getElem h
/-- The store of the first i keys. -/
structure PrefL (B gs : Nat) (W : World) (l : List ByteArray) (i : Nat) (S : SR) (w : World) : Prop where
  lw : Lw B 400 512 S w
  hF : S.F = preF (l.take i)
  hgs : S.gs = gs
  hN : S.N ≤ i
  ser : S.l.serial ≤ 2 * i
  sm : ∀ x ∈ l.take i, x.size ≤ 30
  bel : Below B W w
theorem bytes_ne {a b : ByteArray} (h : a ≠ b) : (a.toList == b.toList) = false := by
  rw [bytes_toList, bytes_toList, beq_eq_false_iff_ne]
  exact fun e => h (by cases a; cases b; congr; exact Array.toList_inj.1 e)
theorem prefL_split (p y : ByteArray) : (p.size ≤ y.size ∧ ((y.extract 0 p.size).toList == p.toList) = prefL p.data.toList y.data.toList) ∨ (¬ p.size ≤ y.size ∧ prefL p.data.toList y.data.toList = false) := by
  have hz : y.data.toList.length = y.size ∧ p.data.toList.length = p.size := ⟨rfl, rfl⟩
  by_cases h : p.size ≤ y.size
  · refine .inl ⟨h, ?_⟩
    rw [prefL_extract]
    unfold prefL
    rw [decide_eq_true (show p.data.toList.length ≤ y.data.toList.length by omega)]
    rfl
  · refine .inr ⟨h, ?_⟩
    unfold prefL
    rw [decide_eq_false (show ¬ p.data.toList.length ≤ y.data.toList.length by omega)]
    rfl
set_option maxRecDepth 100000 in
set_option maxHeartbeats 16000000 in
theorem prefix_walk (W : World) (v0 v1 : Value) (o0 : ArgOk 43 W v0) (o1 : ArgOk 9 W v1) : Calls Tryz.prog 5 #[v0, v1] W fun e W' => e = .returned (.bool true) ∧ Below W.heap.size W W' := by
  obtain ⟨A, n, c, l, rfl, hl, hnc, hcm, hls, hr⟩ := o0.texts
  obtain ⟨p, rfl, hp⟩ := o1.text1
  unfold maxLen at hcm hp hls
  replace hl := Lib.hid hl
  replace hr := Lib.hid hr
  replace hls := Lib.hid hls
  go_enter Tryz.func5, Tryz.ntmps5
  go_wp2_with fail
  refine (known5_any W).mono ?_
  rintro e w1 ⟨rfl, hb1⟩
  have hB1 := Lib.hid hb1
  clear hb1
  by_cases h20 : 20 < n
  · have h20i : (20 : Int) < (n : Int) := by omega
    go_wp2_with fail
    go_ret
    exact ⟨rfl, hB1.out⟩
  have h20i : ¬ (20 : Int) < (n : Int) := by omega
  by_cases hp20 : 20 < p.size
  · have hp20i : (20 : Int) < (p.size : Int) := by omega
    go_wp2_with fail
    go_ret
    exact ⟨rfl, hB1.out⟩
  have hp20i : ¬ (20 : Int) < (p.size : Int) := by omega
  go_wp2_with fail
  refine (newd_any w1 400 512 (by omega) (by omega) (by omega) (by omega)).mono ?_
  rintro e w2 ⟨q, rfl, hq, -, hb2, hlow⟩
  replace hq := Lib.hid hq
  have hqh : Hid (Hi W.heap.size q) := Lib.hid (fun x hx => Nat.le_trans hB1.out.size (hlow x hx))
  have hB2 := Lib.hid (hB1.out.trans (hb2.mono hB1.out.size))
  clear hlow hb2 hB1
  go_wp2_with fail
  refine (opennew5 (n := 400) (s := 512) (by omega) (by omega) hq.out).mono ?_
  rintro e w4 ⟨S, rfl, hO⟩
  obtain ⟨hb4, hl4⟩ := hO.low hB2.out.size hqh.out
  obtain ⟨gs, hgse⟩ : ∃ x, x = S.gs := ⟨_, rfl⟩
  have hP4 : Hid (PrefL W.heap.size gs W l 0 S w4) := Lib.hid ⟨⟨hO.live, hl4, hO.cut⟩, by rw [hO.hF, List.take_zero, preF_nil], hgse.symm, by rw [hO.hN]; simp, by rw [hO.ser]; simp [zeroH], by simp, hB2.out.trans hb4⟩
  rw [← hgse]
  clear hO hb4 hl4 hB2 hq hqh hgse
  go_wp2_with fail
  go_loopw [7] (fun iv wr => ∃ (i : Nat) (S : SR), i ≤ n ∧ iv = .int .i64 i ∧ Hid (PrefL W.heap.size gs W l i S wr)) (fun iv _ => n - (intOf iv).toNat)
  case atStart => exact ⟨0, S, by omega, rfl, hP4⟩
  clear hP4
  obtain ⟨i, S, hi, rfl, hP⟩ := hrel
  rename World => wo
  by_cases hin : i < n
  · have hil : i < l.length := by rw [hl.out]; exact hin
    have hii : (i : Int) < (n : Int) := by omega
    have hiw : IntKind.i64.wrap ((i : Int) + 1) = ((i + 1 : Nat) : Int) := by rw [IntWalk.i64_in _ (by omega)]; omega
    obtain ⟨b, off, rfl, _, hcell⟩ := (hr.out.below hP.out.bel).at_ (k := i) (by simpa using hil)
    rw [List.getElem_map] at hcell
    have hst := Lib.hid (take_snoc' l hil)
    have hyz := hls.out l[i] (List.getElem_mem hil)
    generalize l[i] = y at *
    by_cases h30 : 30 < y.size
    · have h30i : (30 : Int) < (y.size : Int) := by omega
      go_wp2_with fail
      go_ret
      exact ⟨rfl, hP.out.bel⟩
    have h30i : ¬ (30 : Int) < (y.size : Int) := by omega
    have hb3 := below_new wo (.cells #[.string y, .string ⟨#[]⟩, .bool false] 41)
    have hh3 := Holds.new wo 41 #[.string y, .string ⟨#[]⟩, .bool false]
    obtain ⟨w3, hw3⟩ : ∃ x, x = wo.alloc (.cells #[.string y, .string ⟨#[]⟩, .bool false] 41) := ⟨_, rfl⟩
    obtain ⟨g3, hg3⟩ : ∃ x, x = wo.heap.size := ⟨_, rfl⟩
    rw [← hw3] at hb3 hh3
    rw [← hg3] at hh3
    have hL3 := Lib.hid (hP.out.lw.below hb3)
    have hB3 := Lib.hid (hP.out.bel.trans (hb3.mono hP.out.bel.size))
    have hr3 : Hid (Row w3 w3.heap.size (some ⟨g3, 0, none⟩) ([(⟨y, ⟨#[]⟩, false⟩ : PairR)].flatMap PairR.cells)) := Lib.hid (Row.ofHolds hh3 hh3.lt)
    have hsm : Hid (∀ x ∈ l.take (i + 1), x.size ≤ 30) := Lib.hid (fun x hx => by
      rw [hst.out, List.mem_append, List.mem_singleton] at hx
      rcases hx with hx | rfl
      · exact hP.out.sm x hx
      · omega)
    have hFn : Hid ([(⟨y, ⟨#[]⟩, false⟩ : PairR)].foldl chg S.F = preF (l.take (i + 1))) := Lib.hid (by rw [hP.out.hF, hst.out, ← preF_snoc]; rfl)
    have hps : Hid (PairR.sm ⟨y, ⟨#[]⟩, false⟩) := Lib.hid ⟨by show y.size ≤ _; omega, by show (0 : Nat) ≤ _; omega⟩
    clear hb3 hh3
    go_wp2_with fail
    rw [← hw3, ← hg3]
    clear hw3 hg3 hcell
    have hap := apply_any (n := 400) (s := 512) (by omega) (by omega) w3 S hL3.out.live (by have := hP.out.ser; omega) (some ⟨g3, 0, none⟩) 1 1 [(⟨y, ⟨#[]⟩, false⟩ : PairR)] rfl hr3.out (fun p hp => by rw [List.mem_singleton.1 hp]; exact hps.out) (by have := hP.out.hN; omega) (by rw [hP.out.hF]; exact preF_sm hP.out.sm) (by rw [hFn.out]; exact preF_fit hsm.out (by rw [List.length_take]; have := hl.out; omega))
    rw [hP.out.hgs, hFn.out] at hap
    refine hap.mono ?_
    clear hap
    rintro e w6 hA
    unfold ApplyE at hA
    rcases hA with ⟨S2, rfl, hU, hgs2, hmb, hqg, hF2, hN2, hser, hcut⟩ | ⟨S2, hcut, _⟩
    case inr => rw [hL3.out.cut] at hcut; cases hcut
    obtain ⟨hb6, hl6⟩ := hU.low hB3.out.size hL3.out.low
    have hP6 : Hid (PrefL W.heap.size gs W l (i + 1) S2 w6) := Lib.hid ⟨⟨hU.post, hl6, hcut hL3.out.cut⟩, hF2, hgs2.trans hP.out.hgs, by have := hP.out.hN; omega, by have := hP.out.ser; omega, hsm.out, hB3.out.trans hb6⟩
    clear hU hgs2 hmb hqg hF2 hN2 hser hcut hb6 hl6 hP hL3 hB3 hr3 hsm hFn hps hst
    go_wp2_with fail
    exact ⟨⟨i + 1, S2, by omega, by simp, hP6⟩, by simp [intOf]; omega⟩
  · obtain rfl : n = i := by omega
    have hii : ¬ (n : Int) < (n : Int) := by omega
    have htk : l.take n = l := List.take_of_length_le (by rw [hl.out]; exact Nat.le_refl _)
    have hfr : Hid (Front gs S.l.g S.mb S.N (preF l) false wo) := Lib.hid (by
      have := hP.out.lw.live.fr
      unfold SR.front at this
      rw [hP.out.hgs, hP.out.hF, htk] at this
      exact this)
    have hsm : Hid (∀ x ∈ l, x.size ≤ 30) := Lib.hid (by have := hP.out.sm; rw [htk] at this; exact this)
    have hN : Hid (S.N ≤ 100000) := Lib.hid (by have := hP.out.hN; omega)
    have hB := Lib.hid hP.out.bel
    clear hP htk
    go_wp2_with fail
    refine (stkeys_any wo hfr.out hN.out (preF_sm hsm.out).ok p).mono ?_
    rintro e w5 ⟨⟨v, ks, rfl, hks, hkl, hO⟩, hb5⟩
    obtain ⟨KA, kc, rfl, hkr, _, _⟩ := own_row hO
    obtain ⟨nk, hnk⟩ : ∃ x, x = ks.length := ⟨_, rfl⟩
    have hkN : nk ≤ 100000 := by have := hN.out; omega
    rw [← hnk]
    have hnk' := Lib.hid hnk
    have hB5 := Lib.hid (hB.out.trans (hb5.mono hB.out.size))
    have hfr5 := Lib.hid (hfr.out.below hb5)
    replace hks := Lib.hid hks
    replace hkr := Lib.hid hkr
    clear hb5 hnk hkl hO hB hfr
    go_wp2_with fail
    go_loopw [9] (fun iv wr => ∃ t : Nat, t ≤ nk ∧ iv = .int .i64 t ∧ Hid (Below w5.heap.size w5 wr)) (fun iv _ => nk - (intOf iv).toNat)
    case atStart => exact ⟨0, by omega, rfl, Lib.hid (Below.refl _ _)⟩
    obtain ⟨t, ht, rfl, hBx⟩ := hrel
    by_cases htn : t < nk
    · have htl : t < ks.length := by rw [← hnk'.out]; exact htn
      obtain ⟨kb, ko, rfl, hkb, q1⟩ := (hkr.out.below hBx.out).at_ (k := t) (by simpa using htl)
      rw [List.getElem_map] at q1
      have hmem := (hks.out.2 ks[t]).1 (List.getElem_mem htl)
      have hXs : Hid (prefL p.data.toList (strV ks[t]).data.toList = true) := Lib.hid (by rw [strV_list]; exact hmem.2)
      have hX : Hid (kb < wr.heap.size ∧ wr.cell? ⟨kb, ko + t, none⟩ = some (.string (strV ks[t]))) := Lib.hid ⟨Nat.lt_of_lt_of_le hkb hBx.out.size, q1⟩
      have hXp : Hid (p.size ≤ (strV ks[t]).size) := Lib.hid (by
        rcases prefL_split p (strV ks[t]) with ⟨h, _⟩ | ⟨_, h⟩
        · exact h
        · rw [hXs.out] at h; cases h)
      have hXe : Hid ((((strV ks[t]).extract 0 p.size).toList == p.toList) = true) := Lib.hid (by
        rcases prefL_split p (strV ks[t]) with ⟨_, h⟩ | ⟨_, h⟩
        · rw [h]; exact hXs.out
        · rw [hXs.out] at h; cases h)
      clear hmem hXs q1
      have htw : IntKind.i64.wrap ((t : Int) + 1) = ((t + 1 : Nat) : Int) := by rw [IntWalk.i64_in _ (by omega)]; omega
      cases t with
      | zero =>
        rw [Nat.add_zero] at hX
        generalize strV ks[0] = X at *
        have hik : Hid ((0 : Int) < (nk : Int) ∧ 0 < nk) := Lib.hid ⟨by omega, htn⟩
        obtain ⟨wb, hwb⟩ : ∃ x, x = wr := ⟨_, rfl⟩
        rw [← hwb] at hX hBx ⊢
        clear hwb
        have h0i : ((0 : Nat) : Int) < (nk : Int) := by omega
        go_wp2_with fail
        -- THE REGION THAT DRAWS ITS ORDER, BY ONE LEXICAL WALK OVER GENERIC VALUES (written by relgen.py)
        refine wp_region_tab ((fun _ v => v = .slice (some ⟨kb, ko, none⟩) nk kc) ::
          (fun _ v => v = .int .i64 0) ::
          (fun _ v => v = .pointer (some ⟨kb, ko, none⟩)) ::
          (fun _ v => v = .string X) ::
          (fun _ v => v = .int .i64 X.size) ::
          (fun _ v => v = .string p) ::
          (fun _ v => v = .int .i64 p.size) ::
          (fun _ v => v = .bool false) ::
          (fun _ v => v = .bool false) ::
          (fun _ v => v = .slice (some ⟨kb, ko, none⟩) nk kc) ::
          (fun _ v => v = .int .i64 0) ::
          (fun _ v => v = .pointer (some ⟨kb, ko, none⟩)) ::
          (fun _ v => v = .string X) ::
          (fun _ v => v = .string p) ::
          (fun _ v => v = .int .i64 p.size) ::
          (fun _ v => v = .string (X.extract 0 p.size)) ::
          (fun _ v => v = .string p) ::
          (fun _ v => v = .bool false) ::
          (fun _ v => v = .bool false) ::
          (fun _ v => v = .bool false) ::
          (fun _ v => v = .int .i64 0) ::
          (fun _ v => v = .bool false) ::
          (fun _ v => v = .bool false) ::
          (fun _ _ => True) ::
          (fun _ _ => True) ::
          (fun _ _ => True) ::
          (fun _ _ => True) ::
          (fun _ _ => True) ::
          (fun _ _ => True) ::
          (fun _ _ => True) ::
          (fun _ _ => True) ::
          (fun _ _ => True) ::
          (fun _ _ => True) ::
          (fun _ v => v = .bool false) ::
          (fun _ v => v = .bool false) :: [])
          (⟨[(8, none)], 0, []⟩ :: ⟨[(9, none)], 0, []⟩ :: ⟨[(63, some 0), (64, some 1)], 0, []⟩ :: ⟨[(65, some 2)], 0, []⟩ :: ⟨[(66, some 3)], 0, []⟩ :: ⟨[(1, none)], 0, []⟩ :: ⟨[(68, some 5)], 0, []⟩ :: ⟨[(67, some 4), (69, some 6)], 0, []⟩ :: ⟨[(70, some 7)], 0, []⟩ :: ⟨[(8, none), (71, some 8)], 71, []⟩ :: ⟨[(9, none), (71, some 8)], 71, []⟩ :: ⟨[(72, some 9), (73, some 10), (71, some 8)], 71, []⟩ :: ⟨[(74, some 11), (71, some 8)], 71, []⟩ :: ⟨[(1, none), (71, some 8)], 71, []⟩ :: ⟨[(76, some 13), (71, some 8)], 71, []⟩ :: ⟨[(75, some 12), (77, some 14), (71, some 8)], 71, []⟩ :: ⟨[(1, none), (71, some 8)], 71, []⟩ :: ⟨[(78, some 15), (79, some 16), (71, some 8)], 71, []⟩ :: ⟨[(71, some 8), (80, some 17)], 0, []⟩ :: ⟨[(81, some 18)], 0, []⟩ :: ⟨[(9, none), (82, some 19)], 82, []⟩ :: ⟨[(83, some 20), (82, some 19)], 82, []⟩ :: ⟨[(84, some 21), (82, some 19)], 82, []⟩ :: ⟨[(8, none), (85, some 22)], 85, []⟩ :: ⟨[(9, none), (85, some 22)], 85, []⟩ :: ⟨[(87, some 24), (85, some 22)], 85, []⟩ :: ⟨[(86, some 23), (88, some 25), (85, some 22)], 85, []⟩ :: ⟨[(89, some 26), (85, some 22)], 85, []⟩ :: ⟨[(8, none), (85, some 22)], 85, []⟩ :: ⟨[(9, none), (85, some 22)], 85, []⟩ :: ⟨[(91, some 28), (92, some 29), (85, some 22)], 85, []⟩ :: ⟨[(93, some 30), (85, some 22)], 85, []⟩ :: ⟨[(90, some 27), (94, some 31), (85, some 22)], 85, []⟩ :: ⟨[(85, some 22), (95, some 32), (82, some 19)], 82, []⟩ :: ⟨[(82, some 19), (96, some 33)], 0, []⟩ :: [])
          (none :: none :: none :: none :: none :: none :: none :: none :: none :: none :: none :: none :: none :: none :: none :: none :: none :: none :: none :: none :: none :: none :: none :: none :: none :: none :: none :: none :: none :: none :: none :: none :: none :: none :: none :: none :: none :: none :: none :: none :: none :: none :: none :: none :: none :: none :: none :: none :: none :: none :: none :: none :: none :: none :: none :: none :: none :: none :: none :: none :: none :: none :: none :: some 0 :: some 1 :: some 2 :: some 3 :: some 4 :: some 5 :: some 6 :: some 7 :: some 8 :: some 9 :: some 10 :: some 11 :: some 12 :: some 13 :: some 14 :: some 15 :: some 16 :: some 17 :: some 18 :: some 19 :: some 20 :: some 21 :: some 22 :: some 23 :: some 24 :: some 25 :: some 26 :: some 27 :: some 28 :: some 29 :: some 30 :: some 31 :: some 32 :: some 33 :: some 34 :: [])
          (fun _ w' => Below wb.heap.size wb w') (fun _ w w' => Below w.heap.size w w') ?mixK19prefix19z ?okK19prefix19z ?tabK19prefix19z ?frK19prefix19z ?inK19prefix19z ?keptK19prefix19z ?startK19prefix19z ?eachK19prefix19z ?finK19prefix19z
        case mixK19prefix19z => kernel_rfl
        case okK19prefix19z => kernel_rfl
        case tabK19prefix19z => kernel_rfl
        case frK19prefix19z => kernel_rfl
        case inK19prefix19z => rfl
        case keptK19prefix19z => exact ⟨fun _ _ _ _ _ _ _ h => h, fun _ _ _ _ _ _ _ h => h, fun _ _ _ _ _ _ _ h => h, fun _ _ _ _ _ _ _ h => h, fun _ _ _ _ _ _ _ h => h, fun _ _ _ _ _ _ _ h => h, fun _ _ _ _ _ _ _ h => h, fun _ _ _ _ _ _ _ h => h, fun _ _ _ _ _ _ _ h => h, fun _ _ _ _ _ _ _ h => h, fun _ _ _ _ _ _ _ h => h, fun _ _ _ _ _ _ _ h => h, fun _ _ _ _ _ _ _ h => h, fun _ _ _ _ _ _ _ h => h, fun _ _ _ _ _ _ _ h => h, fun _ _ _ _ _ _ _ h => h, fun _ _ _ _ _ _ _ h => h, fun _ _ _ _ _ _ _ h => h, fun _ _ _ _ _ _ _ h => h, fun _ _ _ _ _ _ _ h => h, fun _ _ _ _ _ _ _ h => h, fun _ _ _ _ _ _ _ h => h, fun _ _ _ _ _ _ _ h => h, fun _ _ _ => fun _ _ _ _ h => h, fun _ _ _ => fun _ _ _ _ h => h, fun _ _ _ => fun _ _ _ _ h => h, fun _ _ _ => fun _ _ _ _ h => h, fun _ _ _ => fun _ _ _ _ h => h, fun _ _ _ => fun _ _ _ _ h => h, fun _ _ _ => fun _ _ _ _ h => h, fun _ _ _ => fun _ _ _ _ h => h, fun _ _ _ => fun _ _ _ _ h => h, fun _ _ _ => fun _ _ _ _ h => h, fun _ _ _ _ _ _ _ h => h, fun _ _ _ _ _ _ _ h => h, trivial⟩
        case startK19prefix19z => exact (Below.refl _ _).drew
        case eachK19prefix19z =>
          refine ⟨?_, ?_, ?_, ?_, ?_, ?_, ?_, ?_, ?_, ?_, ?_, ?_, ?_, ?_, ?_, ?_, ?_, ?_, ?_, ?_, ?_, ?_, ?_, ?_, ?_, ?_, ?_, ?_, ?_, ?_, ?_, ?_, ?_, ?_, ?_, trivial⟩
          -- 0: slot 63 := move t8
          · intro w L f hC hLi hLd hLn hF
            obtain ⟨d8, _⟩ := hF
            have d8 : f 8 = .slice (some ⟨kb, ko, none⟩) nk kc := d8
            refine Step2.live rfl ?_
            exact relUpon_value (v := f 8) rfl (hC) (Below.refl _ _) d8
          -- 1: slot 64 := move t9
          · intro w L f hC hLi hLd hLn hF
            obtain ⟨d9, _⟩ := hF
            have d9 : f 9 = .int .i64 0 := d9
            refine Step2.live rfl ?_
            exact relUpon_value (v := f 9) rfl (hC) (Below.refl _ _) d9
          -- 2: slot 65 := indexAddr 43 t63 t64
          · intro w L f hC hLi hLd hLn hF
            obtain ⟨d63, d64, _⟩ := hF
            have d63 : f 63 = .slice (some ⟨kb, ko, none⟩) nk kc := d63
            have d64 : f 64 = .int .i64 0 := d64
            refine Step2.live rfl ?_
            have h1 := hik.out
            have ev : ∀ t, evalOf f (.tmp t) = f t := fun _ => rfl
            have ec : ∀ c, evalOf f (.const c) = c := fun _ => rfl
            have ef : ∀ g, evalOf f (.func g) = .func (.func g) #[] #[] := fun _ => rfl
            refine relUpon_value ?_ hC (Below.refl _ _) rfl
            go_simp
          -- 3: slot 66 := load 9 t65
          · intro w L f hC hLi hLd hLn hF
            obtain ⟨d65, _⟩ := hF
            have d65 : f 65 = .pointer (some ⟨kb, ko, none⟩) := d65
            refine Step2.live rfl ?_
            have f0 := (hC.cell (p := ⟨kb, _, none⟩) hX.out.1).trans hX.out.2
            have ev : ∀ t, evalOf f (.tmp t) = f t := fun _ => rfl
            have ec : ∀ c, evalOf f (.const c) = c := fun _ => rfl
            have ef : ∀ g, evalOf f (.func g) = .func (.func g) #[] #[] := fun _ => rfl
            refine relUpon_value ?_ hC (Below.refl _ _) rfl
            go_simp
          -- 4: slot 67 := call { builtin len, args := #[t66], argTypes := #[9] }
          · intro w L f hC hLi hLd hLn hF
            obtain ⟨d66, _⟩ := hF
            have d66 : f 66 = .string X := d66
            refine Step2.live rfl ?_
            have ev : ∀ t, evalOf f (.tmp t) = f t := fun _ => rfl
            have ec : ∀ c, evalOf f (.const c) = c := fun _ => rfl
            have ef : ∀ g, evalOf f (.func g) = .func (.func g) #[] #[] := fun _ => rfl
            refine relUpon_value ?_ hC (Below.refl _ _) rfl
            go_simp
          -- 5: slot 68 := move t1
          · intro w L f hC hLi hLd hLn hF
            obtain ⟨d1, _⟩ := hF
            have d1 : f 1 = .string p := d1
            refine Step2.live rfl ?_
            exact relUpon_value (v := f 1) rfl (hC) (Below.refl _ _) d1
          -- 6: slot 69 := call { builtin len, args := #[t68], argTypes := #[9] }
          · intro w L f hC hLi hLd hLn hF
            obtain ⟨d68, _⟩ := hF
            have d68 : f 68 = .string p := d68
            refine Step2.live rfl ?_
            have ev : ∀ t, evalOf f (.tmp t) = f t := fun _ => rfl
            have ec : ∀ c, evalOf f (.const c) = c := fun _ => rfl
            have ef : ∀ g, evalOf f (.func g) = .func (.func g) #[] #[] := fun _ => rfl
            refine relUpon_value ?_ hC (Below.refl _ _) rfl
            go_simp
          -- 7: slot 70 := binOp BinOp.lss 3 t67 t69 3
          · intro w L f hC hLi hLd hLn hF
            obtain ⟨d67, d69, _⟩ := hF
            have d67 : f 67 = .int .i64 X.size := d67
            have d69 : f 69 = .int .i64 p.size := d69
            refine Step2.live rfl ?_
            have h1 := hXp.out
            have ev : ∀ t, evalOf f (.tmp t) = f t := fun _ => rfl
            have ec : ∀ c, evalOf f (.const c) = c := fun _ => rfl
            have ef : ∀ g, evalOf f (.func g) = .func (.func g) #[] #[] := fun _ => rfl
            refine relUpon_value ?_ hC (Below.refl _ _) rfl
            go_simp
          -- 8: slot 71 := move t70
          · intro w L f hC hLi hLd hLn hF
            obtain ⟨d70, _⟩ := hF
            have d70 : f 70 = .bool false := d70
            refine Step2.live rfl ?_
            exact relUpon_value (v := f 70) rfl (hC) (Below.refl _ _) d70
          -- 9: slot 72 := move t8
          · intro w L f hC hLi hLd hLn hF
            obtain ⟨d8, d71, _⟩ := hF
            have d8 : f 8 = .slice (some ⟨kb, ko, none⟩) nk kc := d8
            have d71 : f 71 = .bool false := d71
            refine Step2.live (show wantedBy _ (f 71) = true by rw [d71]; rfl) ?_
            exact relUpon_value (v := f 8) rfl (hC) (Below.refl _ _) d8
          -- 10: slot 73 := move t9
          · intro w L f hC hLi hLd hLn hF
            obtain ⟨d9, d71, _⟩ := hF
            have d9 : f 9 = .int .i64 0 := d9
            have d71 : f 71 = .bool false := d71
            refine Step2.live (show wantedBy _ (f 71) = true by rw [d71]; rfl) ?_
            exact relUpon_value (v := f 9) rfl (hC) (Below.refl _ _) d9
          -- 11: slot 74 := indexAddr 43 t72 t73
          · intro w L f hC hLi hLd hLn hF
            obtain ⟨d72, d73, d71, _⟩ := hF
            have d72 : f 72 = .slice (some ⟨kb, ko, none⟩) nk kc := d72
            have d73 : f 73 = .int .i64 0 := d73
            have d71 : f 71 = .bool false := d71
            refine Step2.live (show wantedBy _ (f 71) = true by rw [d71]; rfl) ?_
            have h1 := hik.out
            have ev : ∀ t, evalOf f (.tmp t) = f t := fun _ => rfl
            have ec : ∀ c, evalOf f (.const c) = c := fun _ => rfl
            have ef : ∀ g, evalOf f (.func g) = .func (.func g) #[] #[] := fun _ => rfl
            refine relUpon_value ?_ hC (Below.refl _ _) rfl
            go_simp
          -- 12: slot 75 := load 9 t74
          · intro w L f hC hLi hLd hLn hF
            obtain ⟨d74, d71, _⟩ := hF
            have d74 : f 74 = .pointer (some ⟨kb, ko, none⟩) := d74
            have d71 : f 71 = .bool false := d71
            refine Step2.live (show wantedBy _ (f 71) = true by rw [d71]; rfl) ?_
            have f0 := (hC.cell (p := ⟨kb, _, none⟩) hX.out.1).trans hX.out.2
            have ev : ∀ t, evalOf f (.tmp t) = f t := fun _ => rfl
            have ec : ∀ c, evalOf f (.const c) = c := fun _ => rfl
            have ef : ∀ g, evalOf f (.func g) = .func (.func g) #[] #[] := fun _ => rfl
            refine relUpon_value ?_ hC (Below.refl _ _) rfl
            go_simp
          -- 13: slot 76 := move t1
          · intro w L f hC hLi hLd hLn hF
            obtain ⟨d1, d71, _⟩ := hF
            have d1 : f 1 = .string p := d1
            have d71 : f 71 = .bool false := d71
            refine Step2.live (show wantedBy _ (f 71) = true by rw [d71]; rfl) ?_
            exact relUpon_value (v := f 1) rfl (hC) (Below.refl _ _) d1
          -- 14: slot 77 := call { builtin len, args := #[t76], argTypes := #[9] }
          · intro w L f hC hLi hLd hLn hF
            obtain ⟨d76, d71, _⟩ := hF
            have d76 : f 76 = .string p := d76
            have d71 : f 71 = .bool false := d71
            refine Step2.live (show wantedBy _ (f 71) = true by rw [d71]; rfl) ?_
            have ev : ∀ t, evalOf f (.tmp t) = f t := fun _ => rfl
            have ec : ∀ c, evalOf f (.const c) = c := fun _ => rfl
            have ef : ∀ g, evalOf f (.func g) = .func (.func g) #[] #[] := fun _ => rfl
            refine relUpon_value ?_ hC (Below.refl _ _) rfl
            go_simp
          -- 15: slot 78 := slice 9 t75 none (some t77) none
          · intro w L f hC hLi hLd hLn hF
            obtain ⟨d75, d77, d71, _⟩ := hF
            have d75 : f 75 = .string X := d75
            have d77 : f 77 = .int .i64 p.size := d77
            have d71 : f 71 = .bool false := d71
            refine Step2.live (show wantedBy _ (f 71) = true by rw [d71]; rfl) ?_
            have h1 := hXp.out
            have ev : ∀ t, evalOf f (.tmp t) = f t := fun _ => rfl
            have ec : ∀ c, evalOf f (.const c) = c := fun _ => rfl
            have ef : ∀ g, evalOf f (.func g) = .func (.func g) #[] #[] := fun _ => rfl
            refine relUpon_value ?_ hC (Below.refl _ _) rfl
            go_simp
          -- 16: slot 79 := move t1
          · intro w L f hC hLi hLd hLn hF
            obtain ⟨d1, d71, _⟩ := hF
            have d1 : f 1 = .string p := d1
            have d71 : f 71 = .bool false := d71
            refine Step2.live (show wantedBy _ (f 71) = true by rw [d71]; rfl) ?_
            exact relUpon_value (v := f 1) rfl (hC) (Below.refl _ _) d1
          -- 17: slot 80 := binOp BinOp.neq 9 t78 t79 9
          · intro w L f hC hLi hLd hLn hF
            obtain ⟨d78, d79, d71, _⟩ := hF
            have d78 : f 78 = .string (X.extract 0 p.size) := d78
            have d79 : f 79 = .string p := d79
            have d71 : f 71 = .bool false := d71
            refine Step2.live (show wantedBy _ (f 71) = true by rw [d71]; rfl) ?_
            have h1 := hXe.out
            have ev : ∀ t, evalOf f (.tmp t) = f t := fun _ => rfl
            have ec : ∀ c, evalOf f (.const c) = c := fun _ => rfl
            have ef : ∀ g, evalOf f (.func g) = .func (.func g) #[] #[] := fun _ => rfl
            refine relUpon_value ?_ hC (Below.refl _ _) rfl
            go_simp
          -- 18: slot 81 := pick t71 (const (Value.bool true)) t80
          · intro w L f hC hLi hLd hLn hF
            obtain ⟨d71, d80, _⟩ := hF
            have d71 : f 71 = .bool false := d71
            have d80 : f 80 = .bool false := d80
            refine Step2.live rfl ?_
            have ev : ∀ t, evalOf f (.tmp t) = f t := fun _ => rfl
            have ec : ∀ c, evalOf f (.const c) = c := fun _ => rfl
            have ef : ∀ g, evalOf f (.func g) = .func (.func g) #[] #[] := fun _ => rfl
            refine relUpon_value ?_ hC (Below.refl _ _) rfl
            go_simp
          -- 19: slot 82 := move t81
          · intro w L f hC hLi hLd hLn hF
            obtain ⟨d81, _⟩ := hF
            have d81 : f 81 = .bool false := d81
            refine Step2.live rfl ?_
            exact relUpon_value (v := f 81) rfl (hC) (Below.refl _ _) d81
          -- 20: slot 83 := move t9
          · intro w L f hC hLi hLd hLn hF
            obtain ⟨d9, d82, _⟩ := hF
            have d9 : f 9 = .int .i64 0 := d9
            have d82 : f 82 = .bool false := d82
            refine Step2.live (show wantedBy _ (f 82) = true by rw [d82]; rfl) ?_
            exact relUpon_value (v := f 9) rfl (hC) (Below.refl _ _) d9
          -- 21: slot 84 := binOp BinOp.gtr 3 t83 (const (0:i64)) 3
          · intro w L f hC hLi hLd hLn hF
            obtain ⟨d83, d82, _⟩ := hF
            have d83 : f 83 = .int .i64 0 := d83
            have d82 : f 82 = .bool false := d82
            refine Step2.live (show wantedBy _ (f 82) = true by rw [d82]; rfl) ?_
            have ev : ∀ t, evalOf f (.tmp t) = f t := fun _ => rfl
            have ec : ∀ c, evalOf f (.const c) = c := fun _ => rfl
            have ef : ∀ g, evalOf f (.func g) = .func (.func g) #[] #[] := fun _ => rfl
            refine relUpon_value ?_ hC (Below.refl _ _) rfl
            go_simp
          -- 22: slot 85 := move t84
          · intro w L f hC hLi hLd hLn hF
            obtain ⟨d84, d82, _⟩ := hF
            have d84 : f 84 = .bool false := d84
            have d82 : f 82 = .bool false := d82
            refine Step2.live (show wantedBy _ (f 82) = true by rw [d82]; rfl) ?_
            exact relUpon_value (v := f 84) rfl (hC) (Below.refl _ _) d84
          -- 23: slot 86 := move t8
          · intro w L f hC hLi hLd hLn hF
            obtain ⟨d8, d85, _⟩ := hF
            have d8 : f 8 = .slice (some ⟨kb, ko, none⟩) nk kc := d8
            have d85 : f 85 = .bool false := d85
            refine Step2.dead (show wantedBy _ (f 85) = false by rw [d85]; rfl) (hC) ?_
            trivial
          -- 24: slot 87 := move t9
          · intro w L f hC hLi hLd hLn hF
            obtain ⟨d9, d85, _⟩ := hF
            have d9 : f 9 = .int .i64 0 := d9
            have d85 : f 85 = .bool false := d85
            refine Step2.dead (show wantedBy _ (f 85) = false by rw [d85]; rfl) (hC) ?_
            trivial
          -- 25: slot 88 := binOp BinOp.sub 3 t87 (const (1:i64)) 3
          · intro w L f hC hLi hLd hLn hF
            obtain ⟨d87, d85, _⟩ := hF
            have d85 : f 85 = .bool false := d85
            refine Step2.dead (show wantedBy _ (f 85) = false by rw [d85]; rfl) (hC) ?_
            trivial
          -- 26: slot 89 := indexAddr 43 t86 t88
          · intro w L f hC hLi hLd hLn hF
            obtain ⟨d86, d88, d85, _⟩ := hF
            have d85 : f 85 = .bool false := d85
            refine Step2.dead (show wantedBy _ (f 85) = false by rw [d85]; rfl) (hC) ?_
            trivial
          -- 27: slot 90 := load 9 t89
          · intro w L f hC hLi hLd hLn hF
            obtain ⟨d89, d85, _⟩ := hF
            have d85 : f 85 = .bool false := d85
            refine Step2.dead (show wantedBy _ (f 85) = false by rw [d85]; rfl) (hC) ?_
            trivial
          -- 28: slot 91 := move t8
          · intro w L f hC hLi hLd hLn hF
            obtain ⟨d8, d85, _⟩ := hF
            have d8 : f 8 = .slice (some ⟨kb, ko, none⟩) nk kc := d8
            have d85 : f 85 = .bool false := d85
            refine Step2.dead (show wantedBy _ (f 85) = false by rw [d85]; rfl) (hC) ?_
            trivial
          -- 29: slot 92 := move t9
          · intro w L f hC hLi hLd hLn hF
            obtain ⟨d9, d85, _⟩ := hF
            have d9 : f 9 = .int .i64 0 := d9
            have d85 : f 85 = .bool false := d85
            refine Step2.dead (show wantedBy _ (f 85) = false by rw [d85]; rfl) (hC) ?_
            trivial
          -- 30: slot 93 := indexAddr 43 t91 t92
          · intro w L f hC hLi hLd hLn hF
            obtain ⟨d91, d92, d85, _⟩ := hF
            have d85 : f 85 = .bool false := d85
            refine Step2.dead (show wantedBy _ (f 85) = false by rw [d85]; rfl) (hC) ?_
            trivial
          -- 31: slot 94 := load 9 t93
          · intro w L f hC hLi hLd hLn hF
            obtain ⟨d93, d85, _⟩ := hF
            have d85 : f 85 = .bool false := d85
            refine Step2.dead (show wantedBy _ (f 85) = false by rw [d85]; rfl) (hC) ?_
            trivial
          -- 32: slot 95 := binOp BinOp.geq 9 t90 t94 9
          · intro w L f hC hLi hLd hLn hF
            obtain ⟨d90, d94, d85, _⟩ := hF
            have d85 : f 85 = .bool false := d85
            refine Step2.dead (show wantedBy _ (f 85) = false by rw [d85]; rfl) (hC) ?_
            trivial
          -- 33: slot 96 := pick t85 t95 (const (Value.bool false))
          · intro w L f hC hLi hLd hLn hF
            obtain ⟨d85, d95, d82, _⟩ := hF
            have d85 : f 85 = .bool false := d85
            have d82 : f 82 = .bool false := d82
            refine Step2.live (show wantedBy _ (f 82) = true by rw [d82]; rfl) ?_
            have ev : ∀ t, evalOf f (.tmp t) = f t := fun _ => rfl
            have ec : ∀ c, evalOf f (.const c) = c := fun _ => rfl
            have ef : ∀ g, evalOf f (.func g) = .func (.func g) #[] #[] := fun _ => rfl
            refine relUpon_value ?_ hC (Below.refl _ _) rfl
            go_simp
          -- 34: slot 97 := pick t82 (const (Value.bool true)) t96
          · intro w L f hC hLi hLd hLn hF
            obtain ⟨d82, d96, _⟩ := hF
            have d82 : f 82 = .bool false := d82
            have d96 : f 96 = .bool false := d96
            refine Step2.live rfl ?_
            have ev : ∀ t, evalOf f (.tmp t) = f t := fun _ => rfl
            have ec : ∀ c, evalOf f (.const c) = c := fun _ => rfl
            have ef : ∀ g, evalOf f (.func g) = .func (.func g) #[] #[] := fun _ => rfl
            refine relUpon_value ?_ hC (Below.refl _ _) rfl
            go_simp
        intro x w' hC hV

        have e97 := hV 34 _ rfl rfl
        clear hV
        simp only [framed]
        rw [e97]
        clear e97
        have hBy := Lib.hid (hBx.out.trans (hC.mono hBx.out.size))
        clear hC hX hBx hXp hXe hik
        go_wp2_with fail
        exact ⟨⟨1, by omega, by simp, hBy⟩, by simp [intOf]; omega⟩
      | succ i' =>
        have hjl : i' < ks.length := by omega
        have hlt := Lib.hid (List.pairwise_iff_getElem.1 hks.out.1 i' (i' + 1) hjl htl (by omega))
        obtain ⟨kb2, ko2, e2, _, q2⟩ := (hkr.out.below hBx.out).at_ (k := i') (by simpa using hjl)
        injection e2 with e2
        injection e2 with e2 e3
        subst e2 e3
        rw [List.getElem_map] at q2
        have hY : Hid (kb < wr.heap.size ∧ wr.cell? ⟨kb, ko + i', none⟩ = some (.string (strV ks[i']))) := Lib.hid ⟨hX.out.1, q2⟩
        have hbl : Hid (Op.bytesLess (strV ks[i']).toList (strV ks[i' + 1]).toList = true) := Lib.hid (by rw [bytes_toList, bytes_toList, strV_list, strV_list, Go.Proofs.bytesLess_eq]; exact decide_eq_true hlt.out)
        clear q2 hlt
        generalize strV ks[i' + 1] = X at *
        generalize strV ks[i'] = Y at *
        have hik : Hid (((i' + 1 : Nat) : Int) < (nk : Int) ∧ (i' : Int) < (nk : Int) ∧ i' < nk ∧ i' + 1 < nk) := Lib.hid ⟨by omega, by omega, by omega, htn⟩
        have hsub : Hid (IntKind.i64.wrap (i' : Int) = (i' : Int)) := Lib.hid (IntWalk.i64_in _ (by omega))
        obtain ⟨wb, hwb⟩ : ∃ x, x = wr := ⟨_, rfl⟩
        rw [← hwb] at hX hY hBx ⊢
        clear hwb
        have h0i : ((i' + 1 : Nat) : Int) < (nk : Int) := by omega
        go_wp2_with fail
        -- THE REGION THAT DRAWS ITS ORDER, BY ONE LEXICAL WALK OVER GENERIC VALUES (written by relgen.py)
        refine wp_region_tab ((fun _ v => v = .slice (some ⟨kb, ko, none⟩) nk kc) ::
          (fun _ v => v = .int .i64 ((i' + 1 : Nat) : Int)) ::
          (fun _ v => v = .pointer (some ⟨kb, ko + (i' + 1), none⟩)) ::
          (fun _ v => v = .string X) ::
          (fun _ v => v = .int .i64 X.size) ::
          (fun _ v => v = .string p) ::
          (fun _ v => v = .int .i64 p.size) ::
          (fun _ v => v = .bool false) ::
          (fun _ v => v = .bool false) ::
          (fun _ v => v = .slice (some ⟨kb, ko, none⟩) nk kc) ::
          (fun _ v => v = .int .i64 ((i' + 1 : Nat) : Int)) ::
          (fun _ v => v = .pointer (some ⟨kb, ko + (i' + 1), none⟩)) ::
          (fun _ v => v = .string X) ::
          (fun _ v => v = .string p) ::
          (fun _ v => v = .int .i64 p.size) ::
          (fun _ v => v = .string (X.extract 0 p.size)) ::
          (fun _ v => v = .string p) ::
          (fun _ v => v = .bool false) ::
          (fun _ v => v = .bool false) ::
          (fun _ v => v = .bool false) ::
          (fun _ v => v = .int .i64 ((i' + 1 : Nat) : Int)) ::
          (fun _ v => v = .bool true) ::
          (fun _ v => v = .bool true) ::
          (fun _ v => v = .slice (some ⟨kb, ko, none⟩) nk kc) ::
          (fun _ v => v = .int .i64 ((i' + 1 : Nat) : Int)) ::
          (fun _ v => v = .int .i64 i') ::
          (fun _ v => v = .pointer (some ⟨kb, ko + i', none⟩)) ::
          (fun _ v => v = .string Y) ::
          (fun _ v => v = .slice (some ⟨kb, ko, none⟩) nk kc) ::
          (fun _ v => v = .int .i64 ((i' + 1 : Nat) : Int)) ::
          (fun _ v => v = .pointer (some ⟨kb, ko + (i' + 1), none⟩)) ::
          (fun _ v => v = .string X) ::
          (fun _ v => v = .bool false) ::
          (fun _ v => v = .bool false) ::
          (fun _ v => v = .bool false) :: [])
          (⟨[(8, none)], 0, []⟩ :: ⟨[(9, none)], 0, []⟩ :: ⟨[(63, some 0), (64, some 1)], 0, []⟩ :: ⟨[(65, some 2)], 0, []⟩ :: ⟨[(66, some 3)], 0, []⟩ :: ⟨[(1, none)], 0, []⟩ :: ⟨[(68, some 5)], 0, []⟩ :: ⟨[(67, some 4), (69, some 6)], 0, []⟩ :: ⟨[(70, some 7)], 0, []⟩ :: ⟨[(8, none), (71, some 8)], 71, []⟩ :: ⟨[(9, none), (71, some 8)], 71, []⟩ :: ⟨[(72, some 9), (73, some 10), (71, some 8)], 71, []⟩ :: ⟨[(74, some 11), (71, some 8)], 71, []⟩ :: ⟨[(1, none), (71, some 8)], 71, []⟩ :: ⟨[(76, some 13), (71, some 8)], 71, []⟩ :: ⟨[(75, some 12), (77, some 14), (71, some 8)], 71, []⟩ :: ⟨[(1, none), (71, some 8)], 71, []⟩ :: ⟨[(78, some 15), (79, some 16), (71, some 8)], 71, []⟩ :: ⟨[(71, some 8), (80, some 17)], 0, []⟩ :: ⟨[(81, some 18)], 0, []⟩ :: ⟨[(9, none), (82, some 19)], 82, []⟩ :: ⟨[(83, some 20), (82, some 19)], 82, []⟩ :: ⟨[(84, some 21), (82, some 19)], 82, []⟩ :: ⟨[(8, none), (85, some 22)], 85, []⟩ :: ⟨[(9, none), (85, some 22)], 85, []⟩ :: ⟨[(87, some 24), (85, some 22)], 85, []⟩ :: ⟨[(86, some 23), (88, some 25), (85, some 22)], 85, []⟩ :: ⟨[(89, some 26), (85, some 22)], 85, []⟩ :: ⟨[(8, none), (85, some 22)], 85, []⟩ :: ⟨[(9, none), (85, some 22)], 85, []⟩ :: ⟨[(91, some 28), (92, some 29), (85, some 22)], 85, []⟩ :: ⟨[(93, some 30), (85, some 22)], 85, []⟩ :: ⟨[(90, some 27), (94, some 31), (85, some 22)], 85, []⟩ :: ⟨[(85, some 22), (95, some 32), (82, some 19)], 82, []⟩ :: ⟨[(82, some 19), (96, some 33)], 0, []⟩ :: [])
          (none :: none :: none :: none :: none :: none :: none :: none :: none :: none :: none :: none :: none :: none :: none :: none :: none :: none :: none :: none :: none :: none :: none :: none :: none :: none :: none :: none :: none :: none :: none :: none :: none :: none :: none :: none :: none :: none :: none :: none :: none :: none :: none :: none :: none :: none :: none :: none :: none :: none :: none :: none :: none :: none :: none :: none :: none :: none :: none :: none :: none :: none :: none :: some 0 :: some 1 :: some 2 :: some 3 :: some 4 :: some 5 :: some 6 :: some 7 :: some 8 :: some 9 :: some 10 :: some 11 :: some 12 :: some 13 :: some 14 :: some 15 :: some 16 :: some 17 :: some 18 :: some 19 :: some 20 :: some 21 :: some 22 :: some 23 :: some 24 :: some 25 :: some 26 :: some 27 :: some 28 :: some 29 :: some 30 :: some 31 :: some 32 :: some 33 :: some 34 :: [])
          (fun _ w' => Below wb.heap.size wb w') (fun _ w w' => Below w.heap.size w w') ?mixK19prefix19p ?okK19prefix19p ?tabK19prefix19p ?frK19prefix19p ?inK19prefix19p ?keptK19prefix19p ?startK19prefix19p ?eachK19prefix19p ?finK19prefix19p
        case mixK19prefix19p => kernel_rfl
        case okK19prefix19p => kernel_rfl
        case tabK19prefix19p => kernel_rfl
        case frK19prefix19p => kernel_rfl
        case inK19prefix19p => rfl
        case keptK19prefix19p => exact ⟨fun _ _ _ _ _ _ _ h => h, fun _ _ _ _ _ _ _ h => h, fun _ _ _ _ _ _ _ h => h, fun _ _ _ _ _ _ _ h => h, fun _ _ _ _ _ _ _ h => h, fun _ _ _ _ _ _ _ h => h, fun _ _ _ _ _ _ _ h => h, fun _ _ _ _ _ _ _ h => h, fun _ _ _ _ _ _ _ h => h, fun _ _ _ _ _ _ _ h => h, fun _ _ _ _ _ _ _ h => h, fun _ _ _ _ _ _ _ h => h, fun _ _ _ _ _ _ _ h => h, fun _ _ _ _ _ _ _ h => h, fun _ _ _ _ _ _ _ h => h, fun _ _ _ _ _ _ _ h => h, fun _ _ _ _ _ _ _ h => h, fun _ _ _ _ _ _ _ h => h, fun _ _ _ _ _ _ _ h => h, fun _ _ _ _ _ _ _ h => h, fun _ _ _ _ _ _ _ h => h, fun _ _ _ _ _ _ _ h => h, fun _ _ _ _ _ _ _ h => h, fun _ _ _ _ _ _ _ h => h, fun _ _ _ _ _ _ _ h => h, fun _ _ _ _ _ _ _ h => h, fun _ _ _ _ _ _ _ h => h, fun _ _ _ _ _ _ _ h => h, fun _ _ _ _ _ _ _ h => h, fun _ _ _ _ _ _ _ h => h, fun _ _ _ _ _ _ _ h => h, fun _ _ _ _ _ _ _ h => h, fun _ _ _ _ _ _ _ h => h, fun _ _ _ _ _ _ _ h => h, fun _ _ _ _ _ _ _ h => h, trivial⟩
        case startK19prefix19p => exact (Below.refl _ _).drew
        case eachK19prefix19p =>
          refine ⟨?_, ?_, ?_, ?_, ?_, ?_, ?_, ?_, ?_, ?_, ?_, ?_, ?_, ?_, ?_, ?_, ?_, ?_, ?_, ?_, ?_, ?_, ?_, ?_, ?_, ?_, ?_, ?_, ?_, ?_, ?_, ?_, ?_, ?_, ?_, trivial⟩
          -- 0: slot 63 := move t8
          · intro w L f hC hLi hLd hLn hF
            obtain ⟨d8, _⟩ := hF
            have d8 : f 8 = .slice (some ⟨kb, ko, none⟩) nk kc := d8
            refine Step2.live rfl ?_
            exact relUpon_value (v := f 8) rfl (hC) (Below.refl _ _) d8
          -- 1: slot 64 := move t9
          · intro w L f hC hLi hLd hLn hF
            obtain ⟨d9, _⟩ := hF
            have d9 : f 9 = .int .i64 ((i' + 1 : Nat) : Int) := d9
            refine Step2.live rfl ?_
            exact relUpon_value (v := f 9) rfl (hC) (Below.refl _ _) d9
          -- 2: slot 65 := indexAddr 43 t63 t64
          · intro w L f hC hLi hLd hLn hF
            obtain ⟨d63, d64, _⟩ := hF
            have d63 : f 63 = .slice (some ⟨kb, ko, none⟩) nk kc := d63
            have d64 : f 64 = .int .i64 ((i' + 1 : Nat) : Int) := d64
            refine Step2.live rfl ?_
            have h1 := hik.out
            have h2 : ¬ ((i' : Int) + 1 < 0) := by omega
            have ev : ∀ t, evalOf f (.tmp t) = f t := fun _ => rfl
            have ec : ∀ c, evalOf f (.const c) = c := fun _ => rfl
            have ef : ∀ g, evalOf f (.func g) = .func (.func g) #[] #[] := fun _ => rfl
            refine relUpon_value ?_ hC (Below.refl _ _) rfl
            go_simp
          -- 3: slot 66 := load 9 t65
          · intro w L f hC hLi hLd hLn hF
            obtain ⟨d65, _⟩ := hF
            have d65 : f 65 = .pointer (some ⟨kb, ko + (i' + 1), none⟩) := d65
            refine Step2.live rfl ?_
            have f0 := (hC.cell (p := ⟨kb, _, none⟩) hX.out.1).trans hX.out.2
            have ev : ∀ t, evalOf f (.tmp t) = f t := fun _ => rfl
            have ec : ∀ c, evalOf f (.const c) = c := fun _ => rfl
            have ef : ∀ g, evalOf f (.func g) = .func (.func g) #[] #[] := fun _ => rfl
            refine relUpon_value ?_ hC (Below.refl _ _) rfl
            go_simp
          -- 4: slot 67 := call { builtin len, args := #[t66], argTypes := #[9] }
          · intro w L f hC hLi hLd hLn hF
            obtain ⟨d66, _⟩ := hF
            have d66 : f 66 = .string X := d66
            refine Step2.live rfl ?_
            have ev : ∀ t, evalOf f (.tmp t) = f t := fun _ => rfl
            have ec : ∀ c, evalOf f (.const c) = c := fun _ => rfl
            have ef : ∀ g, evalOf f (.func g) = .func (.func g) #[] #[] := fun _ => rfl
            refine relUpon_value ?_ hC (Below.refl _ _) rfl
            go_simp
          -- 5: slot 68 := move t1
          · intro w L f hC hLi hLd hLn hF
            obtain ⟨d1, _⟩ := hF
            have d1 : f 1 = .string p := d1
            refine Step2.live rfl ?_
            exact relUpon_value (v := f 1) rfl (hC) (Below.refl _ _) d1
          -- 6: slot 69 := call { builtin len, args := #[t68], argTypes := #[9] }
          · intro w L f hC hLi hLd hLn hF
            obtain ⟨d68, _⟩ := hF
            have d68 : f 68 = .string p := d68
            refine Step2.live rfl ?_
            have ev : ∀ t, evalOf f (.tmp t) = f t := fun _ => rfl
            have ec : ∀ c, evalOf f (.const c) = c := fun _ => rfl
            have ef : ∀ g, evalOf f (.func g) = .func (.func g) #[] #[] := fun _ => rfl
            refine relUpon_value ?_ hC (Below.refl _ _) rfl
            go_simp
          -- 7: slot 70 := binOp BinOp.lss 3 t67 t69 3
          · intro w L f hC hLi hLd hLn hF
            obtain ⟨d67, d69, _⟩ := hF
            have d67 : f 67 = .int .i64 X.size := d67
            have d69 : f 69 = .int .i64 p.size := d69
            refine Step2.live rfl ?_
            have h1 := hXp.out
            have ev : ∀ t, evalOf f (.tmp t) = f t := fun _ => rfl
            have ec : ∀ c, evalOf f (.const c) = c := fun _ => rfl
            have ef : ∀ g, evalOf f (.func g) = .func (.func g) #[] #[] := fun _ => rfl
            refine relUpon_value ?_ hC (Below.refl _ _) rfl
            go_simp
          -- 8: slot 71 := move t70
          · intro w L f hC hLi hLd hLn hF
            obtain ⟨d70, _⟩ := hF
            have d70 : f 70 = .bool false := d70
            refine Step2.live rfl ?_
            exact relUpon_value (v := f 70) rfl (hC) (Below.refl _ _) d70
          -- 9: slot 72 := move t8
          · intro w L f hC hLi hLd hLn hF
            obtain ⟨d8, d71, _⟩ := hF
            have d8 : f 8 = .slice (some ⟨kb, ko, none⟩) nk kc := d8
            have d71 : f 71 = .bool false := d71
            refine Step2.live (show wantedBy _ (f 71) = true by rw [d71]; rfl) ?_
            exact relUpon_value (v := f 8) rfl (hC) (Below.refl _ _) d8
          -- 10: slot 73 := move t9
          · intro w L f hC hLi hLd hLn hF
            obtain ⟨d9, d71, _⟩ := hF
            have d9 : f 9 = .int .i64 ((i' + 1 : Nat) : Int) := d9
            have d71 : f 71 = .bool false := d71
            refine Step2.live (show wantedBy _ (f 71) = true by rw [d71]; rfl) ?_
            exact relUpon_value (v := f 9) rfl (hC) (Below.refl _ _) d9
          -- 11: slot 74 := indexAddr 43 t72 t73
          · intro w L f hC hLi hLd hLn hF
            obtain ⟨d72, d73, d71, _⟩ := hF
            have d72 : f 72 = .slice (some ⟨kb, ko, none⟩) nk kc := d72
            have d73 : f 73 = .int .i64 ((i' + 1 : Nat) : Int) := d73
            have d71 : f 71 = .bool false := d71
            refine Step2.live (show wantedBy _ (f 71) = true by rw [d71]; rfl) ?_
            have h1 := hik.out
            have h2 : ¬ ((i' : Int) + 1 < 0) := by omega
            have ev : ∀ t, evalOf f (.tmp t) = f t := fun _ => rfl
            have ec : ∀ c, evalOf f (.const c) = c := fun _ => rfl
            have ef : ∀ g, evalOf f (.func g) = .func (.func g) #[] #[] := fun _ => rfl
            refine relUpon_value ?_ hC (Below.refl _ _) rfl
            go_simp
          -- 12: slot 75 := load 9 t74
          · intro w L f hC hLi hLd hLn hF
            obtain ⟨d74, d71, _⟩ := hF
            have d74 : f 74 = .pointer (some ⟨kb, ko + (i' + 1), none⟩) := d74
            have d71 : f 71 = .bool false := d71
            refine Step2.live (show wantedBy _ (f 71) = true by rw [d71]; rfl) ?_
            have f0 := (hC.cell (p := ⟨kb, _, none⟩) hX.out.1).trans hX.out.2
            have ev : ∀ t, evalOf f (.tmp t) = f t := fun _ => rfl
            have ec : ∀ c, evalOf f (.const c) = c := fun _ => rfl
            have ef : ∀ g, evalOf f (.func g) = .func (.func g) #[] #[] := fun _ => rfl
            refine relUpon_value ?_ hC (Below.refl _ _) rfl
            go_simp
          -- 13: slot 76 := move t1
          · intro w L f hC hLi hLd hLn hF
            obtain ⟨d1, d71, _⟩ := hF
            have d1 : f 1 = .string p := d1
            have d71 : f 71 = .bool false := d71
            refine Step2.live (show wantedBy _ (f 71) = true by rw [d71]; rfl) ?_
            exact relUpon_value (v := f 1) rfl (hC) (Below.refl _ _) d1
          -- 14: slot 77 := call { builtin len, args := #[t76], argTypes := #[9] }
          · intro w L f hC hLi hLd hLn hF
            obtain ⟨d76, d71, _⟩ := hF
            have d76 : f 76 = .string p := d76
            have d71 : f 71 = .bool false := d71
            refine Step2.live (show wantedBy _ (f 71) = true by rw [d71]; rfl) ?_
            have ev : ∀ t, evalOf f (.tmp t) = f t := fun _ => rfl
            have ec : ∀ c, evalOf f (.const c) = c := fun _ => rfl
            have ef : ∀ g, evalOf f (.func g) = .func (.func g) #[] #[] := fun _ => rfl
            refine relUpon_value ?_ hC (Below.refl _ _) rfl
            go_simp
          -- 15: slot 78 := slice 9 t75 none (some t77) none
          · intro w L f hC hLi hLd hLn hF
            obtain ⟨d75, d77, d71, _⟩ := hF
            have d75 : f 75 = .string X := d75
            have d77 : f 77 = .int .i64 p.size := d77
            have d71 : f 71 = .bool false := d71
            refine Step2.live (show wantedBy _ (f 71) = true by rw [d71]; rfl) ?_
            have h1 := hXp.out
            have ev : ∀ t, evalOf f (.tmp t) = f t := fun _ => rfl
            have ec : ∀ c, evalOf f (.const c) = c := fun _ => rfl
            have ef : ∀ g, evalOf f (.func g) = .func (.func g) #[] #[] := fun _ => rfl
            refine relUpon_value ?_ hC (Below.refl _ _) rfl
            go_simp
          -- 16: slot 79 := move t1
          · intro w L f hC hLi hLd hLn hF
            obtain ⟨d1, d71, _⟩ := hF
            have d1 : f 1 = .string p := d1
            have d71 : f 71 = .bool false := d71
            refine Step2.live (show wantedBy _ (f 71) = true by rw [d71]; rfl) ?_
            exact relUpon_value (v := f 1) rfl (hC) (Below.refl _ _) d1
          -- 17: slot 80 := binOp BinOp.neq 9 t78 t79 9
          · intro w L f hC hLi hLd hLn hF
            obtain ⟨d78, d79, d71, _⟩ := hF
            have d78 : f 78 = .string (X.extract 0 p.size) := d78
            have d79 : f 79 = .string p := d79
            have d71 : f 71 = .bool false := d71
            refine Step2.live (show wantedBy _ (f 71) = true by rw [d71]; rfl) ?_
            have h1 := hXe.out
            have ev : ∀ t, evalOf f (.tmp t) = f t := fun _ => rfl
            have ec : ∀ c, evalOf f (.const c) = c := fun _ => rfl
            have ef : ∀ g, evalOf f (.func g) = .func (.func g) #[] #[] := fun _ => rfl
            refine relUpon_value ?_ hC (Below.refl _ _) rfl
            go_simp
          -- 18: slot 81 := pick t71 (const (Value.bool true)) t80
          · intro w L f hC hLi hLd hLn hF
            obtain ⟨d71, d80, _⟩ := hF
            have d71 : f 71 = .bool false := d71
            have d80 : f 80 = .bool false := d80
            refine Step2.live rfl ?_
            have ev : ∀ t, evalOf f (.tmp t) = f t := fun _ => rfl
            have ec : ∀ c, evalOf f (.const c) = c := fun _ => rfl
            have ef : ∀ g, evalOf f (.func g) = .func (.func g) #[] #[] := fun _ => rfl
            refine relUpon_value ?_ hC (Below.refl _ _) rfl
            go_simp
          -- 19: slot 82 := move t81
          · intro w L f hC hLi hLd hLn hF
            obtain ⟨d81, _⟩ := hF
            have d81 : f 81 = .bool false := d81
            refine Step2.live rfl ?_
            exact relUpon_value (v := f 81) rfl (hC) (Below.refl _ _) d81
          -- 20: slot 83 := move t9
          · intro w L f hC hLi hLd hLn hF
            obtain ⟨d9, d82, _⟩ := hF
            have d9 : f 9 = .int .i64 ((i' + 1 : Nat) : Int) := d9
            have d82 : f 82 = .bool false := d82
            refine Step2.live (show wantedBy _ (f 82) = true by rw [d82]; rfl) ?_
            exact relUpon_value (v := f 9) rfl (hC) (Below.refl _ _) d9
          -- 21: slot 84 := binOp BinOp.gtr 3 t83 (const (0:i64)) 3
          · intro w L f hC hLi hLd hLn hF
            obtain ⟨d83, d82, _⟩ := hF
            have d83 : f 83 = .int .i64 ((i' + 1 : Nat) : Int) := d83
            have d82 : f 82 = .bool false := d82
            refine Step2.live (show wantedBy _ (f 82) = true by rw [d82]; rfl) ?_
            have ev : ∀ t, evalOf f (.tmp t) = f t := fun _ => rfl
            have ec : ∀ c, evalOf f (.const c) = c := fun _ => rfl
            have ef : ∀ g, evalOf f (.func g) = .func (.func g) #[] #[] := fun _ => rfl
            refine relUpon_value ?_ hC (Below.refl _ _) rfl
            go_simp
          -- 22: slot 85 := move t84
          · intro w L f hC hLi hLd hLn hF
            obtain ⟨d84, d82, _⟩ := hF
            have d84 : f 84 = .bool true := d84
            have d82 : f 82 = .bool false := d82
            refine Step2.live (show wantedBy _ (f 82) = true by rw [d82]; rfl) ?_
            exact relUpon_value (v := f 84) rfl (hC) (Below.refl _ _) d84
          -- 23: slot 86 := move t8
          · intro w L f hC hLi hLd hLn hF
            obtain ⟨d8, d85, _⟩ := hF
            have d8 : f 8 = .slice (some ⟨kb, ko, none⟩) nk kc := d8
            have d85 : f 85 = .bool true := d85
            refine Step2.live (show wantedBy _ (f 85) = true by rw [d85]; rfl) ?_
            exact relUpon_value (v := f 8) rfl (hC) (Below.refl _ _) d8
          -- 24: slot 87 := move t9
          · intro w L f hC hLi hLd hLn hF
            obtain ⟨d9, d85, _⟩ := hF
            have d9 : f 9 = .int .i64 ((i' + 1 : Nat) : Int) := d9
            have d85 : f 85 = .bool true := d85
            refine Step2.live (show wantedBy _ (f 85) = true by rw [d85]; rfl) ?_
            exact relUpon_value (v := f 9) rfl (hC) (Below.refl _ _) d9
          -- 25: slot 88 := binOp BinOp.sub 3 t87 (const (1:i64)) 3
          · intro w L f hC hLi hLd hLn hF
            obtain ⟨d87, d85, _⟩ := hF
            have d87 : f 87 = .int .i64 ((i' + 1 : Nat) : Int) := d87
            have d85 : f 85 = .bool true := d85
            refine Step2.live (show wantedBy _ (f 85) = true by rw [d85]; rfl) ?_
            have h1 := hsub.out
            have ev : ∀ t, evalOf f (.tmp t) = f t := fun _ => rfl
            have ec : ∀ c, evalOf f (.const c) = c := fun _ => rfl
            have ef : ∀ g, evalOf f (.func g) = .func (.func g) #[] #[] := fun _ => rfl
            refine relUpon_value ?_ hC (Below.refl _ _) rfl
            go_simp
          -- 26: slot 89 := indexAddr 43 t86 t88
          · intro w L f hC hLi hLd hLn hF
            obtain ⟨d86, d88, d85, _⟩ := hF
            have d86 : f 86 = .slice (some ⟨kb, ko, none⟩) nk kc := d86
            have d88 : f 88 = .int .i64 i' := d88
            have d85 : f 85 = .bool true := d85
            refine Step2.live (show wantedBy _ (f 85) = true by rw [d85]; rfl) ?_
            have h1 := hik.out
            have h2 : ¬ ((i' : Int) + 1 < 0) := by omega
            have ev : ∀ t, evalOf f (.tmp t) = f t := fun _ => rfl
            have ec : ∀ c, evalOf f (.const c) = c := fun _ => rfl
            have ef : ∀ g, evalOf f (.func g) = .func (.func g) #[] #[] := fun _ => rfl
            refine relUpon_value ?_ hC (Below.refl _ _) rfl
            go_simp
          -- 27: slot 90 := load 9 t89
          · intro w L f hC hLi hLd hLn hF
            obtain ⟨d89, d85, _⟩ := hF
            have d89 : f 89 = .pointer (some ⟨kb, ko + i', none⟩) := d89
            have d85 : f 85 = .bool true := d85
            refine Step2.live (show wantedBy _ (f 85) = true by rw [d85]; rfl) ?_
            have f0 := (hC.cell (p := ⟨kb, _, none⟩) hY.out.1).trans hY.out.2
            have ev : ∀ t, evalOf f (.tmp t) = f t := fun _ => rfl
            have ec : ∀ c, evalOf f (.const c) = c := fun _ => rfl
            have ef : ∀ g, evalOf f (.func g) = .func (.func g) #[] #[] := fun _ => rfl
            refine relUpon_value ?_ hC (Below.refl _ _) rfl
            go_simp
          -- 28: slot 91 := move t8
          · intro w L f hC hLi hLd hLn hF
            obtain ⟨d8, d85, _⟩ := hF
            have d8 : f 8 = .slice (some ⟨kb, ko, none⟩) nk kc := d8
            have d85 : f 85 = .bool true := d85
            refine Step2.live (show wantedBy _ (f 85) = true by rw [d85]; rfl) ?_
            exact relUpon_value (v := f 8) rfl (hC) (Below.refl _ _) d8
          -- 29: slot 92 := move t9
          · intro w L f hC hLi hLd hLn hF
            obtain ⟨d9, d85, _⟩ := hF
            have d9 : f 9 = .int .i64 ((i' + 1 : Nat) : Int) := d9
            have d85 : f 85 = .bool true := d85
            refine Step2.live (show wantedBy _ (f 85) = true by rw [d85]; rfl) ?_
            exact relUpon_value (v := f 9) rfl (hC) (Below.refl _ _) d9
          -- 30: slot 93 := indexAddr 43 t91 t92
          · intro w L f hC hLi hLd hLn hF
            obtain ⟨d91, d92, d85, _⟩ := hF
            have d91 : f 91 = .slice (some ⟨kb, ko, none⟩) nk kc := d91
            have d92 : f 92 = .int .i64 ((i' + 1 : Nat) : Int) := d92
            have d85 : f 85 = .bool true := d85
            refine Step2.live (show wantedBy _ (f 85) = true by rw [d85]; rfl) ?_
            have h1 := hik.out
            have h2 : ¬ ((i' : Int) + 1 < 0) := by omega
            have ev : ∀ t, evalOf f (.tmp t) = f t := fun _ => rfl
            have ec : ∀ c, evalOf f (.const c) = c := fun _ => rfl
            have ef : ∀ g, evalOf f (.func g) = .func (.func g) #[] #[] := fun _ => rfl
            refine relUpon_value ?_ hC (Below.refl _ _) rfl
            go_simp
          -- 31: slot 94 := load 9 t93
          · intro w L f hC hLi hLd hLn hF
            obtain ⟨d93, d85, _⟩ := hF
            have d93 : f 93 = .pointer (some ⟨kb, ko + (i' + 1), none⟩) := d93
            have d85 : f 85 = .bool true := d85
            refine Step2.live (show wantedBy _ (f 85) = true by rw [d85]; rfl) ?_
            have f0 := (hC.cell (p := ⟨kb, _, none⟩) hX.out.1).trans hX.out.2
            have ev : ∀ t, evalOf f (.tmp t) = f t := fun _ => rfl
            have ec : ∀ c, evalOf f (.const c) = c := fun _ => rfl
            have ef : ∀ g, evalOf f (.func g) = .func (.func g) #[] #[] := fun _ => rfl
            refine relUpon_value ?_ hC (Below.refl _ _) rfl
            go_simp
          -- 32: slot 95 := binOp BinOp.geq 9 t90 t94 9
          · intro w L f hC hLi hLd hLn hF
            obtain ⟨d90, d94, d85, _⟩ := hF
            have d90 : f 90 = .string Y := d90
            have d94 : f 94 = .string X := d94
            have d85 : f 85 = .bool true := d85
            refine Step2.live (show wantedBy _ (f 85) = true by rw [d85]; rfl) ?_
            have h1 := hbl.out
            have ev : ∀ t, evalOf f (.tmp t) = f t := fun _ => rfl
            have ec : ∀ c, evalOf f (.const c) = c := fun _ => rfl
            have ef : ∀ g, evalOf f (.func g) = .func (.func g) #[] #[] := fun _ => rfl
            refine relUpon_value ?_ hC (Below.refl _ _) rfl
            go_simp
          -- 33: slot 96 := pick t85 t95 (const (Value.bool false))
          · intro w L f hC hLi hLd hLn hF
            obtain ⟨d85, d95, d82, _⟩ := hF
            have d85 : f 85 = .bool true := d85
            have d95 : f 95 = .bool false := d95
            have d82 : f 82 = .bool false := d82
            refine Step2.live (show wantedBy _ (f 82) = true by rw [d82]; rfl) ?_
            have ev : ∀ t, evalOf f (.tmp t) = f t := fun _ => rfl
            have ec : ∀ c, evalOf f (.const c) = c := fun _ => rfl
            have ef : ∀ g, evalOf f (.func g) = .func (.func g) #[] #[] := fun _ => rfl
            refine relUpon_value ?_ hC (Below.refl _ _) rfl
            go_simp
          -- 34: slot 97 := pick t82 (const (Value.bool true)) t96
          · intro w L f hC hLi hLd hLn hF
            obtain ⟨d82, d96, _⟩ := hF
            have d82 : f 82 = .bool false := d82
            have d96 : f 96 = .bool false := d96
            refine Step2.live rfl ?_
            have ev : ∀ t, evalOf f (.tmp t) = f t := fun _ => rfl
            have ec : ∀ c, evalOf f (.const c) = c := fun _ => rfl
            have ef : ∀ g, evalOf f (.func g) = .func (.func g) #[] #[] := fun _ => rfl
            refine relUpon_value ?_ hC (Below.refl _ _) rfl
            go_simp
        intro x w' hC hV

        have e97 := hV 34 _ rfl rfl
        clear hV
        simp only [framed]
        rw [e97]
        clear e97
        have hBy := Lib.hid (hBx.out.trans (hC.mono hBx.out.size))
        clear hC hX hY hBx hXp hXe hik hsub hbl
        go_wp2_with fail
        exact ⟨⟨i' + 1 + 1, by omega, by simp, hBy⟩, by simp [intOf]; omega⟩
    · obtain rfl : t = nk := by omega
      have hti : ¬ (t : Int) < (t : Int) := by omega
      have hBf := Lib.hid (hB5.out.trans (hBx.out.mono hB5.out.size))
      have hfr6 := Lib.hid (hfr5.out.below hBx.out)
      obtain ⟨w6, hw6⟩ : ∃ x, x = wr := ⟨_, rfl⟩
      rw [← hw6] at hBf hfr6 ⊢
      clear hw6 hBx hfr5 hB5 hkr
      go_wp2_with fail
      go_loopw [10, 11] (fun nv iv wr => ∃ (i : Nat) (D : List ByteArray), i ≤ n ∧ iv = .int .i64 i ∧ nv = .int .i64 D.length ∧ D.length ≤ i ∧ Hid (Firsts p (l.take i) D) ∧ Hid (Below w6.heap.size w6 wr)) (fun _ iv _ => n - (intOf iv).toNat)
      case atStart => exact ⟨0, [], by omega, rfl, rfl, by simp, Lib.hid (by rw [List.take_zero]; exact firsts_nil p), Lib.hid (Below.refl _ _)⟩
      obtain ⟨i, D, hi, rfl, rfl, hDl, hD, hBx⟩ := hrel
      rename World => wo
      have hBo := Lib.hid (hBf.out.trans (hBx.out.mono hBf.out.size))
      obtain ⟨dl, hdl⟩ : ∃ x, x = D.length := ⟨_, rfl⟩
      rw [← hdl] at hDl ⊢
      have hdl' := Lib.hid hdl
      clear hdl
      by_cases hin : i < n
      · have hil : i < l.length := by rw [hl.out]; exact hin
        have hii : (i : Int) < (n : Int) := by omega
        have hiw : IntKind.i64.wrap ((i : Int) + 1) = ((i + 1 : Nat) : Int) := by rw [IntWalk.i64_in _ (by omega)]; omega
        obtain ⟨b, off, rfl, hbl, hcell⟩ := (hr.out.below hBo.out).at_ (k := i) (by simpa using hil)
        rw [List.getElem_map] at hcell
        have hyl : Hid (l[i] ∈ l) := Lib.hid (List.getElem_mem hil)
        have hy30 := hsm.out l[i] (List.getElem_mem hil)
        have hst := Lib.hid (take_snoc' l hil)
        generalize l[i] = y at *
        obtain ⟨f0, hf0⟩ : ∃ x, x = prefL p.data.toList y.data.toList := ⟨_, rfl⟩
        have hsp := prefL_split p y
        rw [← hf0] at hsp
        replace hf0 := Lib.hid hf0
        have hbo := Nat.lt_of_lt_of_le hbl hBo.out.size
        rcases hsp with ⟨hs1, hs2⟩ | ⟨hs1, rfl⟩
        · go_wp2_with fail
          go_loopw [12, 13] (fun bv jv wr => ∃ (j : Nat) (bb : Bool), j ≤ i ∧ jv = .int .i64 j ∧ bv = .bool bb ∧ Hid (bb = true ↔ prefL p.data.toList y.data.toList = true ∧ y ∉ l.take j) ∧ Hid (Below wo.heap.size wo wr)) (fun _ jv _ => i - (intOf jv).toNat)
          case atStart => exact ⟨0, _, by omega, rfl, rfl, Lib.hid (by rw [← hf0.out]; simp), Lib.hid (Below.refl _ _)⟩
          obtain ⟨j, bb, hj, rfl, rfl, hbb, hBj⟩ := hrel
          by_cases hji : j < i
          · have hjl : j < l.length := by rw [hl.out]; omega
            have hjii : (j : Int) < (i : Int) := by omega
            have hjw : IntKind.i64.wrap ((j : Int) + 1) = ((j + 1 : Nat) : Int) := by rw [IntWalk.i64_in _ (by omega)]; omega
            have hstj := Lib.hid (take_snoc' l hjl)
            obtain ⟨b2, off2, e2, _, q2⟩ := (hr.out.below hBo.out).at_ (k := j) (by simpa using hjl)
            injection e2 with e2
            injection e2 with e2 e3
            subst e2 e3
            rw [List.getElem_map] at q2
            generalize l[j] = x at *
            have hy : Hid (b < wr.heap.size ∧ wr.cell? ⟨b, off + i, none⟩ = some (.string y)) := Lib.hid ⟨Nat.lt_of_lt_of_le hbo hBj.out.size, (hBj.out.cell (p := ⟨b, _, none⟩) hbo).trans hcell⟩
            have hx : Hid (b < wr.heap.size ∧ wr.cell? ⟨b, off + j, none⟩ = some (.string x)) := Lib.hid ⟨Nat.lt_of_lt_of_le hbo hBj.out.size, (hBj.out.cell (p := ⟨b, _, none⟩) hbo).trans q2⟩
            have hjn : Hid ((j : Int) < (n : Int) ∧ j < n) := Lib.hid ⟨by omega, by omega⟩
            have hin' : Hid ((i : Int) < (n : Int) ∧ i < n) := Lib.hid ⟨by omega, hin⟩
            clear q2
            obtain ⟨wb, hwb⟩ : ∃ z, z = wr := ⟨_, rfl⟩
            rw [← hwb] at hx hy hBj ⊢
            clear hwb
            cases bb
            case false =>
              go_wp2_with fail
              -- THE REGION THAT DRAWS ITS ORDER, BY ONE LEXICAL WALK OVER GENERIC VALUES (written by relgen.py)
              refine wp_region_tab ((fun _ v => v = .bool false) ::
                (fun _ v => v = .bool false) ::
                (fun _ _ => True) ::
                (fun _ _ => True) ::
                (fun _ _ => True) ::
                (fun _ _ => True) ::
                (fun _ _ => True) ::
                (fun _ _ => True) ::
                (fun _ _ => True) ::
                (fun _ _ => True) ::
                (fun _ _ => True) ::
                (fun _ v => v = .bool false) ::
                (fun _ v => v = .bool false) :: [])
                (⟨[(12, none)], 0, []⟩ :: ⟨[(128, some 0)], 0, []⟩ :: ⟨[(0, none), (129, some 1)], 129, []⟩ :: ⟨[(13, none), (129, some 1)], 129, []⟩ :: ⟨[(130, some 2), (131, some 3), (129, some 1)], 129, []⟩ :: ⟨[(132, some 4), (129, some 1)], 129, []⟩ :: ⟨[(0, none), (129, some 1)], 129, []⟩ :: ⟨[(11, none), (129, some 1)], 129, []⟩ :: ⟨[(134, some 6), (135, some 7), (129, some 1)], 129, []⟩ :: ⟨[(136, some 8), (129, some 1)], 129, []⟩ :: ⟨[(133, some 5), (137, some 9), (129, some 1)], 129, []⟩ :: ⟨[(129, some 1), (138, some 10)], 0, []⟩ :: ⟨[(139, some 11)], 0, []⟩ :: [])
                (none :: none :: none :: none :: none :: none :: none :: none :: none :: none :: none :: none :: some 12 :: none :: none :: none :: none :: none :: none :: none :: none :: none :: none :: none :: none :: none :: none :: none :: none :: none :: none :: none :: none :: none :: none :: none :: none :: none :: none :: none :: none :: none :: none :: none :: none :: none :: none :: none :: none :: none :: none :: none :: none :: none :: none :: none :: none :: none :: none :: none :: none :: none :: none :: none :: none :: none :: none :: none :: none :: none :: none :: none :: none :: none :: none :: none :: none :: none :: none :: none :: none :: none :: none :: none :: none :: none :: none :: none :: none :: none :: none :: none :: none :: none :: none :: none :: none :: none :: none :: none :: none :: none :: none :: none :: none :: none :: none :: none :: none :: none :: none :: none :: none :: none :: none :: none :: none :: none :: none :: none :: none :: none :: none :: none :: none :: none :: none :: none :: some 0 :: some 1 :: some 2 :: some 3 :: some 4 :: some 5 :: some 6 :: some 7 :: some 8 :: some 9 :: some 10 :: some 11 :: [])
                (fun _ w' => Below wb.heap.size wb w') (fun _ w w' => Below w.heap.size w w') ?mixK29prefix29a1 ?okK29prefix29a1 ?tabK29prefix29a1 ?frK29prefix29a1 ?inK29prefix29a1 ?keptK29prefix29a1 ?startK29prefix29a1 ?eachK29prefix29a1 ?finK29prefix29a1
              case mixK29prefix29a1 => kernel_rfl
              case okK29prefix29a1 => kernel_rfl
              case tabK29prefix29a1 => kernel_rfl
              case frK29prefix29a1 => kernel_rfl
              case inK29prefix29a1 => rfl
              case keptK29prefix29a1 => exact ⟨fun _ _ _ _ _ _ _ h => h, fun _ _ _ _ _ _ _ h => h, fun _ _ _ => fun _ _ _ _ h => h, fun _ _ _ => fun _ _ _ _ h => h, fun _ _ _ => fun _ _ _ _ h => h, fun _ _ _ => fun _ _ _ _ h => h, fun _ _ _ => fun _ _ _ _ h => h, fun _ _ _ => fun _ _ _ _ h => h, fun _ _ _ => fun _ _ _ _ h => h, fun _ _ _ => fun _ _ _ _ h => h, fun _ _ _ => fun _ _ _ _ h => h, fun _ _ _ _ _ _ _ h => h, fun _ _ _ _ _ _ _ h => h, trivial⟩
              case startK29prefix29a1 => exact (Below.refl _ _).drew
              case eachK29prefix29a1 =>
                refine ⟨?_, ?_, ?_, ?_, ?_, ?_, ?_, ?_, ?_, ?_, ?_, ?_, ?_, trivial⟩
                -- 0: slot 128 := move t12
                · intro w L f hC hLi hLd hLn hF
                  obtain ⟨d12, _⟩ := hF
                  have d12 : f 12 = .bool false := d12
                  refine Step2.live rfl ?_
                  exact relUpon_value (v := f 12) rfl (hC) (Below.refl _ _) d12
                -- 1: slot 129 := move t128
                · intro w L f hC hLi hLd hLn hF
                  obtain ⟨d128, _⟩ := hF
                  have d128 : f 128 = .bool false := d128
                  refine Step2.live rfl ?_
                  exact relUpon_value (v := f 128) rfl (hC) (Below.refl _ _) d128
                -- 2: slot 130 := move t0
                · intro w L f hC hLi hLd hLn hF
                  obtain ⟨d0, d129, _⟩ := hF
                  have d0 : f 0 = .slice (some ⟨b, off, none⟩) n c := d0
                  have d129 : f 129 = .bool false := d129
                  refine Step2.dead (show wantedBy _ (f 129) = false by rw [d129]; rfl) (hC) ?_
                  trivial
                -- 3: slot 131 := move t13
                · intro w L f hC hLi hLd hLn hF
                  obtain ⟨d13, d129, _⟩ := hF
                  have d13 : f 13 = .int .i64 j := d13
                  have d129 : f 129 = .bool false := d129
                  refine Step2.dead (show wantedBy _ (f 129) = false by rw [d129]; rfl) (hC) ?_
                  trivial
                -- 4: slot 132 := indexAddr 43 t130 t131
                · intro w L f hC hLi hLd hLn hF
                  obtain ⟨d130, d131, d129, _⟩ := hF
                  have d129 : f 129 = .bool false := d129
                  refine Step2.dead (show wantedBy _ (f 129) = false by rw [d129]; rfl) (hC) ?_
                  trivial
                -- 5: slot 133 := load 9 t132
                · intro w L f hC hLi hLd hLn hF
                  obtain ⟨d132, d129, _⟩ := hF
                  have d129 : f 129 = .bool false := d129
                  refine Step2.dead (show wantedBy _ (f 129) = false by rw [d129]; rfl) (hC) ?_
                  trivial
                -- 6: slot 134 := move t0
                · intro w L f hC hLi hLd hLn hF
                  obtain ⟨d0, d129, _⟩ := hF
                  have d0 : f 0 = .slice (some ⟨b, off, none⟩) n c := d0
                  have d129 : f 129 = .bool false := d129
                  refine Step2.dead (show wantedBy _ (f 129) = false by rw [d129]; rfl) (hC) ?_
                  trivial
                -- 7: slot 135 := move t11
                · intro w L f hC hLi hLd hLn hF
                  obtain ⟨d11, d129, _⟩ := hF
                  have d11 : f 11 = .int .i64 i := d11
                  have d129 : f 129 = .bool false := d129
                  refine Step2.dead (show wantedBy _ (f 129) = false by rw [d129]; rfl) (hC) ?_
                  trivial
                -- 8: slot 136 := indexAddr 43 t134 t135
                · intro w L f hC hLi hLd hLn hF
                  obtain ⟨d134, d135, d129, _⟩ := hF
                  have d129 : f 129 = .bool false := d129
                  refine Step2.dead (show wantedBy _ (f 129) = false by rw [d129]; rfl) (hC) ?_
                  trivial
                -- 9: slot 137 := load 9 t136
                · intro w L f hC hLi hLd hLn hF
                  obtain ⟨d136, d129, _⟩ := hF
                  have d129 : f 129 = .bool false := d129
                  refine Step2.dead (show wantedBy _ (f 129) = false by rw [d129]; rfl) (hC) ?_
                  trivial
                -- 10: slot 138 := binOp BinOp.neq 9 t133 t137 9
                · intro w L f hC hLi hLd hLn hF
                  obtain ⟨d133, d137, d129, _⟩ := hF
                  have d129 : f 129 = .bool false := d129
                  refine Step2.dead (show wantedBy _ (f 129) = false by rw [d129]; rfl) (hC) ?_
                  trivial
                -- 11: slot 139 := pick t129 t138 (const (Value.bool false))
                · intro w L f hC hLi hLd hLn hF
                  obtain ⟨d129, d138, _⟩ := hF
                  have d129 : f 129 = .bool false := d129
                  refine Step2.live rfl ?_
                  have ev : ∀ t, evalOf f (.tmp t) = f t := fun _ => rfl
                  have ec : ∀ c, evalOf f (.const c) = c := fun _ => rfl
                  have ef : ∀ g, evalOf f (.func g) = .func (.func g) #[] #[] := fun _ => rfl
                  refine relUpon_value ?_ hC (Below.refl _ _) rfl
                  go_simp
                -- 12: slot 12 := assign t139
                · intro w L f hC hLi hLd hLn hF
                  obtain ⟨d139, _⟩ := hF
                  have d139 : f 139 = .bool false := d139
                  refine Step2.live rfl ?_
                  exact relUpon_value (v := f 139) rfl (hC) (Below.refl _ _) d139
              intro x w' hC hV

              have e12 := hV 12 _ rfl rfl
              clear hV
              simp only [framed]
              rw [e12]
              clear e12
              have hBk := Lib.hid (hBj.out.trans (hC.mono hBj.out.size))
              have hbk : Hid (false = true ↔ prefL p.data.toList y.data.toList = true ∧ y ∉ l.take (j + 1)) := Lib.hid (by
                rw [hstj.out]
                constructor
                · intro h; cases h
                · rintro ⟨h1, h2⟩
                  exact absurd (hbb.out.2 ⟨h1, fun h => h2 (List.mem_append_left _ h)⟩) (by simp))
              clear hC hx hy hBj hjn hin' hbb hstj
              go_wp2_with fail
              exact ⟨⟨j + 1, _, by omega, by simp, rfl, hbk, hBk⟩, by simp [intOf]; omega⟩
            case true =>
              by_cases hxe : x = y
              · have hyx : Hid (b < wb.heap.size ∧ wb.cell? ⟨b, off + i, none⟩ = some (.string x)) := Lib.hid (by rw [hxe]; exact hy.out)
                replace hy := hyx
                clear hyx
                go_wp2_with fail
                -- THE REGION THAT DRAWS ITS ORDER, BY ONE LEXICAL WALK OVER GENERIC VALUES (written by relgen.py)
                refine wp_region_tab ((fun _ v => v = .bool true) ::
                  (fun _ v => v = .bool true) ::
                  (fun _ v => v = .slice (some ⟨b, off, none⟩) n c) ::
                  (fun _ v => v = .int .i64 j) ::
                  (fun _ v => v = .pointer (some ⟨b, off + j, none⟩)) ::
                  (fun _ v => v = .string x) ::
                  (fun _ v => v = .slice (some ⟨b, off, none⟩) n c) ::
                  (fun _ v => v = .int .i64 i) ::
                  (fun _ v => v = .pointer (some ⟨b, off + i, none⟩)) ::
                  (fun _ v => v = .string x) ::
                  (fun _ v => v = .bool false) ::
                  (fun _ v => v = .bool false) ::
                  (fun _ v => v = .bool false) :: [])
                  (⟨[(12, none)], 0, []⟩ :: ⟨[(128, some 0)], 0, []⟩ :: ⟨[(0, none), (129, some 1)], 129, []⟩ :: ⟨[(13, none), (129, some 1)], 129, []⟩ :: ⟨[(130, some 2), (131, some 3), (129, some 1)], 129, []⟩ :: ⟨[(132, some 4), (129, some 1)], 129, []⟩ :: ⟨[(0, none), (129, some 1)], 129, []⟩ :: ⟨[(11, none), (129, some 1)], 129, []⟩ :: ⟨[(134, some 6), (135, some 7), (129, some 1)], 129, []⟩ :: ⟨[(136, some 8), (129, some 1)], 129, []⟩ :: ⟨[(133, some 5), (137, some 9), (129, some 1)], 129, []⟩ :: ⟨[(129, some 1), (138, some 10)], 0, []⟩ :: ⟨[(139, some 11)], 0, []⟩ :: [])
                  (none :: none :: none :: none :: none :: none :: none :: none :: none :: none :: none :: none :: some 12 :: none :: none :: none :: none :: none :: none :: none :: none :: none :: none :: none :: none :: none :: none :: none :: none :: none :: none :: none :: none :: none :: none :: none :: none :: none :: none :: none :: none :: none :: none :: none :: none :: none :: none :: none :: none :: none :: none :: none :: none :: none :: none :: none :: none :: none :: none :: none :: none :: none :: none :: none :: none :: none :: none :: none :: none :: none :: none :: none :: none :: none :: none :: none :: none :: none :: none :: none :: none :: none :: none :: none :: none :: none :: none :: none :: none :: none :: none :: none :: none :: none :: none :: none :: none :: none :: none :: none :: none :: none :: none :: none :: none :: none :: none :: none :: none :: none :: none :: none :: none :: none :: none :: none :: none :: none :: none :: none :: none :: none :: none :: none :: none :: none :: none :: none :: some 0 :: some 1 :: some 2 :: some 3 :: some 4 :: some 5 :: some 6 :: some 7 :: some 8 :: some 9 :: some 10 :: some 11 :: [])
                  (fun _ w' => Below wb.heap.size wb w') (fun _ w w' => Below w.heap.size w w') ?mixK29prefix29e1 ?okK29prefix29e1 ?tabK29prefix29e1 ?frK29prefix29e1 ?inK29prefix29e1 ?keptK29prefix29e1 ?startK29prefix29e1 ?eachK29prefix29e1 ?finK29prefix29e1
                case mixK29prefix29e1 => kernel_rfl
                case okK29prefix29e1 => kernel_rfl
                case tabK29prefix29e1 => kernel_rfl
                case frK29prefix29e1 => kernel_rfl
                case inK29prefix29e1 => rfl
                case keptK29prefix29e1 => exact ⟨fun _ _ _ _ _ _ _ h => h, fun _ _ _ _ _ _ _ h => h, fun _ _ _ _ _ _ _ h => h, fun _ _ _ _ _ _ _ h => h, fun _ _ _ _ _ _ _ h => h, fun _ _ _ _ _ _ _ h => h, fun _ _ _ _ _ _ _ h => h, fun _ _ _ _ _ _ _ h => h, fun _ _ _ _ _ _ _ h => h, fun _ _ _ _ _ _ _ h => h, fun _ _ _ _ _ _ _ h => h, fun _ _ _ _ _ _ _ h => h, fun _ _ _ _ _ _ _ h => h, trivial⟩
                case startK29prefix29e1 => exact (Below.refl _ _).drew
                case eachK29prefix29e1 =>
                  refine ⟨?_, ?_, ?_, ?_, ?_, ?_, ?_, ?_, ?_, ?_, ?_, ?_, ?_, trivial⟩
                  -- 0: slot 128 := move t12
                  · intro w L f hC hLi hLd hLn hF
                    obtain ⟨d12, _⟩ := hF
                    have d12 : f 12 = .bool true := d12
                    refine Step2.live rfl ?_
                    exact relUpon_value (v := f 12) rfl (hC) (Below.refl _ _) d12
                  -- 1: slot 129 := move t128
                  · intro w L f hC hLi hLd hLn hF
                    obtain ⟨d128, _⟩ := hF
                    have d128 : f 128 = .bool true := d128
                    refine Step2.live rfl ?_
                    exact relUpon_value (v := f 128) rfl (hC) (Below.refl _ _) d128
                  -- 2: slot 130 := move t0
                  · intro w L f hC hLi hLd hLn hF
                    obtain ⟨d0, d129, _⟩ := hF
                    have d0 : f 0 = .slice (some ⟨b, off, none⟩) n c := d0
                    have d129 : f 129 = .bool true := d129
                    refine Step2.live (show wantedBy _ (f 129) = true by rw [d129]; rfl) ?_
                    exact relUpon_value (v := f 0) rfl (hC) (Below.refl _ _) d0
                  -- 3: slot 131 := move t13
                  · intro w L f hC hLi hLd hLn hF
                    obtain ⟨d13, d129, _⟩ := hF
                    have d13 : f 13 = .int .i64 j := d13
                    have d129 : f 129 = .bool true := d129
                    refine Step2.live (show wantedBy _ (f 129) = true by rw [d129]; rfl) ?_
                    exact relUpon_value (v := f 13) rfl (hC) (Below.refl _ _) d13
                  -- 4: slot 132 := indexAddr 43 t130 t131
                  · intro w L f hC hLi hLd hLn hF
                    obtain ⟨d130, d131, d129, _⟩ := hF
                    have d130 : f 130 = .slice (some ⟨b, off, none⟩) n c := d130
                    have d131 : f 131 = .int .i64 j := d131
                    have d129 : f 129 = .bool true := d129
                    refine Step2.live (show wantedBy _ (f 129) = true by rw [d129]; rfl) ?_
                    have h1 := hjn.out
                    have ev : ∀ t, evalOf f (.tmp t) = f t := fun _ => rfl
                    have ec : ∀ c, evalOf f (.const c) = c := fun _ => rfl
                    have ef : ∀ g, evalOf f (.func g) = .func (.func g) #[] #[] := fun _ => rfl
                    refine relUpon_value ?_ hC (Below.refl _ _) rfl
                    go_simp
                  -- 5: slot 133 := load 9 t132
                  · intro w L f hC hLi hLd hLn hF
                    obtain ⟨d132, d129, _⟩ := hF
                    have d132 : f 132 = .pointer (some ⟨b, off + j, none⟩) := d132
                    have d129 : f 129 = .bool true := d129
                    refine Step2.live (show wantedBy _ (f 129) = true by rw [d129]; rfl) ?_
                    have f0 := (hC.cell (p := ⟨b, _, none⟩) hx.out.1).trans hx.out.2
                    have ev : ∀ t, evalOf f (.tmp t) = f t := fun _ => rfl
                    have ec : ∀ c, evalOf f (.const c) = c := fun _ => rfl
                    have ef : ∀ g, evalOf f (.func g) = .func (.func g) #[] #[] := fun _ => rfl
                    refine relUpon_value ?_ hC (Below.refl _ _) rfl
                    go_simp
                  -- 6: slot 134 := move t0
                  · intro w L f hC hLi hLd hLn hF
                    obtain ⟨d0, d129, _⟩ := hF
                    have d0 : f 0 = .slice (some ⟨b, off, none⟩) n c := d0
                    have d129 : f 129 = .bool true := d129
                    refine Step2.live (show wantedBy _ (f 129) = true by rw [d129]; rfl) ?_
                    exact relUpon_value (v := f 0) rfl (hC) (Below.refl _ _) d0
                  -- 7: slot 135 := move t11
                  · intro w L f hC hLi hLd hLn hF
                    obtain ⟨d11, d129, _⟩ := hF
                    have d11 : f 11 = .int .i64 i := d11
                    have d129 : f 129 = .bool true := d129
                    refine Step2.live (show wantedBy _ (f 129) = true by rw [d129]; rfl) ?_
                    exact relUpon_value (v := f 11) rfl (hC) (Below.refl _ _) d11
                  -- 8: slot 136 := indexAddr 43 t134 t135
                  · intro w L f hC hLi hLd hLn hF
                    obtain ⟨d134, d135, d129, _⟩ := hF
                    have d134 : f 134 = .slice (some ⟨b, off, none⟩) n c := d134
                    have d135 : f 135 = .int .i64 i := d135
                    have d129 : f 129 = .bool true := d129
                    refine Step2.live (show wantedBy _ (f 129) = true by rw [d129]; rfl) ?_
                    have h1 := hin'.out
                    have ev : ∀ t, evalOf f (.tmp t) = f t := fun _ => rfl
                    have ec : ∀ c, evalOf f (.const c) = c := fun _ => rfl
                    have ef : ∀ g, evalOf f (.func g) = .func (.func g) #[] #[] := fun _ => rfl
                    refine relUpon_value ?_ hC (Below.refl _ _) rfl
                    go_simp
                  -- 9: slot 137 := load 9 t136
                  · intro w L f hC hLi hLd hLn hF
                    obtain ⟨d136, d129, _⟩ := hF
                    have d136 : f 136 = .pointer (some ⟨b, off + i, none⟩) := d136
                    have d129 : f 129 = .bool true := d129
                    refine Step2.live (show wantedBy _ (f 129) = true by rw [d129]; rfl) ?_
                    have f0 := (hC.cell (p := ⟨b, _, none⟩) hy.out.1).trans hy.out.2
                    have ev : ∀ t, evalOf f (.tmp t) = f t := fun _ => rfl
                    have ec : ∀ c, evalOf f (.const c) = c := fun _ => rfl
                    have ef : ∀ g, evalOf f (.func g) = .func (.func g) #[] #[] := fun _ => rfl
                    refine relUpon_value ?_ hC (Below.refl _ _) rfl
                    go_simp
                  -- 10: slot 138 := binOp BinOp.neq 9 t133 t137 9
                  · intro w L f hC hLi hLd hLn hF
                    obtain ⟨d133, d137, d129, _⟩ := hF
                    have d133 : f 133 = .string x := d133
                    have d137 : f 137 = .string x := d137
                    have d129 : f 129 = .bool true := d129
                    refine Step2.live (show wantedBy _ (f 129) = true by rw [d129]; rfl) ?_
                    have ev : ∀ t, evalOf f (.tmp t) = f t := fun _ => rfl
                    have ec : ∀ c, evalOf f (.const c) = c := fun _ => rfl
                    have ef : ∀ g, evalOf f (.func g) = .func (.func g) #[] #[] := fun _ => rfl
                    refine relUpon_value ?_ hC (Below.refl _ _) rfl
                    go_simp
                  -- 11: slot 139 := pick t129 t138 (const (Value.bool false))
                  · intro w L f hC hLi hLd hLn hF
                    obtain ⟨d129, d138, _⟩ := hF
                    have d129 : f 129 = .bool true := d129
                    have d138 : f 138 = .bool false := d138
                    refine Step2.live rfl ?_
                    have ev : ∀ t, evalOf f (.tmp t) = f t := fun _ => rfl
                    have ec : ∀ c, evalOf f (.const c) = c := fun _ => rfl
                    have ef : ∀ g, evalOf f (.func g) = .func (.func g) #[] #[] := fun _ => rfl
                    refine relUpon_value ?_ hC (Below.refl _ _) rfl
                    go_simp
                  -- 12: slot 12 := assign t139
                  · intro w L f hC hLi hLd hLn hF
                    obtain ⟨d139, _⟩ := hF
                    have d139 : f 139 = .bool false := d139
                    refine Step2.live rfl ?_
                    exact relUpon_value (v := f 139) rfl (hC) (Below.refl _ _) d139
                intro x w' hC hV

                have e12 := hV 12 _ rfl rfl
                clear hV
                simp only [framed]
                rw [e12]
                clear e12
                have hBk := Lib.hid (hBj.out.trans (hC.mono hBj.out.size))
                have hbk : Hid (false = true ↔ prefL p.data.toList y.data.toList = true ∧ y ∉ l.take (j + 1)) := Lib.hid (by
                  rw [hstj.out]
                  constructor
                  · intro h; cases h
                  · rintro ⟨_, h2⟩
                    exact absurd (List.mem_append_right _ (List.mem_singleton.2 hxe.symm)) h2)
                clear hC hx hy hBj hjn hin' hbb hstj
                go_wp2_with fail
                exact ⟨⟨j + 1, _, by omega, by simp, rfl, hbk, hBk⟩, by simp [intOf]; omega⟩
              · have hxy : Hid ((x.toList == y.toList) = false) := Lib.hid (bytes_ne hxe)
                go_wp2_with fail
                -- THE REGION THAT DRAWS ITS ORDER, BY ONE LEXICAL WALK OVER GENERIC VALUES (written by relgen.py)
                refine wp_region_tab ((fun _ v => v = .bool true) ::
                  (fun _ v => v = .bool true) ::
                  (fun _ v => v = .slice (some ⟨b, off, none⟩) n c) ::
                  (fun _ v => v = .int .i64 j) ::
                  (fun _ v => v = .pointer (some ⟨b, off + j, none⟩)) ::
                  (fun _ v => v = .string x) ::
                  (fun _ v => v = .slice (some ⟨b, off, none⟩) n c) ::
                  (fun _ v => v = .int .i64 i) ::
                  (fun _ v => v = .pointer (some ⟨b, off + i, none⟩)) ::
                  (fun _ v => v = .string y) ::
                  (fun _ v => v = .bool true) ::
                  (fun _ v => v = .bool true) ::
                  (fun _ v => v = .bool true) :: [])
                  (⟨[(12, none)], 0, []⟩ :: ⟨[(128, some 0)], 0, []⟩ :: ⟨[(0, none), (129, some 1)], 129, []⟩ :: ⟨[(13, none), (129, some 1)], 129, []⟩ :: ⟨[(130, some 2), (131, some 3), (129, some 1)], 129, []⟩ :: ⟨[(132, some 4), (129, some 1)], 129, []⟩ :: ⟨[(0, none), (129, some 1)], 129, []⟩ :: ⟨[(11, none), (129, some 1)], 129, []⟩ :: ⟨[(134, some 6), (135, some 7), (129, some 1)], 129, []⟩ :: ⟨[(136, some 8), (129, some 1)], 129, []⟩ :: ⟨[(133, some 5), (137, some 9), (129, some 1)], 129, []⟩ :: ⟨[(129, some 1), (138, some 10)], 0, []⟩ :: ⟨[(139, some 11)], 0, []⟩ :: [])
                  (none :: none :: none :: none :: none :: none :: none :: none :: none :: none :: none :: none :: some 12 :: none :: none :: none :: none :: none :: none :: none :: none :: none :: none :: none :: none :: none :: none :: none :: none :: none :: none :: none :: none :: none :: none :: none :: none :: none :: none :: none :: none :: none :: none :: none :: none :: none :: none :: none :: none :: none :: none :: none :: none :: none :: none :: none :: none :: none :: none :: none :: none :: none :: none :: none :: none :: none :: none :: none :: none :: none :: none :: none :: none :: none :: none :: none :: none :: none :: none :: none :: none :: none :: none :: none :: none :: none :: none :: none :: none :: none :: none :: none :: none :: none :: none :: none :: none :: none :: none :: none :: none :: none :: none :: none :: none :: none :: none :: none :: none :: none :: none :: none :: none :: none :: none :: none :: none :: none :: none :: none :: none :: none :: none :: none :: none :: none :: none :: none :: some 0 :: some 1 :: some 2 :: some 3 :: some 4 :: some 5 :: some 6 :: some 7 :: some 8 :: some 9 :: some 10 :: some 11 :: [])
                  (fun _ w' => Below wb.heap.size wb w') (fun _ w w' => Below w.heap.size w w') ?mixK29prefix29t1 ?okK29prefix29t1 ?tabK29prefix29t1 ?frK29prefix29t1 ?inK29prefix29t1 ?keptK29prefix29t1 ?startK29prefix29t1 ?eachK29prefix29t1 ?finK29prefix29t1
                case mixK29prefix29t1 => kernel_rfl
                case okK29prefix29t1 => kernel_rfl
                case tabK29prefix29t1 => kernel_rfl
                case frK29prefix29t1 => kernel_rfl
                case inK29prefix29t1 => rfl
                case keptK29prefix29t1 => exact ⟨fun _ _ _ _ _ _ _ h => h, fun _ _ _ _ _ _ _ h => h, fun _ _ _ _ _ _ _ h => h, fun _ _ _ _ _ _ _ h => h, fun _ _ _ _ _ _ _ h => h, fun _ _ _ _ _ _ _ h => h, fun _ _ _ _ _ _ _ h => h, fun _ _ _ _ _ _ _ h => h, fun _ _ _ _ _ _ _ h => h, fun _ _ _ _ _ _ _ h => h, fun _ _ _ _ _ _ _ h => h, fun _ _ _ _ _ _ _ h => h, fun _ _ _ _ _ _ _ h => h, trivial⟩
                case startK29prefix29t1 => exact (Below.refl _ _).drew
                case eachK29prefix29t1 =>
                  refine ⟨?_, ?_, ?_, ?_, ?_, ?_, ?_, ?_, ?_, ?_, ?_, ?_, ?_, trivial⟩
                  -- 0: slot 128 := move t12
                  · intro w L f hC hLi hLd hLn hF
                    obtain ⟨d12, _⟩ := hF
                    have d12 : f 12 = .bool true := d12
                    refine Step2.live rfl ?_
                    exact relUpon_value (v := f 12) rfl (hC) (Below.refl _ _) d12
                  -- 1: slot 129 := move t128
                  · intro w L f hC hLi hLd hLn hF
                    obtain ⟨d128, _⟩ := hF
                    have d128 : f 128 = .bool true := d128
                    refine Step2.live rfl ?_
                    exact relUpon_value (v := f 128) rfl (hC) (Below.refl _ _) d128
                  -- 2: slot 130 := move t0
                  · intro w L f hC hLi hLd hLn hF
                    obtain ⟨d0, d129, _⟩ := hF
                    have d0 : f 0 = .slice (some ⟨b, off, none⟩) n c := d0
                    have d129 : f 129 = .bool true := d129
                    refine Step2.live (show wantedBy _ (f 129) = true by rw [d129]; rfl) ?_
                    exact relUpon_value (v := f 0) rfl (hC) (Below.refl _ _) d0
                  -- 3: slot 131 := move t13
                  · intro w L f hC hLi hLd hLn hF
                    obtain ⟨d13, d129, _⟩ := hF
                    have d13 : f 13 = .int .i64 j := d13
                    have d129 : f 129 = .bool true := d129
                    refine Step2.live (show wantedBy _ (f 129) = true by rw [d129]; rfl) ?_
                    exact relUpon_value (v := f 13) rfl (hC) (Below.refl _ _) d13
                  -- 4: slot 132 := indexAddr 43 t130 t131
                  · intro w L f hC hLi hLd hLn hF
                    obtain ⟨d130, d131, d129, _⟩ := hF
                    have d130 : f 130 = .slice (some ⟨b, off, none⟩) n c := d130
                    have d131 : f 131 = .int .i64 j := d131
                    have d129 : f 129 = .bool true := d129
                    refine Step2.live (show wantedBy _ (f 129) = true by rw [d129]; rfl) ?_
                    have h1 := hjn.out
                    have ev : ∀ t, evalOf f (.tmp t) = f t := fun _ => rfl
                    have ec : ∀ c, evalOf f (.const c) = c := fun _ => rfl
                    have ef : ∀ g, evalOf f (.func g) = .func (.func g) #[] #[] := fun _ => rfl
                    refine relUpon_value ?_ hC (Below.refl _ _) rfl
                    go_simp
                  -- 5: slot 133 := load 9 t132
                  · intro w L f hC hLi hLd hLn hF
                    obtain ⟨d132, d129, _⟩ := hF
                    have d132 : f 132 = .pointer (some ⟨b, off + j, none⟩) := d132
                    have d129 : f 129 = .bool true := d129
                    refine Step2.live (show wantedBy _ (f 129) = true by rw [d129]; rfl) ?_
                    have f0 := (hC.cell (p := ⟨b, _, none⟩) hx.out.1).trans hx.out.2
                    have ev : ∀ t, evalOf f (.tmp t) = f t := fun _ => rfl
                    have ec : ∀ c, evalOf f (.const c) = c := fun _ => rfl
                    have ef : ∀ g, evalOf f (.func g) = .func (.func g) #[] #[] := fun _ => rfl
                    refine relUpon_value ?_ hC (Below.refl _ _) rfl
                    go_simp
                  -- 6: slot 134 := move t0
                  · intro w L f hC hLi hLd hLn hF
                    obtain ⟨d0, d129, _⟩ := hF
                    have d0 : f 0 = .slice (some ⟨b, off, none⟩) n c := d0
                    have d129 : f 129 = .bool true := d129
                    refine Step2.live (show wantedBy _ (f 129) = true by rw [d129]; rfl) ?_
                    exact relUpon_value (v := f 0) rfl (hC) (Below.refl _ _) d0
                  -- 7: slot 135 := move t11
                  · intro w L f hC hLi hLd hLn hF
                    obtain ⟨d11, d129, _⟩ := hF
                    have d11 : f 11 = .int .i64 i := d11
                    have d129 : f 129 = .bool true := d129
                    refine Step2.live (show wantedBy _ (f 129) = true by rw [d129]; rfl) ?_
                    exact relUpon_value (v := f 11) rfl (hC) (Below.refl _ _) d11
                  -- 8: slot 136 := indexAddr 43 t134 t135
                  · intro w L f hC hLi hLd hLn hF
                    obtain ⟨d134, d135, d129, _⟩ := hF
                    have d134 : f 134 = .slice (some ⟨b, off, none⟩) n c := d134
                    have d135 : f 135 = .int .i64 i := d135
                    have d129 : f 129 = .bool true := d129
                    refine Step2.live (show wantedBy _ (f 129) = true by rw [d129]; rfl) ?_
                    have h1 := hin'.out
                    have ev : ∀ t, evalOf f (.tmp t) = f t := fun _ => rfl
                    have ec : ∀ c, evalOf f (.const c) = c := fun _ => rfl
                    have ef : ∀ g, evalOf f (.func g) = .func (.func g) #[] #[] := fun _ => rfl
                    refine relUpon_value ?_ hC (Below.refl _ _) rfl
                    go_simp
                  -- 9: slot 137 := load 9 t136
                  · intro w L f hC hLi hLd hLn hF
                    obtain ⟨d136, d129, _⟩ := hF
                    have d136 : f 136 = .pointer (some ⟨b, off + i, none⟩) := d136
                    have d129 : f 129 = .bool true := d129
                    refine Step2.live (show wantedBy _ (f 129) = true by rw [d129]; rfl) ?_
                    have f0 := (hC.cell (p := ⟨b, _, none⟩) hy.out.1).trans hy.out.2
                    have ev : ∀ t, evalOf f (.tmp t) = f t := fun _ => rfl
                    have ec : ∀ c, evalOf f (.const c) = c := fun _ => rfl
                    have ef : ∀ g, evalOf f (.func g) = .func (.func g) #[] #[] := fun _ => rfl
                    refine relUpon_value ?_ hC (Below.refl _ _) rfl
                    go_simp
                  -- 10: slot 138 := binOp BinOp.neq 9 t133 t137 9
                  · intro w L f hC hLi hLd hLn hF
                    obtain ⟨d133, d137, d129, _⟩ := hF
                    have d133 : f 133 = .string x := d133
                    have d137 : f 137 = .string y := d137
                    have d129 : f 129 = .bool true := d129
                    refine Step2.live (show wantedBy _ (f 129) = true by rw [d129]; rfl) ?_
                    have h1 := hxy.out
                    have ev : ∀ t, evalOf f (.tmp t) = f t := fun _ => rfl
                    have ec : ∀ c, evalOf f (.const c) = c := fun _ => rfl
                    have ef : ∀ g, evalOf f (.func g) = .func (.func g) #[] #[] := fun _ => rfl
                    refine relUpon_value ?_ hC (Below.refl _ _) rfl
                    go_simp
                  -- 11: slot 139 := pick t129 t138 (const (Value.bool false))
                  · intro w L f hC hLi hLd hLn hF
                    obtain ⟨d129, d138, _⟩ := hF
                    have d129 : f 129 = .bool true := d129
                    have d138 : f 138 = .bool true := d138
                    refine Step2.live rfl ?_
                    have ev : ∀ t, evalOf f (.tmp t) = f t := fun _ => rfl
                    have ec : ∀ c, evalOf f (.const c) = c := fun _ => rfl
                    have ef : ∀ g, evalOf f (.func g) = .func (.func g) #[] #[] := fun _ => rfl
                    refine relUpon_value ?_ hC (Below.refl _ _) rfl
                    go_simp
                  -- 12: slot 12 := assign t139
                  · intro w L f hC hLi hLd hLn hF
                    obtain ⟨d139, _⟩ := hF
                    have d139 : f 139 = .bool true := d139
                    refine Step2.live rfl ?_
                    exact relUpon_value (v := f 139) rfl (hC) (Below.refl _ _) d139
                intro x w' hC hV

                have e12 := hV 12 _ rfl rfl
                clear hV
                simp only [framed]
                rw [e12]
                clear e12
                have hBk := Lib.hid (hBj.out.trans (hC.mono hBj.out.size))
                have hbk : Hid (true = true ↔ prefL p.data.toList y.data.toList = true ∧ y ∉ l.take (j + 1)) := Lib.hid (by
                  rw [hstj.out]
                  have h := hbb.out.1 (by first | trivial | rfl)
                  refine ⟨fun _ => ⟨h.1, fun h2 => ?_⟩, fun _ => rfl⟩
                  rcases List.mem_append.1 h2 with h2 | h2
                  · exact h.2 h2
                  · exact hxe (List.mem_singleton.1 h2).symm)
                clear hC hx hy hBj hjn hin' hbb hstj hxy
                go_wp2_with fail
                exact ⟨⟨j + 1, _, by omega, by simp, rfl, hbk, hBk⟩, by simp [intOf]; omega⟩
          · obtain rfl : i = j := by omega
            have hjii : ¬ (i : Int) < (i : Int) := by omega
            have hBk := Lib.hid (hBo.out.trans (hBj.out.mono hBo.out.size))
            have hBz := Lib.hid (hBx.out.trans (hBj.out.mono hBx.out.size))
            have hfr8 := Lib.hid (hfr6.out.below hBz.out)
            have hcell2 := (hBj.out.cell (p := ⟨b, _, none⟩) hbo).trans hcell
            have hFy : preF l y = some ⟨#[]⟩ := by unfold preF; rw [if_pos hyl.out]
            have hgt := stget_any wr hfr8.out y (by omega)
            rw [hFy] at hgt
            simp only [Option.getD_some, Option.isSome_some] at hgt
            clear hFy hBj hcell
            cases bb
            case false =>
              have hDn : Hid (Firsts p (l.take (i + 1)) D) := Lib.hid (by
                rw [hst.out]
                refine hD.out.no ?_
                cases h : prefL p.data.toList y.data.toList with
                | false => exact .inl rfl
                | true =>
                  right
                  refine Classical.byContradiction fun h2 => ?_
                  exact absurd (hbb.out.2 ⟨h, h2⟩) (by simp))
              clear hbb
              go_wp2_with fail
              refine hgt.mono ?_
              clear hgt
              rintro e w9 ⟨rfl, hb9⟩
              have hB9 := Lib.hid (hBz.out.trans (hb9.mono hBz.out.size))
              clear hb9 hBz hfr8 hcell2
              go_wp2_with fail
              exact ⟨⟨i + 1, D, by omega, by simp, by rw [← hdl'.out], by have := hdl'.out; omega, hDn, hB9⟩, by simp [intOf]; omega⟩
            case true =>
              have hDn : Hid (Firsts p (l.take (i + 1)) (D ++ [y])) := Lib.hid (by
                rw [hst.out]
                have h := hbb.out.1 (by first | trivial | rfl)
                exact hD.out.yes h.1 h.2)
              have hdn : Hid ((D ++ [y]).length = dl + 1) := Lib.hid (by rw [List.length_append, ← hdl'.out]; rfl)
              have hdw : IntKind.i64.wrap ((dl : Int) + 1) = ((dl + 1 : Nat) : Int) := by rw [IntWalk.i64_in _ (by omega)]; omega
              clear hbb
              go_wp2_with fail
              refine hgt.mono ?_
              clear hgt
              rintro e w9 ⟨rfl, hb9⟩
              have hB9 := Lib.hid (hBz.out.trans (hb9.mono hBz.out.size))
              clear hb9 hBz hfr8 hcell2
              go_wp2_with fail
              exact ⟨⟨i + 1, D ++ [y], by omega, by simp, by rw [hdn.out]; simp, by rw [hdn.out]; omega, hDn, hB9⟩, by simp [intOf]; omega⟩
        · have hs2 : ¬ (p.size : Int) ≤ (y.size : Int) := by omega
          go_wp2_with fail
          go_loopw [12, 13] (fun bv jv wr => ∃ (j : Nat) (bb : Bool), j ≤ i ∧ jv = .int .i64 j ∧ bv = .bool bb ∧ Hid (bb = true ↔ prefL p.data.toList y.data.toList = true ∧ y ∉ l.take j) ∧ Hid (Below wo.heap.size wo wr)) (fun _ jv _ => i - (intOf jv).toNat)
          case atStart => exact ⟨0, _, by omega, rfl, rfl, Lib.hid (by rw [← hf0.out]; simp), Lib.hid (Below.refl _ _)⟩
          obtain ⟨j, bb, hj, rfl, rfl, hbb, hBj⟩ := hrel
          by_cases hji : j < i
          · have hjl : j < l.length := by rw [hl.out]; omega
            have hjii : (j : Int) < (i : Int) := by omega
            have hjw : IntKind.i64.wrap ((j : Int) + 1) = ((j + 1 : Nat) : Int) := by rw [IntWalk.i64_in _ (by omega)]; omega
            have hstj := Lib.hid (take_snoc' l hjl)
            obtain ⟨b2, off2, e2, _, q2⟩ := (hr.out.below hBo.out).at_ (k := j) (by simpa using hjl)
            injection e2 with e2
            injection e2 with e2 e3
            subst e2 e3
            rw [List.getElem_map] at q2
            generalize l[j] = x at *
            have hy : Hid (b < wr.heap.size ∧ wr.cell? ⟨b, off + i, none⟩ = some (.string y)) := Lib.hid ⟨Nat.lt_of_lt_of_le hbo hBj.out.size, (hBj.out.cell (p := ⟨b, _, none⟩) hbo).trans hcell⟩
            have hx : Hid (b < wr.heap.size ∧ wr.cell? ⟨b, off + j, none⟩ = some (.string x)) := Lib.hid ⟨Nat.lt_of_lt_of_le hbo hBj.out.size, (hBj.out.cell (p := ⟨b, _, none⟩) hbo).trans q2⟩
            have hjn : Hid ((j : Int) < (n : Int) ∧ j < n) := Lib.hid ⟨by omega, by omega⟩
            have hin' : Hid ((i : Int) < (n : Int) ∧ i < n) := Lib.hid ⟨by omega, hin⟩
            clear q2
            obtain ⟨wb, hwb⟩ : ∃ z, z = wr := ⟨_, rfl⟩
            rw [← hwb] at hx hy hBj ⊢
            clear hwb
            cases bb
            case false =>
              go_wp2_with fail
              -- THE REGION THAT DRAWS ITS ORDER, BY ONE LEXICAL WALK OVER GENERIC VALUES (written by relgen.py)
              refine wp_region_tab ((fun _ v => v = .bool false) ::
                (fun _ v => v = .bool false) ::
                (fun _ _ => True) ::
                (fun _ _ => True) ::
                (fun _ _ => True) ::
                (fun _ _ => True) ::
                (fun _ _ => True) ::
                (fun _ _ => True) ::
                (fun _ _ => True) ::
                (fun _ _ => True) ::
                (fun _ _ => True) ::
                (fun _ v => v = .bool false) ::
                (fun _ v => v = .bool false) :: [])
                (⟨[(12, none)], 0, []⟩ :: ⟨[(128, some 0)], 0, []⟩ :: ⟨[(0, none), (129, some 1)], 129, []⟩ :: ⟨[(13, none), (129, some 1)], 129, []⟩ :: ⟨[(130, some 2), (131, some 3), (129, some 1)], 129, []⟩ :: ⟨[(132, some 4), (129, some 1)], 129, []⟩ :: ⟨[(0, none), (129, some 1)], 129, []⟩ :: ⟨[(11, none), (129, some 1)], 129, []⟩ :: ⟨[(134, some 6), (135, some 7), (129, some 1)], 129, []⟩ :: ⟨[(136, some 8), (129, some 1)], 129, []⟩ :: ⟨[(133, some 5), (137, some 9), (129, some 1)], 129, []⟩ :: ⟨[(129, some 1), (138, some 10)], 0, []⟩ :: ⟨[(139, some 11)], 0, []⟩ :: [])
                (none :: none :: none :: none :: none :: none :: none :: none :: none :: none :: none :: none :: some 12 :: none :: none :: none :: none :: none :: none :: none :: none :: none :: none :: none :: none :: none :: none :: none :: none :: none :: none :: none :: none :: none :: none :: none :: none :: none :: none :: none :: none :: none :: none :: none :: none :: none :: none :: none :: none :: none :: none :: none :: none :: none :: none :: none :: none :: none :: none :: none :: none :: none :: none :: none :: none :: none :: none :: none :: none :: none :: none :: none :: none :: none :: none :: none :: none :: none :: none :: none :: none :: none :: none :: none :: none :: none :: none :: none :: none :: none :: none :: none :: none :: none :: none :: none :: none :: none :: none :: none :: none :: none :: none :: none :: none :: none :: none :: none :: none :: none :: none :: none :: none :: none :: none :: none :: none :: none :: none :: none :: none :: none :: none :: none :: none :: none :: none :: none :: some 0 :: some 1 :: some 2 :: some 3 :: some 4 :: some 5 :: some 6 :: some 7 :: some 8 :: some 9 :: some 10 :: some 11 :: [])
                (fun _ w' => Below wb.heap.size wb w') (fun _ w w' => Below w.heap.size w w') ?mixK29prefix29a2 ?okK29prefix29a2 ?tabK29prefix29a2 ?frK29prefix29a2 ?inK29prefix29a2 ?keptK29prefix29a2 ?startK29prefix29a2 ?eachK29prefix29a2 ?finK29prefix29a2
              case mixK29prefix29a2 => kernel_rfl
              case okK29prefix29a2 => kernel_rfl
              case tabK29prefix29a2 => kernel_rfl
              case frK29prefix29a2 => kernel_rfl
              case inK29prefix29a2 => rfl
              case keptK29prefix29a2 => exact ⟨fun _ _ _ _ _ _ _ h => h, fun _ _ _ _ _ _ _ h => h, fun _ _ _ => fun _ _ _ _ h => h, fun _ _ _ => fun _ _ _ _ h => h, fun _ _ _ => fun _ _ _ _ h => h, fun _ _ _ => fun _ _ _ _ h => h, fun _ _ _ => fun _ _ _ _ h => h, fun _ _ _ => fun _ _ _ _ h => h, fun _ _ _ => fun _ _ _ _ h => h, fun _ _ _ => fun _ _ _ _ h => h, fun _ _ _ => fun _ _ _ _ h => h, fun _ _ _ _ _ _ _ h => h, fun _ _ _ _ _ _ _ h => h, trivial⟩
              case startK29prefix29a2 => exact (Below.refl _ _).drew
              case eachK29prefix29a2 =>
                refine ⟨?_, ?_, ?_, ?_, ?_, ?_, ?_, ?_, ?_, ?_, ?_, ?_, ?_, trivial⟩
                -- 0: slot 128 := move t12
                · intro w L f hC hLi hLd hLn hF
                  obtain ⟨d12, _⟩ := hF
                  have d12 : f 12 = .bool false := d12
                  refine Step2.live rfl ?_
                  exact relUpon_value (v := f 12) rfl (hC) (Below.refl _ _) d12
                -- 1: slot 129 := move t128
                · intro w L f hC hLi hLd hLn hF
                  obtain ⟨d128, _⟩ := hF
                  have d128 : f 128 = .bool false := d128
                  refine Step2.live rfl ?_
                  exact relUpon_value (v := f 128) rfl (hC) (Below.refl _ _) d128
                -- 2: slot 130 := move t0
                · intro w L f hC hLi hLd hLn hF
                  obtain ⟨d0, d129, _⟩ := hF
                  have d0 : f 0 = .slice (some ⟨b, off, none⟩) n c := d0
                  have d129 : f 129 = .bool false := d129
                  refine Step2.dead (show wantedBy _ (f 129) = false by rw [d129]; rfl) (hC) ?_
                  trivial
                -- 3: slot 131 := move t13
                · intro w L f hC hLi hLd hLn hF
                  obtain ⟨d13, d129, _⟩ := hF
                  have d13 : f 13 = .int .i64 j := d13
                  have d129 : f 129 = .bool false := d129
                  refine Step2.dead (show wantedBy _ (f 129) = false by rw [d129]; rfl) (hC) ?_
                  trivial
                -- 4: slot 132 := indexAddr 43 t130 t131
                · intro w L f hC hLi hLd hLn hF
                  obtain ⟨d130, d131, d129, _⟩ := hF
                  have d129 : f 129 = .bool false := d129
                  refine Step2.dead (show wantedBy _ (f 129) = false by rw [d129]; rfl) (hC) ?_
                  trivial
                -- 5: slot 133 := load 9 t132
                · intro w L f hC hLi hLd hLn hF
                  obtain ⟨d132, d129, _⟩ := hF
                  have d129 : f 129 = .bool false := d129
                  refine Step2.dead (show wantedBy _ (f 129) = false by rw [d129]; rfl) (hC) ?_
                  trivial
                -- 6: slot 134 := move t0
                · intro w L f hC hLi hLd hLn hF
                  obtain ⟨d0, d129, _⟩ := hF
                  have d0 : f 0 = .slice (some ⟨b, off, none⟩) n c := d0
                  have d129 : f 129 = .bool false := d129
                  refine Step2.dead (show wantedBy _ (f 129) = false by rw [d129]; rfl) (hC) ?_
                  trivial
                -- 7: slot 135 := move t11
                · intro w L f hC hLi hLd hLn hF
                  obtain ⟨d11, d129, _⟩ := hF
                  have d11 : f 11 = .int .i64 i := d11
                  have d129 : f 129 = .bool false := d129
                  refine Step2.dead (show wantedBy _ (f 129) = false by rw [d129]; rfl) (hC) ?_
                  trivial
                -- 8: slot 136 := indexAddr 43 t134 t135
                · intro w L f hC hLi hLd hLn hF
                  obtain ⟨d134, d135, d129, _⟩ := hF
                  have d129 : f 129 = .bool false := d129
                  refine Step2.dead (show wantedBy _ (f 129) = false by rw [d129]; rfl) (hC) ?_
                  trivial
                -- 9: slot 137 := load 9 t136
                · intro w L f hC hLi hLd hLn hF
                  obtain ⟨d136, d129, _⟩ := hF
                  have d129 : f 129 = .bool false := d129
                  refine Step2.dead (show wantedBy _ (f 129) = false by rw [d129]; rfl) (hC) ?_
                  trivial
                -- 10: slot 138 := binOp BinOp.neq 9 t133 t137 9
                · intro w L f hC hLi hLd hLn hF
                  obtain ⟨d133, d137, d129, _⟩ := hF
                  have d129 : f 129 = .bool false := d129
                  refine Step2.dead (show wantedBy _ (f 129) = false by rw [d129]; rfl) (hC) ?_
                  trivial
                -- 11: slot 139 := pick t129 t138 (const (Value.bool false))
                · intro w L f hC hLi hLd hLn hF
                  obtain ⟨d129, d138, _⟩ := hF
                  have d129 : f 129 = .bool false := d129
                  refine Step2.live rfl ?_
                  have ev : ∀ t, evalOf f (.tmp t) = f t := fun _ => rfl
                  have ec : ∀ c, evalOf f (.const c) = c := fun _ => rfl
                  have ef : ∀ g, evalOf f (.func g) = .func (.func g) #[] #[] := fun _ => rfl
                  refine relUpon_value ?_ hC (Below.refl _ _) rfl
                  go_simp
                -- 12: slot 12 := assign t139
                · intro w L f hC hLi hLd hLn hF
                  obtain ⟨d139, _⟩ := hF
                  have d139 : f 139 = .bool false := d139
                  refine Step2.live rfl ?_
                  exact relUpon_value (v := f 139) rfl (hC) (Below.refl _ _) d139
              intro x w' hC hV

              have e12 := hV 12 _ rfl rfl
              clear hV
              simp only [framed]
              rw [e12]
              clear e12
              have hBk := Lib.hid (hBj.out.trans (hC.mono hBj.out.size))
              have hbk : Hid (false = true ↔ prefL p.data.toList y.data.toList = true ∧ y ∉ l.take (j + 1)) := Lib.hid (by
                rw [hstj.out]
                constructor
                · intro h; cases h
                · rintro ⟨h1, h2⟩
                  exact absurd (hbb.out.2 ⟨h1, fun h => h2 (List.mem_append_left _ h)⟩) (by simp))
              clear hC hx hy hBj hjn hin' hbb hstj
              go_wp2_with fail
              exact ⟨⟨j + 1, _, by omega, by simp, rfl, hbk, hBk⟩, by simp [intOf]; omega⟩
            case true =>
              by_cases hxe : x = y
              · have hyx : Hid (b < wb.heap.size ∧ wb.cell? ⟨b, off + i, none⟩ = some (.string x)) := Lib.hid (by rw [hxe]; exact hy.out)
                replace hy := hyx
                clear hyx
                go_wp2_with fail
                -- THE REGION THAT DRAWS ITS ORDER, BY ONE LEXICAL WALK OVER GENERIC VALUES (written by relgen.py)
                refine wp_region_tab ((fun _ v => v = .bool true) ::
                  (fun _ v => v = .bool true) ::
                  (fun _ v => v = .slice (some ⟨b, off, none⟩) n c) ::
                  (fun _ v => v = .int .i64 j) ::
                  (fun _ v => v = .pointer (some ⟨b, off + j, none⟩)) ::
                  (fun _ v => v = .string x) ::
                  (fun _ v => v = .slice (some ⟨b, off, none⟩) n c) ::
                  (fun _ v => v = .int .i64 i) ::
                  (fun _ v => v = .pointer (some ⟨b, off + i, none⟩)) ::
                  (fun _ v => v = .string x) ::
                  (fun _ v => v = .bool false) ::
                  (fun _ v => v = .bool false) ::
                  (fun _ v => v = .bool false) :: [])
                  (⟨[(12, none)], 0, []⟩ :: ⟨[(128, some 0)], 0, []⟩ :: ⟨[(0, none), (129, some 1)], 129, []⟩ :: ⟨[(13, none), (129, some 1)], 129, []⟩ :: ⟨[(130, some 2), (131, some 3), (129, some 1)], 129, []⟩ :: ⟨[(132, some 4), (129, some 1)], 129, []⟩ :: ⟨[(0, none), (129, some 1)], 129, []⟩ :: ⟨[(11, none), (129, some 1)], 129, []⟩ :: ⟨[(134, some 6), (135, some 7), (129, some 1)], 129, []⟩ :: ⟨[(136, some 8), (129, some 1)], 129, []⟩ :: ⟨[(133, some 5), (137, some 9), (129, some 1)], 129, []⟩ :: ⟨[(129, some 1), (138, some 10)], 0, []⟩ :: ⟨[(139, some 11)], 0, []⟩ :: [])
                  (none :: none :: none :: none :: none :: none :: none :: none :: none :: none :: none :: none :: some 12 :: none :: none :: none :: none :: none :: none :: none :: none :: none :: none :: none :: none :: none :: none :: none :: none :: none :: none :: none :: none :: none :: none :: none :: none :: none :: none :: none :: none :: none :: none :: none :: none :: none :: none :: none :: none :: none :: none :: none :: none :: none :: none :: none :: none :: none :: none :: none :: none :: none :: none :: none :: none :: none :: none :: none :: none :: none :: none :: none :: none :: none :: none :: none :: none :: none :: none :: none :: none :: none :: none :: none :: none :: none :: none :: none :: none :: none :: none :: none :: none :: none :: none :: none :: none :: none :: none :: none :: none :: none :: none :: none :: none :: none :: none :: none :: none :: none :: none :: none :: none :: none :: none :: none :: none :: none :: none :: none :: none :: none :: none :: none :: none :: none :: none :: none :: some 0 :: some 1 :: some 2 :: some 3 :: some 4 :: some 5 :: some 6 :: some 7 :: some 8 :: some 9 :: some 10 :: some 11 :: [])
                  (fun _ w' => Below wb.heap.size wb w') (fun _ w w' => Below w.heap.size w w') ?mixK29prefix29e2 ?okK29prefix29e2 ?tabK29prefix29e2 ?frK29prefix29e2 ?inK29prefix29e2 ?keptK29prefix29e2 ?startK29prefix29e2 ?eachK29prefix29e2 ?finK29prefix29e2
                case mixK29prefix29e2 => kernel_rfl
                case okK29prefix29e2 => kernel_rfl
                case tabK29prefix29e2 => kernel_rfl
                case frK29prefix29e2 => kernel_rfl
                case inK29prefix29e2 => rfl
                case keptK29prefix29e2 => exact ⟨fun _ _ _ _ _ _ _ h => h, fun _ _ _ _ _ _ _ h => h, fun _ _ _ _ _ _ _ h => h, fun _ _ _ _ _ _ _ h => h, fun _ _ _ _ _ _ _ h => h, fun _ _ _ _ _ _ _ h => h, fun _ _ _ _ _ _ _ h => h, fun _ _ _ _ _ _ _ h => h, fun _ _ _ _ _ _ _ h => h, fun _ _ _ _ _ _ _ h => h, fun _ _ _ _ _ _ _ h => h, fun _ _ _ _ _ _ _ h => h, fun _ _ _ _ _ _ _ h => h, trivial⟩
                case startK29prefix29e2 => exact (Below.refl _ _).drew
                case eachK29prefix29e2 =>
                  refine ⟨?_, ?_, ?_, ?_, ?_, ?_, ?_, ?_, ?_, ?_, ?_, ?_, ?_, trivial⟩
                  -- 0: slot 128 := move t12
                  · intro w L f hC hLi hLd hLn hF
                    obtain ⟨d12, _⟩ := hF
                    have d12 : f 12 = .bool true := d12
                    refine Step2.live rfl ?_
                    exact relUpon_value (v := f 12) rfl (hC) (Below.refl _ _) d12
                  -- 1: slot 129 := move t128
                  · intro w L f hC hLi hLd hLn hF
                    obtain ⟨d128, _⟩ := hF
                    have d128 : f 128 = .bool true := d128
                    refine Step2.live rfl ?_
                    exact relUpon_value (v := f 128) rfl (hC) (Below.refl _ _) d128
                  -- 2: slot 130 := move t0
                  · intro w L f hC hLi hLd hLn hF
                    obtain ⟨d0, d129, _⟩ := hF
                    have d0 : f 0 = .slice (some ⟨b, off, none⟩) n c := d0
                    have d129 : f 129 = .bool true := d129
                    refine Step2.live (show wantedBy _ (f 129) = true by rw [d129]; rfl) ?_
                    exact relUpon_value (v := f 0) rfl (hC) (Below.refl _ _) d0
                  -- 3: slot 131 := move t13
                  · intro w L f hC hLi hLd hLn hF
                    obtain ⟨d13, d129, _⟩ := hF
                    have d13 : f 13 = .int .i64 j := d13
                    have d129 : f 129 = .bool true := d129
                    refine Step2.live (show wantedBy _ (f 129) = true by rw [d129]; rfl) ?_
                    exact relUpon_value (v := f 13) rfl (hC) (Below.refl _ _) d13
                  -- 4: slot 132 := indexAddr 43 t130 t131
                  · intro w L f hC hLi hLd hLn hF
                    obtain ⟨d130, d131, d129, _⟩ := hF
                    have d130 : f 130 = .slice (some ⟨b, off, none⟩) n c := d130
                    have d131 : f 131 = .int .i64 j := d131
                    have d129 : f 129 = .bool true := d129
                    refine Step2.live (show wantedBy _ (f 129) = true by rw [d129]; rfl) ?_
                    have h1 := hjn.out
                    have ev : ∀ t, evalOf f (.tmp t) = f t := fun _ => rfl
                    have ec : ∀ c, evalOf f (.const c) = c := fun _ => rfl
                    have ef : ∀ g, evalOf f (.func g) = .func (.func g) #[] #[] := fun _ => rfl
                    refine relUpon_value ?_ hC (Below.refl _ _) rfl
                    go_simp
                  -- 5: slot 133 := load 9 t132
                  · intro w L f hC hLi hLd hLn hF
                    obtain ⟨d132, d129, _⟩ := hF
                    have d132 : f 132 = .pointer (some ⟨b, off + j, none⟩) := d132
                    have d129 : f 129 = .bool true := d129
                    refine Step2.live (show wantedBy _ (f 129) = true by rw [d129]; rfl) ?_
                    have f0 := (hC.cell (p := ⟨b, _, none⟩) hx.out.1).trans hx.out.2
                    have ev : ∀ t, evalOf f (.tmp t) = f t := fun _ => rfl
                    have ec : ∀ c, evalOf f (.const c) = c := fun _ => rfl
                    have ef : ∀ g, evalOf f (.func g) = .func (.func g) #[] #[] := fun _ => rfl
                    refine relUpon_value ?_ hC (Below.refl _ _) rfl
                    go_simp
                  -- 6: slot 134 := move t0
                  · intro w L f hC hLi hLd hLn hF
                    obtain ⟨d0, d129, _⟩ := hF
                    have d0 : f 0 = .slice (some ⟨b, off, none⟩) n c := d0
                    have d129 : f 129 = .bool true := d129
                    refine Step2.live (show wantedBy _ (f 129) = true by rw [d129]; rfl) ?_
                    exact relUpon_value (v := f 0) rfl (hC) (Below.refl _ _) d0
                  -- 7: slot 135 := move t11
                  · intro w L f hC hLi hLd hLn hF
                    obtain ⟨d11, d129, _⟩ := hF
                    have d11 : f 11 = .int .i64 i := d11
                    have d129 : f 129 = .bool true := d129
                    refine Step2.live (show wantedBy _ (f 129) = true by rw [d129]; rfl) ?_
                    exact relUpon_value (v := f 11) rfl (hC) (Below.refl _ _) d11
                  -- 8: slot 136 := indexAddr 43 t134 t135
                  · intro w L f hC hLi hLd hLn hF
                    obtain ⟨d134, d135, d129, _⟩ := hF
                    have d134 : f 134 = .slice (some ⟨b, off, none⟩) n c := d134
                    have d135 : f 135 = .int .i64 i := d135
                    have d129 : f 129 = .bool true := d129
                    refine Step2.live (show wantedBy _ (f 129) = true by rw [d129]; rfl) ?_
                    have h1 := hin'.out
                    have ev : ∀ t, evalOf f (.tmp t) = f t := fun _ => rfl
                    have ec : ∀ c, evalOf f (.const c) = c := fun _ => rfl
                    have ef : ∀ g, evalOf f (.func g) = .func (.func g) #[] #[] := fun _ => rfl
                    refine relUpon_value ?_ hC (Below.refl _ _) rfl
                    go_simp
                  -- 9: slot 137 := load 9 t136
                  · intro w L f hC hLi hLd hLn hF
                    obtain ⟨d136, d129, _⟩ := hF
                    have d136 : f 136 = .pointer (some ⟨b, off + i, none⟩) := d136
                    have d129 : f 129 = .bool true := d129
                    refine Step2.live (show wantedBy _ (f 129) = true by rw [d129]; rfl) ?_
                    have f0 := (hC.cell (p := ⟨b, _, none⟩) hy.out.1).trans hy.out.2
                    have ev : ∀ t, evalOf f (.tmp t) = f t := fun _ => rfl
                    have ec : ∀ c, evalOf f (.const c) = c := fun _ => rfl
                    have ef : ∀ g, evalOf f (.func g) = .func (.func g) #[] #[] := fun _ => rfl
                    refine relUpon_value ?_ hC (Below.refl _ _) rfl
                    go_simp
                  -- 10: slot 138 := binOp BinOp.neq 9 t133 t137 9
                  · intro w L f hC hLi hLd hLn hF
                    obtain ⟨d133, d137, d129, _⟩ := hF
                    have d133 : f 133 = .string x := d133
                    have d137 : f 137 = .string x := d137
                    have d129 : f 129 = .bool true := d129
                    refine Step2.live (show wantedBy _ (f 129) = true by rw [d129]; rfl) ?_
                    have ev : ∀ t, evalOf f (.tmp t) = f t := fun _ => rfl
                    have ec : ∀ c, evalOf f (.const c) = c := fun _ => rfl
                    have ef : ∀ g, evalOf f (.func g) = .func (.func g) #[] #[] := fun _ => rfl
                    refine relUpon_value ?_ hC (Below.refl _ _) rfl
                    go_simp
                  -- 11: slot 139 := pick t129 t138 (const (Value.bool false))
                  · intro w L f hC hLi hLd hLn hF
                    obtain ⟨d129, d138, _⟩ := hF
                    have d129 : f 129 = .bool true := d129
                    have d138 : f 138 = .bool false := d138
                    refine Step2.live rfl ?_
                    have ev : ∀ t, evalOf f (.tmp t) = f t := fun _ => rfl
                    have ec : ∀ c, evalOf f (.const c) = c := fun _ => rfl
                    have ef : ∀ g, evalOf f (.func g) = .func (.func g) #[] #[] := fun _ => rfl
                    refine relUpon_value ?_ hC (Below.refl _ _) rfl
                    go_simp
                  -- 12: slot 12 := assign t139
                  · intro w L f hC hLi hLd hLn hF
                    obtain ⟨d139, _⟩ := hF
                    have d139 : f 139 = .bool false := d139
                    refine Step2.live rfl ?_
                    exact relUpon_value (v := f 139) rfl (hC) (Below.refl _ _) d139
                intro x w' hC hV

                have e12 := hV 12 _ rfl rfl
                clear hV
                simp only [framed]
                rw [e12]
                clear e12
                have hBk := Lib.hid (hBj.out.trans (hC.mono hBj.out.size))
                have hbk : Hid (false = true ↔ prefL p.data.toList y.data.toList = true ∧ y ∉ l.take (j + 1)) := Lib.hid (by
                  rw [hstj.out]
                  constructor
                  · intro h; cases h
                  · rintro ⟨_, h2⟩
                    exact absurd (List.mem_append_right _ (List.mem_singleton.2 hxe.symm)) h2)
                clear hC hx hy hBj hjn hin' hbb hstj
                go_wp2_with fail
                exact ⟨⟨j + 1, _, by omega, by simp, rfl, hbk, hBk⟩, by simp [intOf]; omega⟩
              · have hxy : Hid ((x.toList == y.toList) = false) := Lib.hid (bytes_ne hxe)
                go_wp2_with fail
                -- THE REGION THAT DRAWS ITS ORDER, BY ONE LEXICAL WALK OVER GENERIC VALUES (written by relgen.py)
                refine wp_region_tab ((fun _ v => v = .bool true) ::
                  (fun _ v => v = .bool true) ::
                  (fun _ v => v = .slice (some ⟨b, off, none⟩) n c) ::
                  (fun _ v => v = .int .i64 j) ::
                  (fun _ v => v = .pointer (some ⟨b, off + j, none⟩)) ::
                  (fun _ v => v = .string x) ::
                  (fun _ v => v = .slice (some ⟨b, off, none⟩) n c) ::
                  (fun _ v => v = .int .i64 i) ::
                  (fun _ v => v = .pointer (some ⟨b, off + i, none⟩)) ::
                  (fun _ v => v = .string y) ::
                  (fun _ v => v = .bool true) ::
                  (fun _ v => v = .bool true) ::
                  (fun _ v => v = .bool true) :: [])
                  (⟨[(12, none)], 0, []⟩ :: ⟨[(128, some 0)], 0, []⟩ :: ⟨[(0, none), (129, some 1)], 129, []⟩ :: ⟨[(13, none), (129, some 1)], 129, []⟩ :: ⟨[(130, some 2), (131, some 3), (129, some 1)], 129, []⟩ :: ⟨[(132, some 4), (129, some 1)], 129, []⟩ :: ⟨[(0, none), (129, some 1)], 129, []⟩ :: ⟨[(11, none), (129, some 1)], 129, []⟩ :: ⟨[(134, some 6), (135, some 7), (129, some 1)], 129, []⟩ :: ⟨[(136, some 8), (129, some 1)], 129, []⟩ :: ⟨[(133, some 5), (137, some 9), (129, some 1)], 129, []⟩ :: ⟨[(129, some 1), (138, some 10)], 0, []⟩ :: ⟨[(139, some 11)], 0, []⟩ :: [])
                  (none :: none :: none :: none :: none :: none :: none :: none :: none :: none :: none :: none :: some 12 :: none :: none :: none :: none :: none :: none :: none :: none :: none :: none :: none :: none :: none :: none :: none :: none :: none :: none :: none :: none :: none :: none :: none :: none :: none :: none :: none :: none :: none :: none :: none :: none :: none :: none :: none :: none :: none :: none :: none :: none :: none :: none :: none :: none :: none :: none :: none :: none :: none :: none :: none :: none :: none :: none :: none :: none :: none :: none :: none :: none :: none :: none :: none :: none :: none :: none :: none :: none :: none :: none :: none :: none :: none :: none :: none :: none :: none :: none :: none :: none :: none :: none :: none :: none :: none :: none :: none :: none :: none :: none :: none :: none :: none :: none :: none :: none :: none :: none :: none :: none :: none :: none :: none :: none :: none :: none :: none :: none :: none :: none :: none :: none :: none :: none :: none :: some 0 :: some 1 :: some 2 :: some 3 :: some 4 :: some 5 :: some 6 :: some 7 :: some 8 :: some 9 :: some 10 :: some 11 :: [])
                  (fun _ w' => Below wb.heap.size wb w') (fun _ w w' => Below w.heap.size w w') ?mixK29prefix29t2 ?okK29prefix29t2 ?tabK29prefix29t2 ?frK29prefix29t2 ?inK29prefix29t2 ?keptK29prefix29t2 ?startK29prefix29t2 ?eachK29prefix29t2 ?finK29prefix29t2
                case mixK29prefix29t2 => kernel_rfl
                case okK29prefix29t2 => kernel_rfl
                case tabK29prefix29t2 => kernel_rfl
                case frK29prefix29t2 => kernel_rfl
                case inK29prefix29t2 => rfl
                case keptK29prefix29t2 => exact ⟨fun _ _ _ _ _ _ _ h => h, fun _ _ _ _ _ _ _ h => h, fun _ _ _ _ _ _ _ h => h, fun _ _ _ _ _ _ _ h => h, fun _ _ _ _ _ _ _ h => h, fun _ _ _ _ _ _ _ h => h, fun _ _ _ _ _ _ _ h => h, fun _ _ _ _ _ _ _ h => h, fun _ _ _ _ _ _ _ h => h, fun _ _ _ _ _ _ _ h => h, fun _ _ _ _ _ _ _ h => h, fun _ _ _ _ _ _ _ h => h, fun _ _ _ _ _ _ _ h => h, trivial⟩
                case startK29prefix29t2 => exact (Below.refl _ _).drew
                case eachK29prefix29t2 =>
                  refine ⟨?_, ?_, ?_, ?_, ?_, ?_, ?_, ?_, ?_, ?_, ?_, ?_, ?_, trivial⟩
                  -- 0: slot 128 := move t12
                  · intro w L f hC hLi hLd hLn hF
                    obtain ⟨d12, _⟩ := hF
                    have d12 : f 12 = .bool true := d12
                    refine Step2.live rfl ?_
                    exact relUpon_value (v := f 12) rfl (hC) (Below.refl _ _) d12
                  -- 1: slot 129 := move t128
                  · intro w L f hC hLi hLd hLn hF
                    obtain ⟨d128, _⟩ := hF
                    have d128 : f 128 = .bool true := d128
                    refine Step2.live rfl ?_
                    exact relUpon_value (v := f 128) rfl (hC) (Below.refl _ _) d128
                  -- 2: slot 130 := move t0
                  · intro w L f hC hLi hLd hLn hF
                    obtain ⟨d0, d129, _⟩ := hF
                    have d0 : f 0 = .slice (some ⟨b, off, none⟩) n c := d0
                    have d129 : f 129 = .bool true := d129
                    refine Step2.live (show wantedBy _ (f 129) = true by rw [d129]; rfl) ?_
                    exact relUpon_value (v := f 0) rfl (hC) (Below.refl _ _) d0
                  -- 3: slot 131 := move t13
                  · intro w L f hC hLi hLd hLn hF
                    obtain ⟨d13, d129, _⟩ := hF
                    have d13 : f 13 = .int .i64 j := d13
                    have d129 : f 129 = .bool true := d129
                    refine Step2.live (show wantedBy _ (f 129) = true by rw [d129]; rfl) ?_
                    exact relUpon_value (v := f 13) rfl (hC) (Below.refl _ _) d13
                  -- 4: slot 132 := indexAddr 43 t130 t131
                  · intro w L f hC hLi hLd hLn hF
                    obtain ⟨d130, d131, d129, _⟩ := hF
                    have d130 : f 130 = .slice (some ⟨b, off, none⟩) n c := d130
                    have d131 : f 131 = .int .i64 j := d131
                    have d129 : f 129 = .bool true := d129
                    refine Step2.live (show wantedBy _ (f 129) = true by rw [d129]; rfl) ?_
                    have h1 := hjn.out
                    have ev : ∀ t, evalOf f (.tmp t) = f t := fun _ => rfl
                    have ec : ∀ c, evalOf f (.const c) = c := fun _ => rfl
                    have ef : ∀ g, evalOf f (.func g) = .func (.func g) #[] #[] := fun _ => rfl
                    refine relUpon_value ?_ hC (Below.refl _ _) rfl
                    go_simp
                  -- 5: slot 133 := load 9 t132
                  · intro w L f hC hLi hLd hLn hF
                    obtain ⟨d132, d129, _⟩ := hF
                    have d132 : f 132 = .pointer (some ⟨b, off + j, none⟩) := d132
                    have d129 : f 129 = .bool true := d129
                    refine Step2.live (show wantedBy _ (f 129) = true by rw [d129]; rfl) ?_
                    have f0 := (hC.cell (p := ⟨b, _, none⟩) hx.out.1).trans hx.out.2
                    have ev : ∀ t, evalOf f (.tmp t) = f t := fun _ => rfl
                    have ec : ∀ c, evalOf f (.const c) = c := fun _ => rfl
                    have ef : ∀ g, evalOf f (.func g) = .func (.func g) #[] #[] := fun _ => rfl
                    refine relUpon_value ?_ hC (Below.refl _ _) rfl
                    go_simp
                  -- 6: slot 134 := move t0
                  · intro w L f hC hLi hLd hLn hF
                    obtain ⟨d0, d129, _⟩ := hF
                    have d0 : f 0 = .slice (some ⟨b, off, none⟩) n c := d0
                    have d129 : f 129 = .bool true := d129
                    refine Step2.live (show wantedBy _ (f 129) = true by rw [d129]; rfl) ?_
                    exact relUpon_value (v := f 0) rfl (hC) (Below.refl _ _) d0
                  -- 7: slot 135 := move t11
                  · intro w L f hC hLi hLd hLn hF
                    obtain ⟨d11, d129, _⟩ := hF
                    have d11 : f 11 = .int .i64 i := d11
                    have d129 : f 129 = .bool true := d129
                    refine Step2.live (show wantedBy _ (f 129) = true by rw [d129]; rfl) ?_
                    exact relUpon_value (v := f 11) rfl (hC) (Below.refl _ _) d11
                  -- 8: slot 136 := indexAddr 43 t134 t135
                  · intro w L f hC hLi hLd hLn hF
                    obtain ⟨d134, d135, d129, _⟩ := hF
                    have d134 : f 134 = .slice (some ⟨b, off, none⟩) n c := d134
                    have d135 : f 135 = .int .i64 i := d135
                    have d129 : f 129 = .bool true := d129
                    refine Step2.live (show wantedBy _ (f 129) = true by rw [d129]; rfl) ?_
                    have h1 := hin'.out
                    have ev : ∀ t, evalOf f (.tmp t) = f t := fun _ => rfl
                    have ec : ∀ c, evalOf f (.const c) = c := fun _ => rfl
                    have ef : ∀ g, evalOf f (.func g) = .func (.func g) #[] #[] := fun _ => rfl
                    refine relUpon_value ?_ hC (Below.refl _ _) rfl
                    go_simp
                  -- 9: slot 137 := load 9 t136
                  · intro w L f hC hLi hLd hLn hF
                    obtain ⟨d136, d129, _⟩ := hF
                    have d136 : f 136 = .pointer (some ⟨b, off + i, none⟩) := d136
                    have d129 : f 129 = .bool true := d129
                    refine Step2.live (show wantedBy _ (f 129) = true by rw [d129]; rfl) ?_
                    have f0 := (hC.cell (p := ⟨b, _, none⟩) hy.out.1).trans hy.out.2
                    have ev : ∀ t, evalOf f (.tmp t) = f t := fun _ => rfl
                    have ec : ∀ c, evalOf f (.const c) = c := fun _ => rfl
                    have ef : ∀ g, evalOf f (.func g) = .func (.func g) #[] #[] := fun _ => rfl
                    refine relUpon_value ?_ hC (Below.refl _ _) rfl
                    go_simp
                  -- 10: slot 138 := binOp BinOp.neq 9 t133 t137 9
                  · intro w L f hC hLi hLd hLn hF
                    obtain ⟨d133, d137, d129, _⟩ := hF
                    have d133 : f 133 = .string x := d133
                    have d137 : f 137 = .string y := d137
                    have d129 : f 129 = .bool true := d129
                    refine Step2.live (show wantedBy _ (f 129) = true by rw [d129]; rfl) ?_
                    have h1 := hxy.out
                    have ev : ∀ t, evalOf f (.tmp t) = f t := fun _ => rfl
                    have ec : ∀ c, evalOf f (.const c) = c := fun _ => rfl
                    have ef : ∀ g, evalOf f (.func g) = .func (.func g) #[] #[] := fun _ => rfl
                    refine relUpon_value ?_ hC (Below.refl _ _) rfl
                    go_simp
                  -- 11: slot 139 := pick t129 t138 (const (Value.bool false))
                  · intro w L f hC hLi hLd hLn hF
                    obtain ⟨d129, d138, _⟩ := hF
                    have d129 : f 129 = .bool true := d129
                    have d138 : f 138 = .bool true := d138
                    refine Step2.live rfl ?_
                    have ev : ∀ t, evalOf f (.tmp t) = f t := fun _ => rfl
                    have ec : ∀ c, evalOf f (.const c) = c := fun _ => rfl
                    have ef : ∀ g, evalOf f (.func g) = .func (.func g) #[] #[] := fun _ => rfl
                    refine relUpon_value ?_ hC (Below.refl _ _) rfl
                    go_simp
                  -- 12: slot 12 := assign t139
                  · intro w L f hC hLi hLd hLn hF
                    obtain ⟨d139, _⟩ := hF
                    have d139 : f 139 = .bool true := d139
                    refine Step2.live rfl ?_
                    exact relUpon_value (v := f 139) rfl (hC) (Below.refl _ _) d139
                intro x w' hC hV

                have e12 := hV 12 _ rfl rfl
                clear hV
                simp only [framed]
                rw [e12]
                clear e12
                have hBk := Lib.hid (hBj.out.trans (hC.mono hBj.out.size))
                have hbk : Hid (true = true ↔ prefL p.data.toList y.data.toList = true ∧ y ∉ l.take (j + 1)) := Lib.hid (by
                  rw [hstj.out]
                  have h := hbb.out.1 (by first | trivial | rfl)
                  refine ⟨fun _ => ⟨h.1, fun h2 => ?_⟩, fun _ => rfl⟩
                  rcases List.mem_append.1 h2 with h2 | h2
                  · exact h.2 h2
                  · exact hxe (List.mem_singleton.1 h2).symm)
                clear hC hx hy hBj hjn hin' hbb hstj hxy
                go_wp2_with fail
                exact ⟨⟨j + 1, _, by omega, by simp, rfl, hbk, hBk⟩, by simp [intOf]; omega⟩
          · obtain rfl : i = j := by omega
            have hjii : ¬ (i : Int) < (i : Int) := by omega
            have hBk := Lib.hid (hBo.out.trans (hBj.out.mono hBo.out.size))
            have hBz := Lib.hid (hBx.out.trans (hBj.out.mono hBx.out.size))
            have hfr8 := Lib.hid (hfr6.out.below hBz.out)
            have hcell2 := (hBj.out.cell (p := ⟨b, _, none⟩) hbo).trans hcell
            have hFy : preF l y = some ⟨#[]⟩ := by unfold preF; rw [if_pos hyl.out]
            have hgt := stget_any wr hfr8.out y (by omega)
            rw [hFy] at hgt
            simp only [Option.getD_some, Option.isSome_some] at hgt
            clear hFy hBj hcell
            cases bb
            case false =>
              have hDn : Hid (Firsts p (l.take (i + 1)) D) := Lib.hid (by
                rw [hst.out]
                refine hD.out.no ?_
                cases h : prefL p.data.toList y.data.toList with
                | false => exact .inl rfl
                | true =>
                  right
                  refine Classical.byContradiction fun h2 => ?_
                  exact absurd (hbb.out.2 ⟨h, h2⟩) (by simp))
              clear hbb
              go_wp2_with fail
              refine hgt.mono ?_
              clear hgt
              rintro e w9 ⟨rfl, hb9⟩
              have hB9 := Lib.hid (hBz.out.trans (hb9.mono hBz.out.size))
              clear hb9 hBz hfr8 hcell2
              go_wp2_with fail
              exact ⟨⟨i + 1, D, by omega, by simp, by rw [← hdl'.out], by have := hdl'.out; omega, hDn, hB9⟩, by simp [intOf]; omega⟩
            case true =>
              have hDn : Hid (Firsts p (l.take (i + 1)) (D ++ [y])) := Lib.hid (by
                rw [hst.out]
                have h := hbb.out.1 (by first | trivial | rfl)
                exact hD.out.yes h.1 h.2)
              have hdn : Hid ((D ++ [y]).length = dl + 1) := Lib.hid (by rw [List.length_append, ← hdl'.out]; rfl)
              have hdw : IntKind.i64.wrap ((dl : Int) + 1) = ((dl + 1 : Nat) : Int) := by rw [IntWalk.i64_in _ (by omega)]; omega
              clear hbb
              go_wp2_with fail
              refine hgt.mono ?_
              clear hgt
              rintro e w9 ⟨rfl, hb9⟩
              have hB9 := Lib.hid (hBz.out.trans (hb9.mono hBz.out.size))
              clear hb9 hBz hfr8 hcell2
              go_wp2_with fail
              exact ⟨⟨i + 1, D ++ [y], by omega, by simp, by rw [hdn.out]; simp, by rw [hdn.out]; omega, hDn, hB9⟩, by simp [intOf]; omega⟩
      · obtain rfl : n = i := by omega
        have hii : ¬ (n : Int) < (n : Int) := by omega
        have hcn : ((t : Int) == (dl : Int)) = true := by
          have h1 := hD.out
          rw [List.take_of_length_le (by rw [hl.out]; exact Nat.le_refl _)] at h1
          have h2 := firsts_keys h1 hks.out
          have h3 := hnk'.out
          have h4 := hdl'.out
          simp
          omega
        go_wp2_with fail
        go_ret
        exact ⟨rfl, hBo.out⟩
end Go.Proofs.YtelglbblgkhcmaaGreat
