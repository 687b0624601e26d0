/-
  The walk of Crash.
-/
import Derived.Test.YtelglbblgkhcmaaGreatDkG
import Derived.Test.YtelglbblgkhcmaaGreatDkE
import Derived.Test.YtelglbblgkhcmaaGreatDkR
namespace Go.Proofs.YtelglbblgkhcmaaGreat
open Go.RowKit Go.Deep

/-- What a sector's bytes are behind a crash: the k-th of those that were not sure. -/
def crashB (q : DR) (keep : Nat) (torn : Int) (a k : Nat) (i : Int) : List UInt8 :=
  if (k : Int) = torn then (q.last i).take a ++ (q.safe i).drop a
  else if keep / 2 ^ (k % 64) % 2 = 1 then q.last i else q.safe i
theorem crashB_len {q : DR} {w : World} (h : DiskP q w) (keep : Nat) (torn : Int) (a k : Nat) (i : Int) (ha : a ≤ q.size) : (crashB q keep torn a k i).length = q.size := by
  have h1 := h.last_len i
  have h2 := h.safe_len i
  unfold crashB
  split
  · simp [h1, h2]; omega
  · split <;> assumption
/-- A disk behind a crash: kp is what the sectors that were not sure hold. -/
def DR.crashed (q : DR) (mk : Nat) (kp : Int → Option Pay) : DR := { q with mw := mk, dur := fun j => match kp j with | some p => some p | none => q.dur j, wr := fun _ => none, dead := false, cut := false, left := 0 }
/-- How far the loop of Crash has come. -/
structure CrashL (q : DR) (w : World) (keep : Nat) (torn : Int) (a : Nat) (ks : List Int) (mk k : Nat) (kp : Int → Option Pay) (wr : World) : Prop where
  bel : Below w.heap.size w wr
  map : IMap wr mk (fun j => (kp j).map Pay.val)
  pay : ∀ j p, kp j = some p → PayAt wr p ∧ p.l.length = q.size ∧ p.l.length ≤ p.c ∧ (∀ x, blk p.A = some x → w.heap.size ≤ x) ∧ ∃ (m : Nat) (hm : m < ks.length), m < k ∧ ks[m] = j ∧ p.l = crashB q keep torn a m j
  all : ∀ (m : Nat) (hm : m < ks.length), m < k → kp ks[m] ≠ none
  low : w.heap.size ≤ mk

theorem and1_u64 (n : Nat) (h : n < 18446744073709551616) : bits .and .u64 (n : Int) 1 = ((n % 2 : Nat) : Int) := by
  have := u64_and_nat n 1 h (by omega)
  rw [nat_mask1] at this
  exact this
set_option maxRecDepth 100000 in
set_option maxHeartbeats 1000000 in
theorem keep_bit (keep k : Nat) (h : keep < 18446744073709551616) : (bits .and .u64 ((keep : Int) / 2 ^ (k % 64)) 1 == 1) = decide (keep / 2 ^ (k % 64) % 2 = 1) := by
  have e : (keep : Int) / 2 ^ (k % 64) = ((keep / 2 ^ (k % 64) : Nat) : Int) := by simp
  rw [e, and1_u64 _ (Nat.lt_of_le_of_lt (Nat.div_le_self _ _) h)]
  rw [Bool.eq_iff_iff]
  simp
  omega
theorem crashB_all {q : DR} {keep a k : Nat} {torn : Int} {i : Int} {p : Pay} (hl : q.last i = p.l) (hp : p.l.length = (q.safe i).length) (ht : ¬ (k : Int) = torn) (hb : keep / 2 ^ (k % 64) % 2 = 1) : splice (q.safe i) 0 p.l = crashB q keep torn a k i := by
  unfold crashB
  rw [if_neg ht, if_pos hb, hl, splice_full _ _ hp.symm]
theorem crashB_none {q : DR} {keep a k : Nat} {torn : Int} {i : Int} (ht : ¬ (k : Int) = torn) (hb : ¬ keep / 2 ^ (k % 64) % 2 = 1) : crashB q keep torn a k i = q.safe i := by
  unfold crashB
  rw [if_neg ht, if_neg hb]
/-- Cells stay while only new blocks and a map are written. -/
theorem RowAt.step {w w3 w4 w5 : World} {A : Option Addr} {vs : List Value} (h : RowAt w A vs) (h3 : Below w.heap.size w w3) {g m : Nat} (h4 : w3.grownBy w4 (some g)) (hg : w.heap.size ≤ g) {f : Int → Option Value} (hm : IMap w4 m f) (h5 : w4.grownBy w5 (some m)) : RowAt w5 A vs := by
  have h4' : RowAt w4 A vs := fun hn => by
    obtain ⟨b, off, e, hc⟩ := h hn
    refine ⟨b, off, e, fun j u hu => ?_⟩
    have hlt := cell_lt (hc j u hu)
    rw [← hc j u hu]
    exact (World.cell?_of_block (h4.block b (Nat.lt_of_lt_of_le hlt h3.size) (by intro e; injection e with e; omega))).trans (World.cell?_of_block (h3.block b hlt))
  exact h4'.keepMap hm h5
theorem CrashL.step {q : DR} {w wr w3 w4 w5 : World} {keep : Nat} {torn : Int} {a : Nat} {ks : List Int} {mk k g cap : Nat} {kp : Int → Option Pay} (hC : CrashL q w keep torn a ks mk k kp wr) (hk : k < ks.length) (hq : DiskP q w) (ham : a ≤ q.size) {i : Int} (hi : i = ks[k])
    (h3 : Below wr.heap.size wr w3) (h4 : w3.grownBy w4 (some g)) (hb : Buf w4 wr.heap.size g cap (crashB q keep torn a k i)) (hm : IMap w4 mk (fun j => (kp j).map Pay.val)) (h5m : IMap w5 mk (fun j => if j = i then some (.slice (some ⟨g, 0, none⟩) q.size cap) else (kp j).map Pay.val)) (h5 : w4.grownBy w5 (some mk)) :
    CrashL q w keep torn a ks mk (k + 1) (fun j => if j = i then some ⟨some ⟨g, 0, none⟩, cap, crashB q keep torn a k i⟩ else kp j) w5 := by
  have hl := crashB_len hq keep torn a k i ham
  obtain ⟨cur, hgB, _, hcap, _⟩ := hb.parts
  have hs := hC.bel.size
  have hs1 := hq.s1
  refine ⟨?_, ?_, fun j p hp => ?_, fun m hm' hlt => ?_, hC.low⟩
  · exact ((hC.bel.trans (h3.mono hs)).trans ((Writes.of_grown h4 (M := [some g]) (by simp)).below (Nat.le_trans hs h3.size) (fun j hj => by simp at hj; omega))).trans ((Writes.of_grown h5 (M := [some mk]) (by simp)).below (Nat.le_trans hs (Nat.le_trans h3.size h4.size)) (fun j hj => by simp at hj; have := hC.low; omega))
  · have e : (fun j => Option.map Pay.val (if j = i then some (⟨some ⟨g, 0, none⟩, cap, crashB q keep torn a k i⟩ : Pay) else kp j)) = fun j => if j = i then some (.slice (some ⟨g, 0, none⟩) q.size cap) else (kp j).map Pay.val := by
      funext j
      by_cases e : j = i
      · simp [e, Pay.val, hl]
      · simp [e]
    rw [e]
    exact h5m
  · by_cases e : j = i
    · rw [if_pos e] at hp
      injection hp with hp
      subst hp
      exact ⟨hb.rowAt.keepMap hm h5, hl, hcap, fun x hx => by simp [blk] at hx; omega, k, hk, by omega, by rw [e, hi], by rw [e]⟩
    · rw [if_neg e] at hp
      obtain ⟨h1, h2, h6, h7, m, hm1, hm2, hm3, hm4⟩ := hC.pay j p hp
      exact ⟨RowAt.step h1 h3 h4 hgB hm h5, h2, h6, h7, m, hm1, by omega, hm3, hm4⟩
  · by_cases e : ks[m] = i
    · rw [if_pos e]; simp
    · rw [if_neg e]
      refine hC.all m hm' ?_
      rcases Nat.lt_or_ge m k with h | h
      · exact h
      · obtain rfl : m = k := by omega
        exact absurd hi.symm e
theorem crashB_torn {q : DR} {keep a k : Nat} {i : Int} {p : Pay} (hl : q.last i = p.l) (hp : p.l.length = q.size) (ha : a ≤ q.size) : splice (q.safe i) 0 (p.l.take a) = crashB q keep k a k i := by
  unfold crashB splice
  rw [if_pos rfl, hl, List.take_zero, List.nil_append, List.length_take, hp, Nat.min_eq_left ha, Nat.zero_add]

/-- The loop's end: what was kept takes the place of what was written. -/
theorem CrashL.fin {q : DR} {w wr : World} {keep : Nat} {torn : Int} {a : Nat} {ks : List Int} {mk : Nat} {kp : Int → Option Pay} (hC : CrashL q w keep torn a ks mk ks.length kp wr) (h : DiskP q w) (hks : KeysOf (fun k => (q.wr k).map Pay.val) ks) :
    DStep q w { q with mw := mk, wr := kp } (wr.setCell ⟨q.g, 3, none⟩ (.map (some mk))) := by
  have hw := h.below hC.bel
  have hs := hC.bel.size
  have hst := Writes.store wr (M := [some q.g]) (p := ⟨q.g, 3, none⟩) (by simp) (.map (some mk))
  obtain ⟨n1, n2⟩ := hw.md_ne
  have hgl := h.hold.lt
  have hmd := h.md.lt
  have hlow := hC.low
  refine ⟨((Writes.of_below hC.bel _).trans hst).more (by simp), ⟨?_, hw.md.loc (hst.block _ hw.md.lt (by simp; exact n1)), hC.map.loc (hst.block _ hC.map.lt (by simp; omega)), fun k p hp => ?_, fun k p hp => ?_, by show q.md ≠ mk; omega, h.n1, h.n2, h.s1, h.s2, h.left⟩, rfl, .inl rfl, .inr hC.low, fun k p hp x hx => ?_⟩
  · have := hw.hold.store 3 (.map (some mk))
    simpa [DR.cells] using this
  · rcases hp with hp | hp
    · obtain ⟨h1, h2, h3⟩ := hw.pay k p (.inl hp)
      have hne : p.l ≠ [] := by intro e; rw [e] at h2; have := h.s1; simp at h2; omega
      exact ⟨h1.loc (fun x hx => hst.block x (h1.lt (by have := h.s1; omega) hx) (by simp; exact (byte_apart hw h1 hne hx).1)), h2, h3⟩
    · obtain ⟨h1, h2, h3, h4, _⟩ := hC.pay k p hp
      exact ⟨h1.loc (fun x hx => hst.block x (h1.lt (by have := h.s1; omega) hx) (by simp; have := h4 x hx; omega)), h2, h3⟩
  · rcases hp with hp | hp
    · exact h.key k p (.inl hp)
    · obtain ⟨_, _, _, _, m, hm, _, e, _⟩ := hC.pay k p hp
      have := (hks.2 k).1 (by rw [← e]; exact List.getElem_mem hm)
      cases e2 : q.wr k with
      | none => exact absurd (show Option.map Pay.val (q.wr k) = none by rw [e2]; rfl) this
      | some p2 => exact h.key k p2 (.inr e2)
  · rcases hp with hp | hp
    · exact .inl (.inr (.inr (.inr ⟨k, p, .inl hp, hx⟩)))
    · exact .inr ((hC.pay k p hp).2.2.2.1 x hx)
theorem CrashL.keys {q : DR} {w wr : World} {keep : Nat} {torn : Int} {a : Nat} {ks : List Int} {mk : Nat} {kp : Int → Option Pay} (hC : CrashL q w keep torn a ks mk ks.length kp wr) (hks : ks.Pairwise (· < ·)) :
    (∀ j, kp j ≠ none ↔ j ∈ ks) ∧ ∀ (k : Nat) (hk : k < ks.length) p, kp ks[k] = some p → p.l = crashB q keep torn a k ks[k] := by
  refine ⟨fun j => ⟨fun hj => ?_, fun hj => ?_⟩, fun k hk p hp => ?_⟩
  · cases e : kp j with
    | none => exact absurd e hj
    | some p =>
      obtain ⟨_, _, _, _, m, hm, _, e2, _⟩ := hC.pay j p e
      rw [← e2]
      exact List.getElem_mem hm
  · obtain ⟨m, hm, e⟩ := List.getElem_of_mem hj
    rw [← e]
    exact hC.all m hm hm
  · obtain ⟨_, _, _, _, m, hm, _, e2, e3⟩ := hC.pay _ p hp
    have : m = k := by
      rcases Nat.lt_trichotomy m k with h1 | h1 | h1
      · have := List.pairwise_iff_getElem.1 hks m k hm hk h1
        omega
      · exact h1
      · have := List.pairwise_iff_getElem.1 hks k m hk hm h1
        omega
    subst this
    exact e3
set_option maxRecDepth 100000 in
set_option maxHeartbeats 8000000 in
theorem crash_any (w : World) (q : DR) (h : DiskP q w) (keep : Nat) (hkeep : keep < 18446744073709551616) (torn at_ : Int) (ht : -9223372036854775808 ≤ torn ∧ torn ≤ 9223372036854775807) (a : Nat) (ha : (a : Int) = min (max at_ 0) q.size) :
    Calls Tryz.prog 24 #[.pointer (some ⟨q.g, 0, none⟩), .int .u64 keep, .int .i64 torn, .int .i64 at_] w fun e w' => e = .returned (.tuple #[]) ∧ ∃ (ks : List Int) (kp : Int → Option Pay) (mk : Nat), KeysOf (fun k => (q.wr k).map Pay.val) ks ∧ (∀ j, kp j ≠ none ↔ j ∈ ks) ∧
      (∀ (k : Nat) (hk : k < ks.length) p, kp ks[k] = some p → p.l = crashB q keep torn a k ks[k]) ∧
      DStep q w (q.crashed mk kp) w' := by
  have hmm := @run_makeMap Tryz.prog
  have f1 := h.f1
  have f3 := h.f3
  have s2 := h.s2
  have s1 := h.s1
  have n2 := h.n2
  have hgl := h.hold.lt
  go_enter Tryz.func24, Tryz.ntmps24
  go_upto_region 1 with (fail)
  rw [← ha]
  have ham : a ≤ q.size := by omega
  have ha' := Lib.hid ha
  clear ha
  go_wp2_with fail
  have hmk := IMap.made w
  have hbm := below_new w (.map #[] 0)
  obtain ⟨wm, hwm⟩ : ∃ x, x = w.alloc (.map #[] 0) := ⟨_, rfl⟩
  rw [← hwm] at hmk hbm ⊢
  clear hwm
  obtain ⟨mk, hmk0⟩ : ∃ x, x = w.heap.size := ⟨_, rfl⟩
  rw [← hmk0] at hmk ⊢
  have hmks := Lib.hid hmk0
  clear hmk0
  have hkm := Lib.hid hmk
  have hB := Lib.hid hbm
  have hqm := Lib.hid (h.below hbm)
  clear hmk hbm hmm
  refine (keys_any wm q.mw).mono ?_
  rintro e w1 ⟨rfl, rfl⟩
  have hsr := sorted_any wm q.mw _ hqm.out.mw
  go_wp2_with fail
  refine hsr.mono ?_
  clear hsr
  rintro e w2 ⟨⟨v, ks, rfl, hks, hrow⟩, hb2⟩
  obtain ⟨A, c, rfl, hrw, _, _⟩ := own_row hrow
  have hra := Lib.hid hrw.rowAt
  have hK := Lib.hid hks
  have hkl : ks.length ≤ 4096 := by
    have h1 : (ks.map Int.toNat).length ≤ 4096 := by
      refine nodup_bound 4096 _ ?_ ?_
      · rw [List.Nodup, List.pairwise_map]
        refine hks.1.imp_of_mem fun {x y} hx hy hxy => ?_
        have := hqm.out.mw.2 x ((hks.2 x).1 hx)
        have := hqm.out.mw.2 y ((hks.2 y).1 hy)
        omega
      · intro x hx
        obtain ⟨y, hy, rfl⟩ := List.mem_map.1 hx
        have := hqm.out.mw.2 y ((hks.2 y).1 hy)
        omega
    simpa using h1
  have hC0 : CrashL q w keep torn a ks mk 0 (fun _ => none) w2 := ⟨hB.out.trans (hb2.mono hB.out.size), hkm.out.loc (hb2.block mk (by rw [hmks.out]; have := hkm.out.lt; rw [hmks.out] at this; exact this)), fun j p e => (by cases e), fun m hm e => absurd e (by omega), by rw [hmks.out]; exact Nat.le_refl _⟩
  clear hrow hrw hks hb2 f1 f3
  go_wp2_with fail
  go_loopw [29] (fun iv wr => ∃ (k : Nat) (kp : Int → Option Pay), k ≤ ks.length ∧ iv = .int .i64 k ∧ CrashL q w keep torn a ks mk k kp wr ∧ RowAt wr A (ks.map (Value.int .i64))) (fun iv _ => ks.length - (intOf iv).toNat)
  case atStart => exact ⟨0, _, by omega, rfl, hC0, hra.out⟩
  clear hC0 hra
  obtain ⟨k, kp, hk, rfl, hC, hra⟩ := hrel
  have hqw := h.below hC.bel
  by_cases hlt : k < ks.length
  · obtain ⟨b, off, rfl, hbb, hcell⟩ := hra.row.at_ (k := k) (by simpa using hlt)
    rw [List.getElem_map] at hcell
    have hra' := Lib.hid hra
    clear hra
    obtain ⟨i, hi0⟩ : ∃ i, i = ks[k] := ⟨_, rfl⟩
    rw [← hi0] at hcell
    have hi := Lib.hid hi0
    have hwi : q.wr i ≠ none := by
      have := (hK.out.2 i).1 (by rw [hi0]; exact List.getElem_mem hlt)
      intro e
      apply this
      simp [e]
    obtain ⟨p, hp⟩ : ∃ p, q.wr i = some p := by
      cases e : q.wr i with
      | none => exact absurd e hwi
      | some p => exact ⟨p, rfl⟩
    have hir := hqm.out.key i p (.inr hp)
    have hlast : Hid (q.last i = p.l) := Lib.hid (by unfold DR.last; rw [hp])
    have hpw := hqw.pay i p (.inr hp)
    have lk := (hqw.mw.look (k := i) (by omega)).2
    rw [hp] at lk
    simp only [Option.map_some, Option.getD_some, Pay.val] at lk
    obtain ⟨hp1, hp2, hp3⟩ := hpw
    rw [hp2] at lk
    have hpa := Lib.hid hp1
    have hpv := Lib.hid hp
    have hpl := Lib.hid hp2
    have hpc : a ≤ p.c := by omega
    have hCC := Lib.hid hC
    have hqh := Lib.hid hqw
    clear hi0 hwi hp hp1 hp2 hC
    go_wp2_with fail
    refine (safe_any wr q hqw i (by omega)).mono ?_
    rintro e w3 ⟨⟨v, rfl, hv⟩, hb3⟩
    obtain ⟨g, cap, rfl, hbuf0⟩ := hv.buf (by rw [hqh.out.safe_len]; omega)
    rw [hqh.out.safe_len]
    have hbuf := Lib.hid hbuf0
    have hb3' := Lib.hid hb3
    have hq3 := Lib.hid (hqh.out.below hb3)
    have hg3 := (hqh.out.below hb3).f3
    have lk3 := ((hqh.out.below hb3).mw.look (k := i) (by omega)).2
    rw [hpv.out] at lk3
    simp only [Option.map_some, Option.getD_some, Pay.val] at lk3
    rw [hpl.out] at lk3
    clear hv hbuf0 hb3 hqw lk
    have hm3 := Lib.hid (hCC.out.map.loc (hb3'.out.block mk hCC.out.map.lt))
    have hgB : wr.heap.size ≤ g := by
      obtain ⟨_, h1, _⟩ := hbuf.out.parts
      exact h1
    have hmg : mk ≠ g := by have := hCC.out.map.lt; omega
    have hrp := Lib.hid ((hq3.out.pay i p (.inr hpv.out)).1)
    by_cases htn : (k : Int) = torn
    · subst htn
      go_wp2_with (first
        | (with_reducible refine at_slot 52 ?_
           go_loud (refine wpList_copy_buf rfl _ rfl (.tmp 42) (.tmp 51) 37 37 rfl Tryz.underlying37 wr.heap.size g cap (q.safe i) hbuf.out 0 q.size cap (by rfl) (by rw [hqh.out.safe_len]; omega) p.A a p.c (p.l.take a) rfl (by rw [List.length_take, hpl.out]) (hrp.out.take a) ?_)
           intro w4 hb4 hg4
           rw [crashB_torn (keep := keep) (k := k) hlast.out hpl.out ham] at hb4
           have hb4' := Lib.hid hb4
           have hg4' := Lib.hid hg4
           have hm4 := Lib.hid (hm3.out.loc (hg4.block mk (Nat.lt_of_lt_of_le hCC.out.map.lt hb3'.out.size) (by simp; exact hmg)))
           clear hb4 hg4)
        | (at_mapUpdate; refine wpList_store_i rfl _ rfl _ _ _ rfl mk _ rfl hm4.out i (.slice (some ⟨g, 0, none⟩) q.size cap) rfl rfl (by omega) ?_; intro w5 hm5 hg5; go_frame))
      have hst := hCC.out.step hlt h ham hi.out hb3'.out hg4'.out hb4'.out hm4.out hm5 hg5
      have hr5 := hra'.out.step hb3'.out hg4'.out hgB hm4.out hg5
      clear hm5 hg5
      go_wp2_with fail
      go_roundw
      case rel => exact ⟨k + 1, _, by omega, by go_num, hst, hr5⟩
      case measure => simp [intOf]; omega
    · have hbit := keep_bit keep k hkeep
      by_cases hb1 : keep / 2 ^ (k % 64) % 2 = 1
      · rw [decide_eq_true hb1] at hbit
        have hb1' := Lib.hid hb1
        have htn' := Lib.hid htn
        clear hb1
        go_wp2_with (first
          | (with_reducible refine at_slot 67 ?_
             go_loud (refine wpList_copy_buf rfl _ rfl (.tmp 59) (.tmp 66) 37 37 rfl Tryz.underlying37 wr.heap.size g cap (q.safe i) hbuf.out 0 q.size cap (by rfl) (by rw [hqh.out.safe_len]; omega) p.A q.size p.c p.l rfl (by rw [hpl.out]; simp) hrp.out ?_)
             intro w4 hb4 hg4
             rw [crashB_all (keep := keep) (a := a) hlast.out (by rw [hpl.out, hqh.out.safe_len]) htn'.out hb1'.out] at hb4
             have hb4' := Lib.hid hb4
             have hg4' := Lib.hid hg4
             have hm4 := Lib.hid (hm3.out.loc (hg4.block mk (Nat.lt_of_lt_of_le hCC.out.map.lt hb3'.out.size) (by simp; exact hmg)))
             clear hb4 hg4)
          | (at_mapUpdate; refine wpList_store_i rfl _ rfl _ _ _ rfl mk _ rfl hm4.out i (.slice (some ⟨g, 0, none⟩) q.size cap) rfl rfl (by omega) ?_; intro w5 hm5 hg5; go_frame))
        have hst := hCC.out.step hlt h ham hi.out hb3'.out hg4'.out hb4'.out hm4.out hm5 hg5
        have hr5 := hra'.out.step hb3'.out hg4'.out hgB hm4.out hg5
        clear hm5 hg5
        go_wp2_with fail
        go_roundw
        case rel => exact ⟨k + 1, _, by omega, by go_num, hst, hr5⟩
        case measure => simp [intOf]; omega
      · rw [decide_eq_false hb1] at hbit
        have hb4' : Hid (Buf w3 wr.heap.size g cap (crashB q keep torn a k i)) := Lib.hid (by rw [crashB_none htn hb1]; exact hbuf.out)
        have hg4' : Hid (w3.grownBy w3 (some g)) := Lib.hid (World.grownBy.refl w3 _)
        clear hb1
        go_wp2_with (at_mapUpdate; refine wpList_store_i rfl _ rfl _ _ _ rfl mk _ rfl hm3.out i (.slice (some ⟨g, 0, none⟩) q.size cap) rfl rfl (by omega) ?_; intro w5 hm5 hg5; go_frame)
        have hst := hCC.out.step hlt h ham hi.out hb3'.out hg4'.out hb4'.out hm3.out hm5 hg5
        have hr5 := hra'.out.step hb3'.out hg4'.out hgB hm3.out hg5
        clear hm5 hg5
        go_wp2_with fail
        go_roundw
        case rel => exact ⟨k + 1, _, by omega, by go_num, hst, hr5⟩
        case measure => simp [intOf]; omega
  · obtain rfl : k = ks.length := by omega
    have hfin := hC.fin h hK.out
    have hkeys := hC.keys hK.out.1
    have hgw : q.g < wr.heap.size := hqw.hold.lt
    have zf := hqw.hold.frozen 3
    have f3w := hqw.f3
    have hkeys' := Lib.hid hkeys
    have hfin' := Lib.hid hfin
    have hset := settle_any _ _ hfin.post
    clear hkeys hfin hC
    go_wp2_with fail
    refine hset.mono ?_
    clear hset
    rintro e w5 ⟨rfl, hst⟩
    have hall := hfin'.out.trans hst
    have hp5 := hst.post
    have g4 := hp5.f4
    have g5 := hp5.f5
    have g6 := hp5.f6
    have z4 := hp5.hold.frozen 4
    have z5 := hp5.hold.frozen 5
    have z6 := hp5.hold.frozen 6
    have htu := hp5.turn (w' := ((w5.setCell ⟨q.g, 4, none⟩ (.bool false)).setCell ⟨q.g, 5, none⟩ (.bool false)).setCell ⟨q.g, 6, none⟩ (.int .i64 0)) (((Writes.store w5 (p := ⟨q.g, 4, none⟩) (by exact List.mem_singleton.2 rfl) (.bool false)).trans (Writes.store _ (p := ⟨q.g, 5, none⟩) (by exact List.mem_singleton.2 rfl) _)).trans (Writes.store _ (p := ⟨q.g, 6, none⟩) (by exact List.mem_singleton.2 rfl) _)) false false 0 (by omega) (((hp5.hold.store 4 (.bool false)).store 5 (.bool false)).store 6 (.int .i64 0))
    have hend := Lib.hid (hall.trans htu)
    have z4' : w5.frozen? ⟨q.g, 4, none⟩ = false := z4
    have z5' : w5.frozen? ⟨q.g, 5, none⟩ = false := z5
    have z6' : w5.frozen? ⟨q.g, 6, none⟩ = false := z6
    have g4' : w5.cell? ⟨q.g, 4, none⟩ = some (.bool q.dead) := g4
    have g5' : w5.cell? ⟨q.g, 5, none⟩ = some (.bool q.cut) := g5
    have g6' : w5.cell? ⟨q.g, 6, none⟩ = some (.int .i64 q.left) := g6
    clear hall hst hp5 g4 g5 g6 z4 z5 z6 htu
    go_wp2_with fail
    go_end0
    exact ⟨rfl, ks, kp, mk, hK.out, hkeys'.out.1, hkeys'.out.2, hend.out⟩
end Go.Proofs.YtelglbblgkhcmaaGreat
