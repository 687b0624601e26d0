/-
  The walk of augurref24.Open.
-/
import Derived.Test.YtimhghmnnibajaaRqB
namespace Go.Proofs.Ytimhghmnnibajaa
open Go.RowKit

/-- A reader of the reference just made over bytes. -/
theorem Rrd.new {w : World} {A : Option Addr} {n c : Nat} {l : List UInt8} (hl : Bytes w w.heap.size A l) (hn : l.length = n) (hc : n ≤ c) (hm : n ≤ 100000000000) :
    Rrd (w.alloc (.cells #[.slice A n c, .bool false] 69)) w.heap.size (some l) := by
  refine ⟨A, n, c, Holds.new _ _ _, hm, ?_⟩
  rintro l' ⟨⟩
  refine ⟨hn, hc, hl.up (below_new _ _), fun hne a e => ?_⟩
  subst e
  obtain ⟨b, off, e, hb, _⟩ := hl (by simpa using hne)
  injection e with e
  subst e
  exact hb

set_option maxRecDepth 100000 in
set_option maxHeartbeats 4000000 in
theorem refOpenQ_any (w0 : World) (A : Option Addr) (n c : Nat) (l : List UInt8) (hl : Bytes w0 w0.heap.size A l) (hn : l.length = n) (hc : n ≤ c) (hlen : n ≤ 100000000000) :
    Calls Try.prog 45 #[.slice A n c] w0 fun e w' => e = retQ (openQ l) ∧ Below w0.heap.size w0 w' := by
  have hl := Lib.hid hl
  rename_i hl'
  have hn := Lib.hid hn
  rename_i hn'
  clear hl' hn'
  have hb1 := Lib.hid (below_new w0 (.cells #[.int .i64 0, .string ⟨#[]⟩, .string ⟨#[]⟩, .int .i64 0] 78))
  have hrb := Lib.hid (Holds.new w0 78 #[.int .i64 0, .string ⟨#[]⟩, .string ⟨#[]⟩, .int .i64 0])
  go_enter Try.func45, Try.ntmps45
  by_cases hbig : 8192 < n
  · have hno := Lib.hid (show openQ l = none by unfold openQ; rw [if_pos (by rw [hn.out]; exact hbig)])
    have q0 := (hrb.out.fact 0 rfl).2
    have q1 := (hrb.out.fact 1 rfl).2
    have q2 := (hrb.out.fact 2 rfl).2
    have q3 := (hrb.out.fact 3 rfl).2
    have z0 := hrb.out.frozen 0
    have z1 := hrb.out.frozen 1
    have z2 := hrb.out.frozen 2
    have z3 := hrb.out.frozen 3
    go_wp2_with fail
    refine ret_cell2 rfl rfl rfl hrb.out Try.underlying78 Try.sRq ⟨?_, hb1.out⟩
    rw [hno.out]
    rfl
  have hR2 : Hid (Rrd ((w0.alloc (.cells #[.int .i64 0, .string ⟨#[]⟩, .string ⟨#[]⟩, .int .i64 0] 78)).alloc (.cells #[.slice A n c, .bool false] 69)) (w0.alloc (.cells #[.int .i64 0, .string ⟨#[]⟩, .string ⟨#[]⟩, .int .i64 0] 78)).heap.size (some l)) := Lib.hid (Rrd.new (hl.out.up hb1.out) hn.out hc hlen)
  have hbn := below_new (w0.alloc (.cells #[.int .i64 0, .string ⟨#[]⟩, .string ⟨#[]⟩, .int .i64 0] 78)) (.cells #[.slice A n c, .bool false] 69)
  have hrb2 := Lib.hid (hrb.out.below hbn hrb.out.lt)
  have hB2 := Lib.hid (hb1.out.trans (hbn.mono hb1.out.size))
  have hrg : w0.heap.size < (w0.alloc (.cells #[.int .i64 0, .string ⟨#[]⟩, .string ⟨#[]⟩, .int .i64 0] 78)).heap.size := by simp
  clear hbn hrb hb1
  go_wp2_with fail
  generalize (w0.alloc (.cells #[.int .i64 0, .string ⟨#[]⟩, .string ⟨#[]⟩, .int .i64 0] 78)).alloc (.cells #[.slice A n c, .bool false] 69) = w2 at hR2 hrb2 hB2 ⊢
  obtain ⟨rb, hrbe⟩ : ∃ x, w0.heap.size = x := ⟨_, rfl⟩
  have hge : (w0.alloc (.cells #[.int .i64 0, .string ⟨#[]⟩, .string ⟨#[]⟩, .int .i64 0] 78)).heap.size = rb + 1 := by simp [hrbe]
  rw [hge] at hR2 hrg
  have hwr : w0.heap.size ≤ rb := by omega
  rw [hrbe] at hrb2 hrg ⊢
  clear hrbe hge
  refine (rrNum_any w2 (rb + 1) _ hR2.out).mono ?_
  rintro e w3 ⟨rfl, hR3a, hM3⟩
  have hR3 := Lib.hid hR3a
  have hrb3 := Lib.hid (hM3.holds hrb2.out (by simp))
  have hB3 := Lib.hid (hB2.out.trans (hM3.below hB2.out.size (fun j hj => by simp at hj; omega)))
  have hklt := valNum_lt (some l)
  have hq := openQ_eq l (by rw [hn.out]; exact hbig)
  have hq := Lib.hid hq
  rename_i hq'
  clear hq' hR3a hM3 hR2 hrb2 hB2
  obtain ⟨kk, hkk⟩ : ∃ x, valOf numR 0 (some l) = x := ⟨_, rfl⟩
  rw [hkk] at hq hklt ⊢
  clear hkk
  go_wp2_with fail
  refine (rrText_any w3 (rb + 1) _ hR3.out).mono ?_
  rintro e w4 ⟨rfl, hR4a, hM4⟩
  have hR4 := Lib.hid hR4a
  have hrb4 := Lib.hid (hM4.holds hrb3.out (by simp))
  have hB4 := Lib.hid (hB3.out.trans (hM4.below hB3.out.size (fun j hj => by simp at hj; omega)))
  clear hR4a hM4 hR3 hrb3 hB3
  obtain ⟨na, hna⟩ : ∃ x, valOf textR [] (nextOf numR (some l)) = x := ⟨_, rfl⟩
  rw [hna] at hq ⊢
  clear hna
  go_wp2_with fail
  refine (rrText_any w4 (rb + 1) _ hR4.out).mono ?_
  rintro e w5 ⟨rfl, hR5a, hM5⟩
  have hR5 := Lib.hid hR5a
  have hrb5 := Lib.hid (hM5.holds hrb4.out (by simp))
  have hB5 := Lib.hid (hB4.out.trans (hM5.below hB4.out.size (fun j hj => by simp at hj; omega)))
  clear hR5a hM5 hR4 hrb4 hB4
  obtain ⟨tx, htx⟩ : ∃ x, valOf textR [] (nextOf textR (nextOf numR (some l))) = x := ⟨_, rfl⟩
  rw [htx] at hq ⊢
  clear htx
  go_wp2_with fail
  refine (rrSmall_any w5 (rb + 1) _ hR5.out).mono ?_
  rintro e w6 ⟨rfl, hR6a, hM6⟩
  have hR6 := Lib.hid hR6a
  have hrb6 := Lib.hid (hM6.holds hrb5.out (by simp))
  have hB6 := Lib.hid (hB5.out.trans (hM6.below hB5.out.size (fun j hj => by simp at hj; omega)))
  clear hR6a hM6 hR5 hrb5 hB5
  obtain ⟨z, hz⟩ : ∃ x, valOf smallR 0 (nextOf textR (nextOf textR (nextOf numR (some l)))) = x := ⟨_, rfl⟩
  rw [hz] at hq ⊢
  clear hz
  obtain ⟨E, hE⟩ : ∃ x, nextOf smallR (nextOf textR (nextOf textR (nextOf numR (some l)))) = x := ⟨_, rfl⟩
  rw [hE] at hq hR6
  clear hE
  obtain ⟨A6, m6, c6, c0, c1, _, _, _, _, hl6⟩ := hR6.out.cells
  have q0 := (hrb6.out.fact 0 rfl).2
  have q1 := (hrb6.out.fact 1 rfl).2
  have q2 := (hrb6.out.fact 2 rfl).2
  have q3 := (hrb6.out.fact 3 rfl).2
  have z0 := hrb6.out.frozen 0
  have z1 := hrb6.out.frozen 1
  have z2 := hrb6.out.frozen 2
  have z3 := hrb6.out.frozen 3
  have hfin : Hid (∀ x y u v, Holds ((((w6.setCell ⟨rb, 0, none⟩ x).setCell ⟨rb, 1, none⟩ y).setCell ⟨rb, 2, none⟩ u).setCell ⟨rb, 3, none⟩ v) rb 78 #[x, y, u, v] ∧ Below w0.heap.size w0 ((((w6.setCell ⟨rb, 0, none⟩ x).setCell ⟨rb, 1, none⟩ y).setCell ⟨rb, 2, none⟩ u).setCell ⟨rb, 3, none⟩ v)) := Lib.hid fun x y u v => ⟨hrb6.out.store4 _ _ _ _, below_store4 hB6.out hwr _ _ _ _⟩
  clear hR6 hrb6 hB6
  cases E with
  | none =>
    have hno : Hid (openQ l = none) := Lib.hid (by rw [hq.out, if_neg (fun h => by cases h.1)])
    clear hq hl6
    go_wp2_with fail
    refine ret_cell2 rfl rfl rfl (hfin.out _ _ _ _).1 Try.underlying78 Try.sRq ⟨?_, (hfin.out _ _ _ _).2⟩
    first | (rw [hno.out]; rfl) | rfl | (simp [retQ]; done)
  | some r =>
    obtain ⟨hm6, _, _, _⟩ := hl6 r rfl
    cases r with
    | cons b r =>
      have hno : Hid (openQ l = none) := Lib.hid (by rw [hq.out, if_neg (fun h => by have := h.1; simp at this)])
      have hm0 : 0 < m6 := by rw [← hm6]; simp
      clear hq hl6 hm6
      go_wp2_with fail
      refine ret_cell2 rfl rfl rfl (hfin.out _ _ _ _).1 Try.underlying78 Try.sRq ⟨?_, (hfin.out _ _ _ _).2⟩
      first | (rw [hno.out]; rfl) | rfl | (simp [retQ]; done)
    | nil =>
      have hm0 : m6 = 0 := by rw [← hm6]; rfl
      subst hm0
      clear hl6 hm6
      by_cases hk1 : kk < 1
      · have hno : Hid (openQ l = none) := Lib.hid (by rw [hq.out, if_neg (by omega)])
        clear hq
        go_wp2_with fail
        refine ret_cell2 rfl rfl rfl (hfin.out _ _ _ _).1 Try.underlying78 Try.sRq ⟨?_, (hfin.out _ _ _ _).2⟩
        first | (rw [hno.out]; rfl) | rfl | (simp [retQ]; done)
      · by_cases hk7 : 7 < kk
        · have hno : Hid (openQ l = none) := Lib.hid (by rw [hq.out, if_neg (by omega)])
          clear hq
          go_wp2_with fail
          refine ret_cell2 rfl rfl rfl (hfin.out _ _ _ _).1 Try.underlying78 Try.sRq ⟨?_, (hfin.out _ _ _ _).2⟩
          first | (rw [hno.out]; rfl) | rfl | (simp [retQ]; done)
        · have hyes : Hid (openQ l = some ⟨(kk : Int), strV na, strV tx, z⟩) := Lib.hid (by rw [hq.out, if_pos ⟨rfl, by omega, by omega⟩])
          clear hq
          go_wp2_with fail
          refine ret_cell2 rfl rfl rfl (hfin.out _ _ _ _).1 Try.underlying78 Try.sRq ⟨?_, (hfin.out _ _ _ _).2⟩
          first | (rw [hyes.out]; rfl) | rfl | (simp [retQ]; done)
end Go.Proofs.Ytimhghmnnibajaa
