/-
  The walk of ReqReads (written by gen_readsq.py).
-/
import Derived.Test.YtimhghmnnibajaaRqT
namespace Go.Proofs.Ytimhghmnnibajaa
open Go.RowKit Go.ChangeShapes Go.WideShapes Go.Deep

theorem placeq_any (w : World) (k : Int) (n : Nat) (h0 : 0 < n) (hn : n ≤ 100000000000) :
    Calls Try.prog 23 #[.int .i64 k, .int .i64 n] w fun e w' => (∃ r : Nat, e = .returned (.int .i64 r) ∧ r < n) ∧ w' = w := by
  have hr1 := Int.tmod_lt_of_pos k (show (0 : Int) < n by omega)
  have hr2 : -(n : Int) < Int.tmod k n := by
    have := Int.tmod_lt_of_pos (-k) (show (0 : Int) < n by omega)
    rw [Int.neg_tmod] at this
    omega
  have hne : ¬ (n : Int) = 0 := by omega
  by_cases hneg : Int.tmod k n < 0
  · go_enter Try.func23, Try.ntmps23
    go_wp2
    go_ret
    exact ⟨⟨(Int.tmod k n + n).toNat, ret_int (by omega), by omega⟩, rfl⟩
  · go_enter Try.func23, Try.ntmps23
    go_wp2
    go_ret
    exact ⟨⟨(Int.tmod k n).toNat, ret_int (by omega), by omega⟩, rfl⟩
theorem refBytesQ_own (w0 : World) (kind : Int) (name text : ByteArray) (n : Int) (hk : i64ok kind) (hnm : name.size ≤ 20000) (htx : text.size ≤ 20000) (hn : i64ok n) :
    Calls Try.prog 43 #[.agg #[.int .i64 kind, .string name, .string text, .int .i64 n]] w0 fun e w' => ∃ g cap, e = .returned (.slice (some ⟨g, 0, none⟩) (rqE ⟨kind, name, text, n⟩).length cap) ∧ w'.ownsRow w0.heap.size 5 1 (.slice (some ⟨g, 0, none⟩) (rqE ⟨kind, name, text, n⟩).length cap) (rqE ⟨kind, name, text, n⟩).length ((rqE ⟨kind, name, text, n⟩).map byteV) ∧ w0.heap.size ≤ g ∧ (rqE ⟨kind, name, text, n⟩).length ≤ cap ∧ Below w0.heap.size w0 w' := by
  refine (refBytesQ_any w0 kind name text n hk hnm htx hn).mono fun e w' h => ?_
  obtain ⟨v, rfl, ho, hM, _⟩ := h
  have hb := hM.below (Nat.le_refl _) (fun j hj => by simp at hj)
  rcases ho.2 with ⟨_, h0⟩ | ⟨g, cap, cur, rfl, hg, h1, h2, h3⟩
  · exfalso
    have := numE_pos2 (max 0 kind).toNat
    unfold rqE at h0
    simp only [List.length_append] at h0
    omega
  · exact ⟨g, cap, rfl, ho, hg, h2, hb⟩

set_option maxRecDepth 100000 in
set_option maxHeartbeats 16000000 in
theorem readsq_B (W : World) (B0 : Nat) (hB0 : Hid (B0 ≤ W.heap.size)) (A0 : Option Addr) (n0 c0 : Nat) (l0 : List UInt8) (hl0 : Hid (l0.length = n0)) (hc0 : Hid (n0 ≤ c0)) (hr0 : Hid (Bytes W W.heap.size A0 l0)) (qk : Int) (qn qt : ByteArray) (qz pos : Int) (mo : UInt8) (cut : Bool) (hqk : Hid (i64ok qk)) (hqz : Hid (i64ok qz)) :
    Calls Try.prog 9 #[.slice A0 n0 c0, .agg #[.int .i64 qk, .string qn, .string qt, .int .i64 qz], .int .i64 pos, .int .u8 mo.toNat, .bool cut] W fun e w' => e = .returned (.bool true) ∧ Below B0 W w' := by
  have hn1 := below_new W (.cells #[.int .i64 qk, .string qn, .string qt, .int .i64 qz] 78)
  have hq1 := Lib.hid (Holds.new W 78 #[.int .i64 qk, .string qn, .string qt, .int .i64 qz])
  have hr1 := Lib.hid (hr0.out.up hn1)
  have hB1 := Lib.hid (Nat.le_trans hB0.out hn1.size)
  have hb1 := Lib.hid (hn1.mono hB0.out)
  clear hn1 hr0
  go_enter Try.func9, Try.ntmps9
  go_wp2_with fail
  generalize W.alloc (.cells #[.int .i64 qk, .string qn, .string qt, .int .i64 qz] 78) = w1 at hq1 hr1 hB1 hb1 ⊢
  generalize W.heap.size = rq at hq1 ⊢
  refine (known24_any _).mono ?_
  rintro e w2 ⟨rfl, h2⟩
  have hq2 := hq1.out.below h2 hq1.out.lt
  have hr2 := Lib.hid (hr1.out.up h2)
  have hB2 := Lib.hid (Nat.le_trans hB1.out h2.size)
  have hb2 := Lib.hid (hb1.out.trans (h2.mono hB1.out))
  have q0 := (hq2.fact 0 rfl).2
  have q1 := (hq2.fact 1 rfl).2
  have q2 := (hq2.fact 2 rfl).2
  have q3 := (hq2.fact 3 rfl).2
  clear h2 hq1 hr1 hB1 hb1 hq2
  rcases (show (9000 < n0 ∧ 0 < 1) ∨ (n0 ≤ 9000 ∧ 100 < qn.size) ∨ (n0 ≤ 9000 ∧ qn.size ≤ 100 ∧ 500 < qt.size) ∨ (n0 ≤ 9000 ∧ qn.size ≤ 100 ∧ qt.size ≤ 500) by omega) with hc | hc | hc | hc
  rotate_right
  all_goals try (obtain ⟨k1, k2⟩ := hc; try (obtain ⟨k2, k3⟩ := k2))
  all_goals go_wp2_with fail
  rotate_left
  all_goals try (go_ret; exact ⟨rfl, hb2.out⟩)
  have hn0 := Lib.hid (show n0 ≤ 50000 by omega)
  refine (refBytesQ_own w2 qk qn qt qz hqk.out (by omega) (by omega) hqz.out).mono ?_
  have hlenq := rqE_len (r := ⟨qk, qn, qt, qz⟩) (M := 500) hqk.out (by show qn.size ≤ 500; omega) (by show qt.size ≤ 500; omega) (by omega) hqz.out
  have hpq : 0 < (rqE ⟨qk, qn, qt, qz⟩).length := by unfold rqE; simp only [List.length_append]; have := numE_pos2 (max 0 qk).toNat; omega
  clear q0 q1 q2 q3 k1 k2 k3
  generalize rqE ⟨qk, qn, qt, qz⟩ = lq at hlenq hpq ⊢
  rintro e w3 ⟨g, cap, rfl, ho3, hg3, hcap, h3⟩
  have hr3 := Lib.hid (hr2.out.up h3)
  have hB3 := Lib.hid (Nat.le_trans hB2.out h3.size)
  have hb3 := Lib.hid (hb2.out.trans (h3.mono hB2.out))
  have hgB := Lib.hid (Nat.le_trans hB2.out hg3)
  have hbg : Hid (∀ a, A0 = some a → l0 ≠ [] → a.block ≠ g) := Lib.hid fun a e hne => by
    obtain ⟨b, off, e2, hb, _⟩ := hr2.out (by simpa using hne)
    rw [e] at e2
    injection e2 with e2
    subst e2
    exact Nat.ne_of_lt (Nat.lt_of_lt_of_le hb hg3)
  have ho3' := Lib.hid ho3
  have hcap' := Lib.hid hcap
  clear ho3 hcap h3 hg3 hr2 hB2 hb2
  have hcap := hcap'
  clear hcap'
  have ho3 := ho3'
  clear ho3'
  go_wp2_with fail
  refine (placeq_any w3 pos lq.length hpq (by omega)).mono ?_
  rintro e w4 ⟨⟨k, rfl, hk⟩, rfl⟩
  have hat := own_at ho3.out k (u := byteV lq[k]) (by rw [List.getElem?_map, List.getElem?_eq_getElem hk]; rfl)
  obtain ⟨c0x, c1x⟩ := hat
  unfold byteV at c0x
  obtain ⟨cx, hcx⟩ := xor_u8 lq[k] mo
  have ho5 := own_set ho3.out k (byteV cx)
  rw [← List.map_set] at ho5
  unfold byteV at ho5
  have hr5 : Hid (Bytes (w4.setCell ⟨g, k, none⟩ (.int .u8 cx.toNat)) (w4.setCell ⟨g, k, none⟩ (.int .u8 cx.toNat)).heap.size A0 l0) := Lib.hid fun hne => by
    obtain ⟨b, off, e2, hb, hcc⟩ := hr3.out hne
    refine ⟨b, off, e2, by simpa [World.setCell] using hb, fun j u hu => ?_⟩
    rw [← hcc j u hu]
    exact World.cell?_of_block (Below.heap_setCell w4 ⟨g, k, none⟩ _ b (by have := hbg.out _ e2 (by simpa using hne); simpa using this))
  have hB5 : Hid (B0 ≤ (w4.setCell ⟨g, k, none⟩ (.int .u8 cx.toNat)).heap.size) := Lib.hid (by have := hB3.out; simpa [World.setCell] using this)
  have hb5 := Lib.hid (hb3.out.setCell (p := ⟨g, k, none⟩) hgB.out (.int .u8 cx.toNat))
  have hc5 : Hid (Bytes (w4.setCell ⟨g, k, none⟩ (.int .u8 cx.toNat)) (w4.setCell ⟨g, k, none⟩ (.int .u8 cx.toNat)).heap.size (some ⟨g, 0, none⟩) (lq.set k cx)) := Lib.hid (by
    obtain ⟨A, c, e, hrow, _, _⟩ := own_row ho5
    injection e with e1 _ _
    rw [e1]
    exact hrow)
  have hls : Hid ((lq.set k cx).length = lq.length) := Lib.hid (by simp)
  clear ho5 ho3 hr3 hB3 hb3 hgB hbg
  generalize lq[k] = y0 at c0x hcx
  generalize lq.set k cx = ls at hc5 hls
  generalize hn9q : lq.length = n9 at hls hlenq hcap hk ⊢
  clear hn9q hpq
  have hkc : k ≤ cap := by have := hcap.out; omega
  cases cut
  case false =>
    have hsl := Holds.new (w4.setCell ⟨g, k, none⟩ (.int .u8 cx.toNat)) 26 #[.slice A0 n0 c0, .slice (some ⟨g, 0, none⟩) n9 cap]
    rw [show (w4.setCell ⟨g, k, none⟩ (.int .u8 cx.toNat)).heap.size = w4.heap.size by simp [World.setCell]] at hsl
    have hsl := Lib.hid hsl
    rename_i hsl'
    clear hsl'
    have hbn6 := below_new (w4.setCell ⟨g, k, none⟩ (.int .u8 cx.toNat)) (.cells #[.slice A0 n0 c0, .slice (some ⟨g, 0, none⟩) n9 cap] 26)
    have hr6 := Lib.hid (hr5.out.up hbn6)
    have hc6 := Lib.hid (Bytes.up (l := ls) hc5.out hbn6)
    have hB6 := Lib.hid (Nat.le_trans hB5.out hbn6.size)
    have hb6 := Lib.hid (hb5.out.trans (hbn6.mono hB5.out))
    have hmm : Hid ((ls).length = n9 ∧ n9 ≤ cap ∧ n9 ≤ 50000) := Lib.hid ⟨hls.out, by have := hcap.out; omega, by omega⟩
    clear hbn6 hr5 hB5 hb5 hc5
    go_wp2_with fail
    generalize (w4.setCell ⟨g, k, none⟩ (.int .u8 cx.toNat)).alloc (.cells #[.slice A0 n0 c0, .slice (some ⟨g, 0, none⟩) n9 cap] 26) = w6 at hsl hr6 hc6 hB6 hb6 ⊢
    generalize w4.heap.size = s6 at hsl ⊢
    have hlx := hmm
    generalize hlxq : ls = lx at hc6 hlx
    clear hmm hlxq
    go_loopw [61] (fun i wr => ∃ j : Nat, j ≤ 2 ∧ i = .int .i64 j ∧ Below w6.heap.size w6 wr) (fun i _ => 2 - (intOf i).toNat)
    case atStart => exact ⟨0, by omega, rfl, Below.refl _ _⟩
    case round =>
      obtain ⟨j, hj, rfl, hbr⟩ := hrel
      by_cases hlt : j < 2
      · obtain ⟨Ay, ny, cy, ly, hcell, hby, hly⟩ : ∃ Ay ny cy, ∃ ly : List UInt8, wr.cell? ⟨s6, j, none⟩ = some (.slice Ay ny cy) ∧ Bytes wr wr.heap.size Ay ly ∧ (ly.length = ny ∧ ny ≤ cy ∧ ny ≤ 50000) := by
          have h := hsl.out.below hbr hsl.out.lt
          rcases (show j = 0 ∨ j = 1 by omega) with rfl | rfl
          · exact ⟨A0, n0, c0, l0, (h.fact 0 rfl).2, hr6.out.up hbr, hl0.out, hc0.out, hn0.out⟩
          · exact ⟨_, _, _, lx, (h.fact 1 rfl).2, hc6.out.up hbr, hlx.out⟩
        have hbr' := Lib.hid (hb6.out.trans (hbr.mono hB6.out))
        have hBr := Lib.hid (Nat.le_trans hB6.out hbr.size)
        have hbr6 := Lib.hid hbr
        have hby' := Lib.hid hby
        have hly' := Lib.hid hly
        clear hbr hby hly
        obtain ⟨a1, a2, a3, a4, z, hq⟩ : ∃ a1 a2 a3 a4 z, retQ (openQ ly) = .returned (.tuple #[.agg #[.int .i64 a1, .string a2, .string a3, .int .i64 a4], .int .i64 z]) := ⟨_, _, _, _, _, retQ_gen _⟩
        obtain ⟨b1, b2, b3, b4, b5, y, al, nl, hp⟩ : ∃ b1 b2 b3 b4 b5 y, ∃ (al : List Al) (nl : Nat), (∀ e w', RetP ly e w' → ∃ A c, e = .returned (.tuple #[.agg #[.int .i64 b1, .int .i64 b2, .int .i64 b3, .slice A nl c, .string b4, .int .i64 b5], .int .i64 y]) ∧ Row w' w'.heap.size A (al.flatMap Al.cells)) ∧ al.length = nl ∧ nl ≤ 50000 :=
          ⟨_, _, _, _, _, _, _, _, fun e w' h => h.gen, rfl, Nat.le_trans (openP_len ly) (by rw [hly'.out.1]; exact hly'.out.2.2)⟩
        have hq' := Lib.hid hq
        have hp' := Lib.hid hp
        clear hq hp
        go_wp2_with fail
        refine (openQ_any wr Ay ny cy ly hby'.out hly'.out.1 (by have := hly'.out.2.2; omega)).mono ?_
        rintro e x1 ⟨rfl, h1⟩
        rw [hq'.out]
        have k1 := h1.trans ((below_new x1 (.cells #[.int .i64 a1, .string a2, .string a3, .int .i64 a4] 78)).mono h1.size)
        have hby2 := Lib.hid (hby'.out.up k1)
        have hr2 := Lib.hid (Holds.new x1 78 #[.int .i64 a1, .string a2, .string a3, .int .i64 a4])
        have k1 := Lib.hid k1
        rename_i k1'
        clear k1' h1 hby'
        go_wp2_with fail
        generalize x1.alloc (.cells #[.int .i64 a1, .string a2, .string a3, .int .i64 a4] 78) = x2 at k1 hby2 hr2 ⊢
        generalize x1.heap.size = r2 at hr2 ⊢
        refine (refOpenQ_any x2 Ay ny cy ly hby2.out hly'.out.1 hly'.out.2.1 (by have := hly'.out.2.2; omega)).mono ?_
        rintro e x3 ⟨rfl, h3⟩
        rw [hq'.out]
        have k3 := h3.trans ((below_new x3 (.cells #[.int .i64 a1, .string a2, .string a3, .int .i64 a4] 78)).mono h3.size)
        have hby4 := Lib.hid (hby2.out.up k3)
        have hr24 := Lib.hid (hr2.out.below k3 hr2.out.lt)
        have hr4 := Lib.hid (Holds.new x3 78 #[.int .i64 a1, .string a2, .string a3, .int .i64 a4])
        have k4 := Lib.hid (k1.out.trans (k3.mono k1.out.size))
        clear k3 k1 h3 hby2 hr2 hq'
        go_wp2_with fail
        generalize x3.alloc (.cells #[.int .i64 a1, .string a2, .string a3, .int .i64 a4] 78) = x4 at k4 hby4 hr24 hr4 ⊢
        generalize x3.heap.size = r4 at hr4 ⊢
        refine (openP_any x4 Ay ny cy ly hby4.out hly'.out.1 (by have := hly'.out.2.2; omega)).mono ?_
        rintro e x5 ⟨hR, h5⟩
        obtain ⟨A5, c5, rfl, row5⟩ := hp'.out.1 _ _ hR
        clear hR
        have n5 := below_new x5 (.cells #[.int .i64 b1, .int .i64 b2, .int .i64 b3, .slice A5 nl c5, .string b4, .int .i64 b5] 86)
        have k5 := h5.trans (n5.mono h5.size)
        have hby6 := Lib.hid (hby4.out.up k5)
        have hr26 := Lib.hid (hr24.out.below k5 hr24.out.lt)
        have hr46 := Lib.hid (hr4.out.below k5 hr4.out.lt)
        have hr6' := Lib.hid (Holds.new x5 86 #[.int .i64 b1, .int .i64 b2, .int .i64 b3, .slice A5 nl c5, .string b4, .int .i64 b5])
        have row6 := Lib.hid ((row5.below n5).more n5.size)
        have k6 := Lib.hid (k4.out.trans (k5.mono k4.out.size))
        clear k5 k4 h5 hby4 hr24 hr4 row5 n5
        go_wp2_with fail
        generalize x5.alloc (.cells #[.int .i64 b1, .int .i64 b2, .int .i64 b3, .slice A5 nl c5, .string b4, .int .i64 b5] 86) = x6 at k6 hby6 hr26 hr46 hr6' row6 ⊢
        generalize x5.heap.size = r6 at hr6' ⊢
        refine (refOpenP_any x6 Ay ny cy ly hby6.out hly'.out.1 hly'.out.2.1 (by have := hly'.out.2.2; omega)).mono ?_
        rintro e x7 ⟨hR, h7⟩
        obtain ⟨A7, c7, rfl, row7⟩ := hp'.out.1 _ _ hR
        clear hR
        have n7 := below_new x7 (.cells #[.int .i64 b1, .int .i64 b2, .int .i64 b3, .slice A7 nl c7, .string b4, .int .i64 b5] 86)
        have k7 := h7.trans (n7.mono h7.size)
        have hr28 := hr26.out.below k7 hr26.out.lt
        have hr48 := hr46.out.below k7 hr46.out.lt
        have hr68 := Lib.hid (hr6'.out.below k7 hr6'.out.lt)
        have hr8 := Holds.new x7 86 #[.int .i64 b1, .int .i64 b2, .int .i64 b3, .slice A7 nl c7, .string b4, .int .i64 b5]
        have row68 := Lib.hid ((row6.out.below k7).more k7.size)
        have row8 := Lib.hid ((row7.below n7).more n7.size)
        have k8 := Lib.hid (k6.out.trans (k7.mono k6.out.size))
        clear k7 k6 h7 hby6 hr26 hr46 hr6' row6 row7 n7
        have hr8 := Lib.hid hr8
        rename_i hr8'
        clear hr8'
        have d0 := (hr28.fact 0 rfl).2
        have d1 := (hr28.fact 1 rfl).2
        have d2 := (hr28.fact 2 rfl).2
        have d3 := (hr28.fact 3 rfl).2
        have f0 := (hr48.fact 0 rfl).2
        have f1 := (hr48.fact 1 rfl).2
        have f2 := (hr48.fact 2 rfl).2
        have f3 := (hr48.fact 3 rfl).2
        clear hr28 hr48
        go_wp2_with fail
        clear d0 d1 d2 d3 f0 f1 f2 f3
        generalize x7.alloc (.cells #[.int .i64 b1, .int .i64 b2, .int .i64 b3, .slice A7 nl c7, .string b4, .int .i64 b5] 86) = x8 at k8 hr68 hr8 row68 row8 ⊢
        generalize x7.heap.size = r8 at hr8 ⊢
        refine (same_any x8 a1 a2 a3 a4).mono ?_
        rintro e x9 ⟨rfl, h9⟩
        have hr69 := hr68.out.below h9 hr68.out.lt
        have hr89 := hr8.out.below h9 hr8.out.lt
        have row69 := Lib.hid ((row68.out.below h9).more h9.size)
        have row89 := Lib.hid ((row8.out.below h9).more h9.size)
        have k9 := Lib.hid (k8.out.trans (h9.mono k8.out.size))
        clear h9 k8 hr68 hr8 row68 row8
        have d0 := (hr69.fact 0 rfl).2
        have d1 := (hr69.fact 1 rfl).2
        have d2 := (hr69.fact 2 rfl).2
        have d3 := (hr69.fact 3 rfl).2
        have d4 := (hr69.fact 4 rfl).2
        have d5 := (hr69.fact 5 rfl).2
        have f0 := (hr89.fact 0 rfl).2
        have f1 := (hr89.fact 1 rfl).2
        have f2 := (hr89.fact 2 rfl).2
        have f3 := (hr89.fact 3 rfl).2
        have f4 := (hr89.fact 4 rfl).2
        have f5 := (hr89.fact 5 rfl).2
        clear hr69 hr89
        go_wp2_with fail
        clear d0 d1 d2 d3 d4 d5 f0 f1 f2 f3 f4 f5
        refine (replyEq_any x9 b1 b2 b3 A5 A7 nl c5 c7 al b4 b5 hp'.out.2.1 (by have := hp'.out.2.2; unfold maxLen; omega) row69.out row89.out).mono ?_
        rintro e x10 ⟨rfl, h10⟩
        have k10 := Lib.hid ((hbr6.out.trans (k9.out.mono hbr6.out.size)).trans (h10.mono (Nat.le_trans hbr6.out.size k9.out.size)))
        clear h10 k9 row69 row89
        go_wp2_with fail
        go_roundw
        case rel => exact ⟨j + 1, by omega, by go_num, k10.out⟩
        case measure => simp [intOf]; omega
      · have hbr' := Lib.hid (hb6.out.trans (hbr.mono hB6.out))
        clear hbr
        go_wp2_with fail
        go_ret
        exact ⟨rfl, hbr'.out⟩
  case true =>
    have hsl := Holds.new (w4.setCell ⟨g, k, none⟩ (.int .u8 cx.toNat)) 26 #[.slice A0 n0 c0, .slice (some ⟨g, 0, none⟩) k cap]
    rw [show (w4.setCell ⟨g, k, none⟩ (.int .u8 cx.toNat)).heap.size = w4.heap.size by simp [World.setCell]] at hsl
    have hsl := Lib.hid hsl
    rename_i hsl'
    clear hsl'
    have hbn6 := below_new (w4.setCell ⟨g, k, none⟩ (.int .u8 cx.toNat)) (.cells #[.slice A0 n0 c0, .slice (some ⟨g, 0, none⟩) k cap] 26)
    have hr6 := Lib.hid (hr5.out.up hbn6)
    have hc6 := Lib.hid (Bytes.up (l := ls.take k) (hc5.out.take k) hbn6)
    have hB6 := Lib.hid (Nat.le_trans hB5.out hbn6.size)
    have hb6 := Lib.hid (hb5.out.trans (hbn6.mono hB5.out))
    have hmm : Hid ((ls.take k).length = k ∧ k ≤ cap ∧ k ≤ 50000) := Lib.hid ⟨by have := hls.out; simp; omega, by have := hcap.out; omega, by omega⟩
    clear hbn6 hr5 hB5 hb5 hc5
    go_wp2_with fail
    generalize (w4.setCell ⟨g, k, none⟩ (.int .u8 cx.toNat)).alloc (.cells #[.slice A0 n0 c0, .slice (some ⟨g, 0, none⟩) k cap] 26) = w6 at hsl hr6 hc6 hB6 hb6 ⊢
    generalize w4.heap.size = s6 at hsl ⊢
    have hlx := hmm
    generalize hlxq : ls.take k = lx at hc6 hlx
    clear hmm hlxq
    go_loopw [61] (fun i wr => ∃ j : Nat, j ≤ 2 ∧ i = .int .i64 j ∧ Below w6.heap.size w6 wr) (fun i _ => 2 - (intOf i).toNat)
    case atStart => exact ⟨0, by omega, rfl, Below.refl _ _⟩
    case round =>
      obtain ⟨j, hj, rfl, hbr⟩ := hrel
      by_cases hlt : j < 2
      · obtain ⟨Ay, ny, cy, ly, hcell, hby, hly⟩ : ∃ Ay ny cy, ∃ ly : List UInt8, wr.cell? ⟨s6, j, none⟩ = some (.slice Ay ny cy) ∧ Bytes wr wr.heap.size Ay ly ∧ (ly.length = ny ∧ ny ≤ cy ∧ ny ≤ 50000) := by
          have h := hsl.out.below hbr hsl.out.lt
          rcases (show j = 0 ∨ j = 1 by omega) with rfl | rfl
          · exact ⟨A0, n0, c0, l0, (h.fact 0 rfl).2, hr6.out.up hbr, hl0.out, hc0.out, hn0.out⟩
          · exact ⟨_, _, _, lx, (h.fact 1 rfl).2, hc6.out.up hbr, hlx.out⟩
        have hbr' := Lib.hid (hb6.out.trans (hbr.mono hB6.out))
        have hBr := Lib.hid (Nat.le_trans hB6.out hbr.size)
        have hbr6 := Lib.hid hbr
        have hby' := Lib.hid hby
        have hly' := Lib.hid hly
        clear hbr hby hly
        obtain ⟨a1, a2, a3, a4, z, hq⟩ : ∃ a1 a2 a3 a4 z, retQ (openQ ly) = .returned (.tuple #[.agg #[.int .i64 a1, .string a2, .string a3, .int .i64 a4], .int .i64 z]) := ⟨_, _, _, _, _, retQ_gen _⟩
        obtain ⟨b1, b2, b3, b4, b5, y, al, nl, hp⟩ : ∃ b1 b2 b3 b4 b5 y, ∃ (al : List Al) (nl : Nat), (∀ e w', RetP ly e w' → ∃ A c, e = .returned (.tuple #[.agg #[.int .i64 b1, .int .i64 b2, .int .i64 b3, .slice A nl c, .string b4, .int .i64 b5], .int .i64 y]) ∧ Row w' w'.heap.size A (al.flatMap Al.cells)) ∧ al.length = nl ∧ nl ≤ 50000 :=
          ⟨_, _, _, _, _, _, _, _, fun e w' h => h.gen, rfl, Nat.le_trans (openP_len ly) (by rw [hly'.out.1]; exact hly'.out.2.2)⟩
        have hq' := Lib.hid hq
        have hp' := Lib.hid hp
        clear hq hp
        go_wp2_with fail
        refine (openQ_any wr Ay ny cy ly hby'.out hly'.out.1 (by have := hly'.out.2.2; omega)).mono ?_
        rintro e x1 ⟨rfl, h1⟩
        rw [hq'.out]
        have k1 := h1.trans ((below_new x1 (.cells #[.int .i64 a1, .string a2, .string a3, .int .i64 a4] 78)).mono h1.size)
        have hby2 := Lib.hid (hby'.out.up k1)
        have hr2 := Lib.hid (Holds.new x1 78 #[.int .i64 a1, .string a2, .string a3, .int .i64 a4])
        have k1 := Lib.hid k1
        rename_i k1'
        clear k1' h1 hby'
        go_wp2_with fail
        generalize x1.alloc (.cells #[.int .i64 a1, .string a2, .string a3, .int .i64 a4] 78) = x2 at k1 hby2 hr2 ⊢
        generalize x1.heap.size = r2 at hr2 ⊢
        refine (refOpenQ_any x2 Ay ny cy ly hby2.out hly'.out.1 hly'.out.2.1 (by have := hly'.out.2.2; omega)).mono ?_
        rintro e x3 ⟨rfl, h3⟩
        rw [hq'.out]
        have k3 := h3.trans ((below_new x3 (.cells #[.int .i64 a1, .string a2, .string a3, .int .i64 a4] 78)).mono h3.size)
        have hby4 := Lib.hid (hby2.out.up k3)
        have hr24 := Lib.hid (hr2.out.below k3 hr2.out.lt)
        have hr4 := Lib.hid (Holds.new x3 78 #[.int .i64 a1, .string a2, .string a3, .int .i64 a4])
        have k4 := Lib.hid (k1.out.trans (k3.mono k1.out.size))
        clear k3 k1 h3 hby2 hr2 hq'
        go_wp2_with fail
        generalize x3.alloc (.cells #[.int .i64 a1, .string a2, .string a3, .int .i64 a4] 78) = x4 at k4 hby4 hr24 hr4 ⊢
        generalize x3.heap.size = r4 at hr4 ⊢
        refine (openP_any x4 Ay ny cy ly hby4.out hly'.out.1 (by have := hly'.out.2.2; omega)).mono ?_
        rintro e x5 ⟨hR, h5⟩
        obtain ⟨A5, c5, rfl, row5⟩ := hp'.out.1 _ _ hR
        clear hR
        have n5 := below_new x5 (.cells #[.int .i64 b1, .int .i64 b2, .int .i64 b3, .slice A5 nl c5, .string b4, .int .i64 b5] 86)
        have k5 := h5.trans (n5.mono h5.size)
        have hby6 := Lib.hid (hby4.out.up k5)
        have hr26 := Lib.hid (hr24.out.below k5 hr24.out.lt)
        have hr46 := Lib.hid (hr4.out.below k5 hr4.out.lt)
        have hr6' := Lib.hid (Holds.new x5 86 #[.int .i64 b1, .int .i64 b2, .int .i64 b3, .slice A5 nl c5, .string b4, .int .i64 b5])
        have row6 := Lib.hid ((row5.below n5).more n5.size)
        have k6 := Lib.hid (k4.out.trans (k5.mono k4.out.size))
        clear k5 k4 h5 hby4 hr24 hr4 row5 n5
        go_wp2_with fail
        generalize x5.alloc (.cells #[.int .i64 b1, .int .i64 b2, .int .i64 b3, .slice A5 nl c5, .string b4, .int .i64 b5] 86) = x6 at k6 hby6 hr26 hr46 hr6' row6 ⊢
        generalize x5.heap.size = r6 at hr6' ⊢
        refine (refOpenP_any x6 Ay ny cy ly hby6.out hly'.out.1 hly'.out.2.1 (by have := hly'.out.2.2; omega)).mono ?_
        rintro e x7 ⟨hR, h7⟩
        obtain ⟨A7, c7, rfl, row7⟩ := hp'.out.1 _ _ hR
        clear hR
        have n7 := below_new x7 (.cells #[.int .i64 b1, .int .i64 b2, .int .i64 b3, .slice A7 nl c7, .string b4, .int .i64 b5] 86)
        have k7 := h7.trans (n7.mono h7.size)
        have hr28 := hr26.out.below k7 hr26.out.lt
        have hr48 := hr46.out.below k7 hr46.out.lt
        have hr68 := Lib.hid (hr6'.out.below k7 hr6'.out.lt)
        have hr8 := Holds.new x7 86 #[.int .i64 b1, .int .i64 b2, .int .i64 b3, .slice A7 nl c7, .string b4, .int .i64 b5]
        have row68 := Lib.hid ((row6.out.below k7).more k7.size)
        have row8 := Lib.hid ((row7.below n7).more n7.size)
        have k8 := Lib.hid (k6.out.trans (k7.mono k6.out.size))
        clear k7 k6 h7 hby6 hr26 hr46 hr6' row6 row7 n7
        have hr8 := Lib.hid hr8
        rename_i hr8'
        clear hr8'
        have d0 := (hr28.fact 0 rfl).2
        have d1 := (hr28.fact 1 rfl).2
        have d2 := (hr28.fact 2 rfl).2
        have d3 := (hr28.fact 3 rfl).2
        have f0 := (hr48.fact 0 rfl).2
        have f1 := (hr48.fact 1 rfl).2
        have f2 := (hr48.fact 2 rfl).2
        have f3 := (hr48.fact 3 rfl).2
        clear hr28 hr48
        go_wp2_with fail
        clear d0 d1 d2 d3 f0 f1 f2 f3
        generalize x7.alloc (.cells #[.int .i64 b1, .int .i64 b2, .int .i64 b3, .slice A7 nl c7, .string b4, .int .i64 b5] 86) = x8 at k8 hr68 hr8 row68 row8 ⊢
        generalize x7.heap.size = r8 at hr8 ⊢
        refine (same_any x8 a1 a2 a3 a4).mono ?_
        rintro e x9 ⟨rfl, h9⟩
        have hr69 := hr68.out.below h9 hr68.out.lt
        have hr89 := hr8.out.below h9 hr8.out.lt
        have row69 := Lib.hid ((row68.out.below h9).more h9.size)
        have row89 := Lib.hid ((row8.out.below h9).more h9.size)
        have k9 := Lib.hid (k8.out.trans (h9.mono k8.out.size))
        clear h9 k8 hr68 hr8 row68 row8
        have d0 := (hr69.fact 0 rfl).2
        have d1 := (hr69.fact 1 rfl).2
        have d2 := (hr69.fact 2 rfl).2
        have d3 := (hr69.fact 3 rfl).2
        have d4 := (hr69.fact 4 rfl).2
        have d5 := (hr69.fact 5 rfl).2
        have f0 := (hr89.fact 0 rfl).2
        have f1 := (hr89.fact 1 rfl).2
        have f2 := (hr89.fact 2 rfl).2
        have f3 := (hr89.fact 3 rfl).2
        have f4 := (hr89.fact 4 rfl).2
        have f5 := (hr89.fact 5 rfl).2
        clear hr69 hr89
        go_wp2_with fail
        clear d0 d1 d2 d3 d4 d5 f0 f1 f2 f3 f4 f5
        refine (replyEq_any x9 b1 b2 b3 A5 A7 nl c5 c7 al b4 b5 hp'.out.2.1 (by have := hp'.out.2.2; unfold maxLen; omega) row69.out row89.out).mono ?_
        rintro e x10 ⟨rfl, h10⟩
        have k10 := Lib.hid ((hbr6.out.trans (k9.out.mono hbr6.out.size)).trans (h10.mono (Nat.le_trans hbr6.out.size k9.out.size)))
        clear h10 k9 row69 row89
        go_wp2_with fail
        go_roundw
        case rel => exact ⟨j + 1, by omega, by go_num, k10.out⟩
        case measure => simp [intOf]; omega
      · have hbr' := Lib.hid (hb6.out.trans (hbr.mono hB6.out))
        clear hbr
        go_wp2_with fail
        go_ret
        exact ⟨rfl, hbr'.out⟩
theorem readsq_walk (W : World) (v0 v1 v2 v3 v4 : Value) (o0 : ArgOk 26 W v0) (o1 : ArgOk 78 W v1) (o2 : ArgOk 3 W v2) (o3 : ArgOk 5 W v3) (o4 : ArgOk 4 W v4) :
    Calls Try.prog 9 #[v0, v1, v2, v3, v4] W fun e w' => e = .returned (.bool true) ∧ Below W.heap.size W w' := by
  obtain ⟨A, n, c, l, rfl, hl, hc, hm, hr⟩ := o0.bytes
  obtain ⟨qk, qn, qt, qz, rfl, h1, _, _, h4⟩ := o1.req
  obtain ⟨pos, rfl, _, _⟩ := o2.int
  obtain ⟨x, rfl, hx⟩ := o3.u8
  obtain ⟨b, rfl⟩ := o4.flag
  have := readsq_B W W.heap.size (Lib.hid (Nat.le_refl _)) A n c l (Lib.hid hl) (Lib.hid hc) (Lib.hid hr) qk qn qt qz pos (UInt8.ofNat x) b (Lib.hid h1) (Lib.hid h4)
  rw [show ((UInt8.ofNat x).toNat : Int) = x by simp; omega] at this
  exact this
end Go.Proofs.Ytimhghmnnibajaa
