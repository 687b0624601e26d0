/-
  The walk of the reference's PtsText.
-/
import Derived.Test.YtkohobkeapcpfaaPtY
namespace Go.Proofs.Ytkohobkeapcpfaa
open Go.RowKit

set_option maxRecDepth 100000 in
set_option maxHeartbeats 4000000 in
theorem reftext_true (w0 : World) (pc : List S) (v : Value) (h : PtsV w0 ⟨true, pc⟩ v) (hn : pc.length ≤ 1000) (hx : ∀ x ∈ pc, x.length ≤ 1000) :
    Calls Try.prog 20 #[v] w0 fun e w' => e = .returned (encStr (textP ⟨true, pc⟩)) ∧ Below w0.heap.size w0 w' := by
  obtain ⟨A, c, rfl, hr, hc⟩ := h
  have K0 := ((Kp.start (Below.refl w0.heap.size w0)).addR hr).new 25 #[.bool true, .slice A pc.length c]
  have hx' := Lib.hid hx
  clear hr hx
  go_enter Try.func20, Try.ntmps20
  go_wp2_with fail
  generalize w0.alloc (.cells #[.bool true, .slice A pc.length c] 25) = w1 at K0 ⊢
  generalize hB0 : w0.heap.size = B0 at K0 ⊢
  have hB0' := Lib.hid hB0
  clear hB0
  refine (refPts_any _ ⟨true, pc⟩ _ ⟨A, c, rfl, K0.row 0 _ _ rfl, hc⟩ (by show pc.length ≤ _; omega)).mono ?_
  rintro e w2 ⟨⟨v2, rfl, A2, c2, rfl, hr2, hc2⟩, hb2⟩
  have K1 := K0.up hb2
  have hg2 := K1.hold 0 _ _ _ rfl
  have z0 := (hg2.fact 0 rfl).2
  have z1 := (hg2.fact 1 rfl).2
  have f0 := hg2.frozen 0
  have f1 := hg2.frozen 1
  have hst := writes_store2 w2 B0 (.bool true) (.slice A2 (canon pc).length c2)
  have hg3 := hg2.store2 (.bool true) (.slice A2 (canon pc).length c2)
  have hr3 := (hst.row hr2 (Nat.le_refl _) (fun hne => hr2.apartPt hg2 hne)).more hst.size
  have hb3 := K1.bel.trans (hst.below K1.size (fun j hj => by simp at hj; have := hB0'.out; omega))
  have K := ((Kp.start hb3).addH hg3).addR hr3
  clear K0 K1 hg2 hst hg3 hr3 hb3 hr2 hb2
  have hg0 := (K.fact 0 0 rfl rfl).2
  have hg1 := (K.fact 0 1 rfl rfl).2
  have hcn : (canon pc).length ≤ 1000 := Nat.le_trans (canon_len pc) hn
  go_wp2_with fail
  generalize (w2.setCell ⟨B0, 0, none⟩ (.bool true)).setCell ⟨B0, 1, none⟩ (.slice A2 (canon pc).length c2) = wz at *
  have hall : Hid (∀ x ∈ [nul4] ++ canon pc, x.length ≤ 1000) := Lib.hid (by
    intro x hx
    rcases List.mem_append.1 hx with h | h
    · simp [nul4] at h
      subst h
      simp
    · exact hx'.out x (mem_canon.1 h))
  have htx : Hid (textP ⟨true, pc⟩ = 123 :: (Lib.join ([nul4] ++ canon pc) [44] ++ [125])) := Lib.hid rfl
  obtain ⟨cs, hcs0⟩ : ∃ cs, cs = canon pc := ⟨_, rfl⟩
  rw [← hcs0] at hcn hall htx hg1 K ⊢
  clear hcs0 z0 z1 f0 f1
  have hjl : Hid (∀ k, k ≤ cs.length → (Lib.join ([nul4] ++ cs.take k) [44]).length ≤ 1002001) := Lib.hid (by
    intro k hk
    have h1 := join_len (sep := [44]) (N := 1000) ([nul4] ++ cs.take k) (fun x hx => hall.out x (by
      rcases List.mem_append.1 hx with h | h
      · exact List.mem_append_left _ h
      · exact List.mem_append_right _ (List.mem_of_mem_take h)))
    refine Nat.le_trans h1 ?_
    have : ([nul4] ++ cs.take k).length ≤ 1001 := by simp; omega
    simp only [List.length_cons, List.length_nil]
    omega)
  go_loop [3, 4] (fun sv iv => ∃ (k : Nat) (s : S), k ≤ cs.length ∧ iv = .int .i64 k ∧ sv = encStr s ∧ s = Lib.join ([nul4] ++ cs.take k) [44]) (fun _ iv => cs.length - (intOf iv).toNat)
  case atStart => exact ⟨0, nul4, by omega, rfl, rfl, by simp [Lib.join_one]⟩
  obtain ⟨k, s, hk, rfl, rfl, hs0⟩ := hrel
  have hsl : s.length ≤ 1002001 := by rw [hs0]; exact hjl.out k hk
  have hs := Lib.hid hs0
  clear hs0
  by_cases hlt : k < cs.length
  · obtain ⟨b, off, rfl, _, hcell⟩ := (K.row 0 _ _ rfl).at_ (k := k) (by simpa using hlt)
    rw [List.getElem_map] at hcell
    have htk := Lib.hid (List.take_succ_eq_append_getElem hlt)
    have hxl : cs[k].length ≤ 1000 := hall.out _ (List.mem_append_right _ (List.getElem_mem hlt))
    generalize cs[k] = x at hcell htk hxl
    have hj : Hid (Lib.join ([nul4] ++ cs.take (k + 1)) [44] = s ++ [44] ++ x) := Lib.hid (by
      rw [htk.out, ← List.append_assoc, join_snoc _ _ (by simp), ← hs.out])
    go_wp2_with fail
    go_round
    case rel => exact ⟨k + 1, s ++ [44] ++ x, by omega, by first | rfl | go_num, by show Value.string _ = Value.string _; rw [← cat_enc, ← cat_enc], by rw [hj.out]⟩
    case measure => simp [intOf]; omega
  · obtain rfl : k = cs.length := by omega
    have hfin : Hid (textP ⟨true, pc⟩ = 123 :: (s ++ [125])) := Lib.hid (by rw [htx.out, hs.out, List.take_length])
    go_wp2_with fail
    go_ret
    exact ⟨by rw [hfin.out]; exact congrArg (fun z => Ending.returned (Value.string z)) (text_val s), K.bel⟩

set_option maxRecDepth 100000 in
set_option maxHeartbeats 4000000 in
theorem reftext_false (w0 : World) (pc : List S) (v : Value) (h : PtsV w0 ⟨false, pc⟩ v) (hn : pc.length ≤ 1000) (hx : ∀ x ∈ pc, x.length ≤ 1000) :
    Calls Try.prog 20 #[v] w0 fun e w' => e = .returned (encStr (textP ⟨false, pc⟩)) ∧ Below w0.heap.size w0 w' := by
  obtain ⟨A, c, rfl, hr, hc⟩ := h
  have K0 := ((Kp.start (Below.refl w0.heap.size w0)).addR hr).new 25 #[.bool false, .slice A pc.length c]
  have hx' := Lib.hid hx
  clear hr hx
  go_enter Try.func20, Try.ntmps20
  go_wp2_with fail
  generalize w0.alloc (.cells #[.bool false, .slice A pc.length c] 25) = w1 at K0 ⊢
  generalize hB0 : w0.heap.size = B0 at K0 ⊢
  have hB0' := Lib.hid hB0
  clear hB0
  refine (refPts_any _ ⟨false, pc⟩ _ ⟨A, c, rfl, K0.row 0 _ _ rfl, hc⟩ (by show pc.length ≤ _; omega)).mono ?_
  rintro e w2 ⟨⟨v2, rfl, A2, c2, rfl, hr2, hc2⟩, hb2⟩
  have K1 := K0.up hb2
  have hg2 := K1.hold 0 _ _ _ rfl
  have z0 := (hg2.fact 0 rfl).2
  have z1 := (hg2.fact 1 rfl).2
  have f0 := hg2.frozen 0
  have f1 := hg2.frozen 1
  have hst := writes_store2 w2 B0 (.bool false) (.slice A2 (canon pc).length c2)
  have hg3 := hg2.store2 (.bool false) (.slice A2 (canon pc).length c2)
  have hr3 := (hst.row hr2 (Nat.le_refl _) (fun hne => hr2.apartPt hg2 hne)).more hst.size
  have hb3 := K1.bel.trans (hst.below K1.size (fun j hj => by simp at hj; have := hB0'.out; omega))
  have K := ((Kp.start hb3).addH hg3).addR hr3
  clear K0 K1 hg2 hst hg3 hr3 hb3 hr2 hb2
  have hg0 := (K.fact 0 0 rfl rfl).2
  have hg1 := (K.fact 0 1 rfl rfl).2
  have hcn : (canon pc).length ≤ 1000 := Nat.le_trans (canon_len pc) hn
  go_wp2_with fail
  generalize (w2.setCell ⟨B0, 0, none⟩ (.bool false)).setCell ⟨B0, 1, none⟩ (.slice A2 (canon pc).length c2) = wz at *
  have hall : Hid (∀ x ∈ ([] : List S) ++ canon pc, x.length ≤ 1000) := Lib.hid (by
    intro x hx
    rcases List.mem_append.1 hx with h | h
    · simp at h
    · exact hx'.out x (mem_canon.1 h))
  have htx : Hid (textP ⟨false, pc⟩ = 123 :: (Lib.join (([] : List S) ++ canon pc) [44] ++ [125])) := Lib.hid rfl
  obtain ⟨cs, hcs0⟩ : ∃ cs, cs = canon pc := ⟨_, rfl⟩
  rw [← hcs0] at hcn hall htx hg1 K ⊢
  clear hcs0 z0 z1 f0 f1
  have hjl : Hid (∀ k, k ≤ cs.length → (Lib.join (([] : List S) ++ cs.take k) [44]).length ≤ 1002001) := Lib.hid (by
    intro k hk
    have h1 := join_len (sep := [44]) (N := 1000) (([] : List S) ++ cs.take k) (fun x hx => hall.out x (by
      rcases List.mem_append.1 hx with h | h
      · exact List.mem_append_left _ h
      · exact List.mem_append_right _ (List.mem_of_mem_take h)))
    refine Nat.le_trans h1 ?_
    have : (([] : List S) ++ cs.take k).length ≤ 1001 := by simp; omega
    simp only [List.length_cons, List.length_nil]
    omega)
  go_loop [3, 4] (fun sv iv => ∃ (k : Nat) (s : S), k ≤ cs.length ∧ iv = .int .i64 k ∧ sv = encStr s ∧ s = Lib.join (([] : List S) ++ cs.take k) [44]) (fun _ iv => cs.length - (intOf iv).toNat)
  case atStart => exact ⟨0, [], by omega, rfl, rfl, by simp [Lib.join_nil]⟩
  obtain ⟨k, s, hk, rfl, rfl, hs0⟩ := hrel
  have hsl : s.length ≤ 1002001 := by rw [hs0]; exact hjl.out k hk
  have hs := Lib.hid hs0
  clear hs0
  by_cases hlt : k < cs.length
  · obtain ⟨b, off, rfl, _, hcell⟩ := (K.row 0 _ _ rfl).at_ (k := k) (by simpa using hlt)
    rw [List.getElem_map] at hcell
    have htk := Lib.hid (List.take_succ_eq_append_getElem hlt)
    have hxl : cs[k].length ≤ 1000 := hall.out _ (List.mem_append_right _ (List.getElem_mem hlt))
    generalize cs[k] = x at hcell htk hxl
    rcases Nat.eq_zero_or_pos k with h0 | h0
    · subst h0
      rw [Nat.add_zero] at hcell
      have hj : Hid (Lib.join ([] ++ cs.take (0 + 1)) [44] = s ++ x) := Lib.hid (by
        rw [htk.out, hs.out]
        simp [Lib.join_nil, Lib.join_one])
      go_wp2_with fail
      go_round
      case rel => exact ⟨0 + 1, s ++ x, by omega, by first | rfl | go_num, by show Value.string _ = Value.string _; rw [← cat_enc], by rw [hj.out]⟩
      case measure => simp [intOf]; omega
    · have hj : Hid (Lib.join ([] ++ cs.take (k + 1)) [44] = s ++ [44] ++ x) := Lib.hid (by
        rw [htk.out, ← List.append_assoc, join_snoc _ _ (by
          simp only [List.nil_append]
          intro h
          have := congrArg List.length h
          rw [List.length_take, List.length_nil] at this
          omega), ← hs.out])
      go_wp2_with fail
      go_round
      case rel => exact ⟨k + 1, s ++ [44] ++ x, by omega, by first | rfl | go_num, by show Value.string _ = Value.string _; rw [← cat_enc, ← cat_enc], by rw [hj.out]⟩
      case measure => simp [intOf]; omega
  · obtain rfl : k = cs.length := by omega
    have hfin : Hid (textP ⟨false, pc⟩ = 123 :: (s ++ [125])) := Lib.hid (by rw [htx.out, hs.out, List.take_length])
    go_wp2_with fail
    go_ret
    exact ⟨by rw [hfin.out]; exact congrArg (fun z => Ending.returned (Value.string z)) (text_val s), K.bel⟩

theorem reftext_any (w0 : World) (p : Pz) (v : Value) (h : PtsV w0 p v) (hn : p.cells.length ≤ 1000) (hx : ∀ x ∈ p.cells, x.length ≤ 1000) :
    Calls Try.prog 20 #[v] w0 fun e w' => e = .returned (encStr (textP p)) ∧ Below w0.heap.size w0 w' := by
  obtain ⟨pn, pc⟩ := p
  cases pn
  · exact reftext_false w0 pc v h hn hx
  · exact reftext_true w0 pc v h hn hx
end Go.Proofs.Ytkohobkeapcpfaa
