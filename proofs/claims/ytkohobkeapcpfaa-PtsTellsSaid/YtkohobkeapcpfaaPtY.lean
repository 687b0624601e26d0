/-
  The walks of the reference's Pjoin and PtsText.
-/
import Derived.Test.YtkohobkeapcpfaaPtS
import Derived.Test.YtkohobkeapcpfaaPtG
import Derived.Test.YtkohobkeapcpfaaPtK
import Derived.Test.YtkohobkeapcpfaaRelL
namespace Go.Proofs.Ytkohobkeapcpfaa
open Go.RowKit

theorem join_snoc {sep : S} : ∀ (xs : List S) (c : S), xs ≠ [] → Lib.join (xs ++ [c]) sep = Lib.join xs sep ++ sep ++ c
  | [], _, h => absurd rfl h
  | [x], c, _ => by
    unfold Lib.join
    rw [List.singleton_append, List.intercalate_cons_cons, List.intercalate_singleton, List.intercalate_singleton]
  | x :: y :: r, c, _ => by
    have ih := join_snoc (sep := sep) (y :: r) c (by simp)
    unfold Lib.join at ih ⊢
    rw [List.cons_append, List.cons_append, List.intercalate_cons_cons, ← List.cons_append, ih, List.intercalate_cons_cons]
    simp
theorem cat_enc (x y : S) : (⟨x.toArray⟩ ++ ⟨y.toArray⟩ : ByteArray) = ⟨(x ++ y).toArray⟩ := by
  apply ByteArray.ext
  simp

/-- A region's class: until operation n nothing of ahead has turned; behind it F. -/
def CS (n m : Nat) (w0 : World) (F : World → Prop) (L : Nat → Bool) (w : World) : Prop := (L n = false → Below w0.heap.size w0 w) ∧ (L n = true → L m = true ∧ F w)
section
variable {n m i : Nat} {w0 w w' : World} {F : World → Prop} {L : Nat → Bool}
theorem CS.bel (h : CS n m w0 F L w) (hn : L n = false) : Below w0.heap.size w0 w := h.1 hn
theorem CS.go0 (hn : L n = false) (hi : n ≠ i) (hb : Below w0.heap.size w0 w') : CS n m w0 F (fun k => k == i || L k) w' :=
  ⟨fun _ => hb, fun e => by simp [hi, hn] at e⟩
theorem CS.go (h : CS n m w0 F L w) (hn : L n = false) (hi : n ≠ i) (hb : Below w.heap.size w w') : CS n m w0 F (fun k => k == i || L k) w' := CS.go0 hn hi ((h.1 hn).trans (hb.mono (h.1 hn).size))
theorem CS.last (hm : L m = true) (hF : F w') : CS n m w0 F (fun k => k == n || L k) w' := ⟨fun e => by simp at e, fun _ => ⟨by simp [hm], hF⟩⟩
theorem Till.keepM {R : World → Value → Prop} {v : Value} (h : Till m R L w v) (hC' : CS n m w0 F (fun k => k == i || L k) w') (hG : i ≠ m → i ≠ n → Below w.heap.size w w') (hk : Below w.heap.size w w' → R w v → R w' v) : Till m R (fun k => k == i || L k) w' v := fun e => by
  simp only [Bool.or_eq_false_iff, beq_eq_false_iff_ne] at e
  by_cases h1 : i = n
  · subst h1
    have := (hC'.2 (by simp)).1
    simp only [Bool.or_eq_true, beq_iff_eq] at this
    rcases this with h2 | h2
    · exact absurd h2 e.1
    · rw [e.2] at h2; cases h2
  · exact hk (hG (fun h => e.1 h.symm) h1) (h e.2)
theorem Till.keepN {R : World → Value → Prop} {v : Value} (h : Till n R L w v) (hne : i ≠ m) (hG : i ≠ m → i ≠ n → Below w.heap.size w w') (hk : Below w.heap.size w w' → R w v → R w' v) : Till n R (fun k => k == i || L k) w' v := fun e => by
  simp only [Bool.or_eq_false_iff, beq_eq_false_iff_ne] at e
  exact hk (hG hne (fun h => e.1 h.symm)) (h e.2)
end
theorem flat_take {L : List Pq} {k : Nat} (hk : k < L.length) : (L.take (k + 1)).flatMap (·.p.cells) = (L.take k).flatMap (·.p.cells) ++ L[k].p.cells := by
  rw [List.take_succ_eq_append_getElem hk, List.flatMap_append]
  simp
theorem any_take {L : List Pq} {k : Nat} (hk : k < L.length) : (L.take (k + 1)).any (·.p.nul) = ((L.take k).any (·.p.nul) || L[k].p.nul) := by
  rw [List.take_succ_eq_append_getElem hk, List.any_append]
  simp

set_option maxRecDepth 100000 in
set_option maxHeartbeats 4000000 in
theorem pjoin_any (w0 : World) (A : Option Addr) (n c : Nat) (L : List Pq) (hn : L.length = n) (hm : n ≤ 100) (hL : PtsL w0 w0.heap.size A L) (hs : ∀ q ∈ L, q.p.cells.length ≤ 100) :
    Calls Try.prog 12 #[.slice A n c] w0 (RetP w0 (joinP L)) := by
  obtain ⟨iS, hiS, hzS0, hzS1, hzS2⟩ := info_parts Try.infoStr
  have K0 := ((Kp.start (Below.refl w0.heap.size w0)).new 25 #[.bool false, .slice none 0 0]).new 25 #[.bool false, .slice none 0 0]
  rw [show (w0.alloc (.cells #[.bool false, .slice none 0 0] 25)).heap.size = w0.heap.size + 1 by simp] at K0
  have hn' := Lib.hid hn
  have hL' := Lib.hid hL
  have hs' := Lib.hid hs
  clear hn hL hs
  go_enter Try.func12, Try.ntmps12
  go_wp2_with fail
  generalize (w0.alloc (.cells #[.bool false, .slice none 0 0] 25)).alloc (.cells #[.bool false, .slice none 0 0] 25) = w1 at K0 ⊢
  generalize hB0 : w0.heap.size = B0 at K0 ⊢
  have hB0' := Lib.hid hB0
  clear hB0
  go_loopw [4] (fun i wr => ∃ (k : Nat) (z : Bool) (cur : List S) (A1 : Option Addr) (c1 : Nat), k ≤ n ∧ i = .int .i64 k ∧ z = (L.take k).any (·.p.nul) ∧ cur = (L.take k).flatMap (·.p.cells) ∧ Kp w0 [(B0 + 1, 25, #[.bool z, .slice A1 cur.length c1]), (B0, 25, #[.bool false, .slice none 0 0])] [(A1, cur.map encStr)] wr ∧ cur.length ≤ c1) (fun i _ => n - (intOf i).toNat)
  case atStart => exact ⟨0, false, [], none, 0, by omega, rfl, rfl, rfl, K0.addR (Row.nil_ _ _ _), by simp⟩
  clear K0
  obtain ⟨k, z, cur, A1, c1, hk, rfl, hz0, hcur0, K, hc1⟩ := hrel
  have hz := Lib.hid hz0
  have hcur := Lib.hid hcur0
  clear hz0 hcur0
  have hcl : cur.length ≤ 10000 := by
    have := flat_sum (L := L.take k) (N := 100) (fun q hq => hs'.out q (List.mem_of_mem_take hq))
    rw [← hcur.out, List.length_take, hn'.out] at this
    omega
  have fb0 := (K.fact 0 0 rfl rfl).2
  have fb1 := (K.fact 0 1 rfl rfl).2
  by_cases hlt : k < n
  · have hlt2 : k < L.length := by rw [hn'.out]; exact hlt
    obtain ⟨b, off, rfl, hbl, q0, q1, hrow, hcp⟩ := (hL'.out.below K.bel).at_ hlt2
    have hft := Lib.hid (flat_take hlt2)
    have hat := Lib.hid (any_take hlt2)
    have hsq := hs'.out _ (List.getElem_mem hlt2)
    obtain ⟨q, hq0⟩ : ∃ q, q = L[k] := ⟨_, rfl⟩
    rw [← hq0] at q0 q1 hrow hcp hft hat hsq
    have hq2 := Lib.hid hq0
    clear hq0
    have hrow0 := Lib.hid hrow
    clear hrow
    have fz0 := (K.hold 0 _ _ _ rfl).frozen 0
    have fz1 := (K.hold 0 _ _ _ rfl).frozen 1
    have hbw : b ≠ B0 + 1 := by have := hB0'.out; omega
    cases z
    case false =>
      have hst := Writes.store wr (M := [some (B0 + 1)]) (p := ⟨B0 + 1, 0, none⟩) (by simp) (.bool q.p.nul)
      have hgw0 : Holds (wr.setCell ⟨B0 + 1, 0, none⟩ (.bool q.p.nul)) (B0 + 1) 25 #[.bool q.p.nul, .slice A1 cur.length c1] := by
        have := (K.hold 0 _ _ _ rfl).store 0 (.bool q.p.nul)
        simpa using this
      have hzw0 : Holds (wr.setCell ⟨B0 + 1, 0, none⟩ (.bool q.p.nul)) B0 25 #[.bool false, .slice none 0 0] := hst.holds (K.hold 1 _ _ _ rfl) (by simp)
      have hrw0 := (hst.row (K.row 0 _ _ rfl) (Nat.le_refl _) (fun hne => Row.apartPt (K.row 0 _ _ rfl) (K.hold 0 _ _ _ rfl) hne)).more hst.size
      have hbw0 := K.bel.trans (hst.below K.size (fun j hj => by simp at hj; have := hB0'.out; omega))
      obtain ⟨b2, off2, e2, _, p0, p1, hrow1, hcp1⟩ := (hL'.out.below hbw0).at_ hlt2
      rw [← hq2.out] at p0 p1 hrow1 hcp1
      injection e2 with e2
      injection e2 with e3 e4
      subst e3 e4
      have hgw := Lib.hid hgw0
      have hzw := Lib.hid hzw0
      have hrw := Lib.hid hrw0
      have hbwz := Lib.hid hbw0
      have hp1 := Lib.hid p1
      have hqr := Lib.hid hrow1
      clear hst hgw0 hzw0 hrw0 hbw0 p0 p1 hrow1 K
      go_wp2_with fail
      have hbl2 : b < (wr.setCell ⟨B0 + 1, 0, none⟩ (.bool q.p.nul)).heap.size := Nat.lt_of_lt_of_le hbl hbwz.out.size
      generalize wr.setCell ⟨B0 + 1, 0, none⟩ (.bool q.p.nul) = wz at *
      -- THE REGION THAT DRAWS ITS ORDER, BY ONE LEXICAL WALK OVER GENERIC VALUES (written by relgen.py)
      refine wp_region_tabL ((fun _ _ v => v = .pointer (some ⟨B0 + 1, 1, none⟩)) ::
        (fun _ _ v => v = .slice A1 cur.length c1) ::
        (fun L w v => Till 8 (fun w v => w.ownsRow wz.heap.size 9 1 v cur.length (cur.map encStr)) L w v) ::
        (fun _ _ v => v = .slice (some (⟨b, off, none⟩ : Addr)) n c) ::
        (fun _ _ v => v = .int .i64 k) ::
        (fun _ _ v => v = .pointer (some ⟨b, off + k * 2, none⟩)) ::
        (fun _ _ v => v = .pointer (some ⟨b, off + k * 2 + 1, none⟩)) ::
        (fun _ _ v => v = .slice (Pq.at_ q) (List.length (Pz.cells (Pq.p q))) (Pq.cap q)) ::
        (fun L w v => Till 10 (fun w v => w.ownsRow wz.heap.size 9 1 v (cur ++ q.p.cells).length ((cur ++ q.p.cells).map encStr)) L w v) ::
        (fun _ _ v => v = .pointer (some ⟨B0 + 1, 1, none⟩)) ::
        (fun _ _ _ => True) :: [])
        (⟨[(3, none)], 0, [10]⟩ :: ⟨[(21, some 0)], 0, [10]⟩ :: ⟨[(22, some 1)], 0, [10]⟩ :: ⟨[(0, none)], 0, [10]⟩ :: ⟨[(4, none)], 0, [10]⟩ :: ⟨[(24, some 3), (25, some 4)], 0, [10]⟩ :: ⟨[(26, some 5)], 0, [10]⟩ :: ⟨[(27, some 6)], 0, [10]⟩ :: ⟨[(23, some 2), (28, some 7)], 0, [10]⟩ :: ⟨[(3, none)], 0, [10]⟩ :: ⟨[(30, some 9), (29, some 8)], 0, []⟩ :: [])
        (none :: none :: none :: none :: none :: none :: none :: none :: none :: none :: none :: none :: none :: none :: none :: none :: none :: none :: none :: none :: none :: some 0 :: some 1 :: some 2 :: some 3 :: some 4 :: some 5 :: some 6 :: some 7 :: some 8 :: some 9 :: [])
        (fun L w' => CS 10 8 wz (fun w' => ∃ A2 c2 w1, Below wz.heap.size wz w1 ∧ w1.ownsRow wz.heap.size 9 1 (.slice A2 (cur ++ q.p.cells).length c2) (cur ++ q.p.cells).length ((cur ++ q.p.cells).map encStr) ∧ w' = w1.setCell ⟨B0 + 1, 1, none⟩ (.slice A2 (cur ++ q.p.cells).length c2)) L w') (fun i w w' => i ≠ 8 → i ≠ 10 → Below w.heap.size w w') ?mixK6pjoinf ?okK6pjoinf ?tabK6pjoinf ?frK6pjoinf ?inK6pjoinf ?keptK6pjoinf ?startK6pjoinf ?eachK6pjoinf ?finK6pjoinf
      case mixK6pjoinf => kernel_rfl
      case okK6pjoinf => kernel_rfl
      case tabK6pjoinf => kernel_rfl
      case frK6pjoinf => kernel_rfl
      case inK6pjoinf => rfl
      case keptK6pjoinf => exact ⟨fun _ _ _ _ _ _ _ _ _ _ _ h => h, fun _ _ _ _ _ _ _ _ _ _ _ h => h, fun i hne hrd L w w' v hLi hC hC' hG h => Till.keepM h hC' hG (fun hb h => own_below h hb), fun _ _ _ _ _ _ _ _ _ _ _ h => h, fun _ _ _ _ _ _ _ _ _ _ _ h => h, fun _ _ _ _ _ _ _ _ _ _ _ h => h, fun _ _ _ _ _ _ _ _ _ _ _ h => h, fun _ _ _ _ _ _ _ _ _ _ _ h => h, fun i hne hrd L w w' v hLi hC hC' hG h => Till.keepN h hne hG (fun hb h => own_below h hb), fun _ _ _ _ _ _ _ _ _ _ _ h => h, fun _ _ _ _ _ _ _ _ _ _ _ h => h, trivial⟩
      case startK6pjoinf => exact ⟨fun _ => (Below.refl _ _).drew, fun e => by simp at e⟩
      case eachK6pjoinf =>
        refine ⟨?_, ?_, ?_, ?_, ?_, ?_, ?_, ?_, ?_, ?_, ?_, trivial⟩
        -- 0: slot 21 := fieldAddr 25 t3 1
        · intro w L f hC hLi hLd hLn hF
          obtain ⟨d3, _⟩ := hF
          have d3 : f 3 = .pointer (some ⟨B0 + 1, 0, none⟩) := d3
          refine Step2.live rfl ?_
          have ev : ∀ t, evalOf f (.tmp t) = f t := fun _ => rfl
          have ec : ∀ c, evalOf f (.const c) = c := fun _ => rfl
          have ef : ∀ g, evalOf f (.func g) = .func (.func g) #[] #[] := fun _ => rfl
          refine relUpon_value ?_ (hC.go (i := 0) (hLn 10 (by simp)) (by decide) (Below.refl _ _)) (fun _ _ => Below.refl _ _) rfl
          go_simp
        -- 1: slot 22 := load 23 t21
        · intro w L f hC hLi hLd hLn hF
          obtain ⟨d21, _⟩ := hF
          have d21 : f 21 = .pointer (some ⟨B0 + 1, 1, none⟩) := d21
          refine Step2.live rfl ?_
          have hh := hgw.out.below (hC.bel (hLn 10 (by simp))) hgw.out.lt
          have f1 := (hh.fact 1 rfl).2
          have ev : ∀ t, evalOf f (.tmp t) = f t := fun _ => rfl
          have ec : ∀ c, evalOf f (.const c) = c := fun _ => rfl
          have ef : ∀ g, evalOf f (.func g) = .func (.func g) #[] #[] := fun _ => rfl
          refine relUpon_value ?_ (hC.go (i := 1) (hLn 10 (by simp)) (by decide) (Below.refl _ _)) (fun _ _ => Below.refl _ _) rfl
          go_simp
        -- 2: slot 23 := call { builtin append, args := #[const (Value.slice none 0 0), t22], argTypes := #[23, 23]
        · intro w L f hC hLi hLd hLn hF
          obtain ⟨d22, _⟩ := hF
          have d22 : f 22 = .slice A1 cur.length c1 := d22
          refine Step2.live rfl ?_
          have ev : ∀ t, evalOf f (.tmp t) = f t := fun _ => rfl
          have ec : ∀ c, evalOf f (.const c) = c := fun _ => rfl
          have ef : ∀ g, evalOf f (.func g) = .func (.func g) #[] #[] := fun _ => rfl
          refine relUpon_append_row w (.const (.slice none 0 0)) (.tmp 22) 23 rfl wz.heap.size 9 iS (.string ⟨#[]⟩) 16 Try.underlying23 hiS hzS0 hzS1 hzS2 rfl (.slice none 0 0) 0 [] (by rw [ec]) (World.ownsRow_nil _ _ _ _) wz.heap.size A1 cur.length c1 (cur.map encStr) (by rw [ev, d22]) (by simp) (hrw.out.below (hC.bel (hLn 10 (by simp)))) enc_one (by unfold maxLen; omega) (by omega) (hC.bel (hLn 10 (by simp))).size ?_
          intro v' w' ho hg _
          have hb : Below w.heap.size w w' := ⟨hg.os, hg.tape, hg.output, hg.size, fun k hk => hg.block k hk (by simp [Value.ownBlock])⟩
          exact ⟨hC.go (i := 2) (hLn 10 (by simp)) (by decide) hb, fun _ _ => hb, fun _ => by simpa using ho⟩
        -- 3: slot 24 := move t0
        · intro w L f hC hLi hLd hLn hF
          obtain ⟨d0, _⟩ := hF
          have d0 : f 0 = .slice (some (⟨b, off, none⟩ : Addr)) n c := d0
          refine Step2.live rfl ?_
          exact relUpon_value (v := f 0) rfl (hC.go (i := 3) (hLn 10 (by simp)) (by decide) (Below.refl _ _)) (fun _ _ => Below.refl _ _) d0
        -- 4: slot 25 := move t4
        · intro w L f hC hLi hLd hLn hF
          obtain ⟨d4, _⟩ := hF
          have d4 : f 4 = .int .i64 k := d4
          refine Step2.live rfl ?_
          exact relUpon_value (v := f 4) rfl (hC.go (i := 4) (hLn 10 (by simp)) (by decide) (Below.refl _ _)) (fun _ _ => Below.refl _ _) d4
        -- 5: slot 26 := indexAddr 22 t24 t25
        · intro w L f hC hLi hLd hLn hF
          obtain ⟨d24, d25, _⟩ := hF
          have d24 : f 24 = .slice (some (⟨b, off, none⟩ : Addr)) n c := d24
          have d25 : f 25 = .int .i64 k := d25
          refine Step2.live rfl ?_
          have ev : ∀ t, evalOf f (.tmp t) = f t := fun _ => rfl
          have ec : ∀ c, evalOf f (.const c) = c := fun _ => rfl
          have ef : ∀ g, evalOf f (.func g) = .func (.func g) #[] #[] := fun _ => rfl
          refine relUpon_value ?_ (hC.go (i := 5) (hLn 10 (by simp)) (by decide) (Below.refl _ _)) (fun _ _ => Below.refl _ _) rfl
          go_simp
        -- 6: slot 27 := fieldAddr 25 t26 1
        · intro w L f hC hLi hLd hLn hF
          obtain ⟨d26, _⟩ := hF
          have d26 : f 26 = .pointer (some ⟨b, off + k * 2, none⟩) := d26
          refine Step2.live rfl ?_
          have ev : ∀ t, evalOf f (.tmp t) = f t := fun _ => rfl
          have ec : ∀ c, evalOf f (.const c) = c := fun _ => rfl
          have ef : ∀ g, evalOf f (.func g) = .func (.func g) #[] #[] := fun _ => rfl
          refine relUpon_value ?_ (hC.go (i := 6) (hLn 10 (by simp)) (by decide) (Below.refl _ _)) (fun _ _ => Below.refl _ _) rfl
          go_simp
        -- 7: slot 28 := load 23 t27
        · intro w L f hC hLi hLd hLn hF
          obtain ⟨d27, _⟩ := hF
          have d27 : f 27 = .pointer (some ⟨b, off + k * 2 + 1, none⟩) := d27
          refine Step2.live rfl ?_
          have hcell := ((hC.bel (hLn 10 (by simp))).cell (p := ⟨b, off + k * 2 + 1, none⟩) hbl2).trans hp1.out
          have ev : ∀ t, evalOf f (.tmp t) = f t := fun _ => rfl
          have ec : ∀ c, evalOf f (.const c) = c := fun _ => rfl
          have ef : ∀ g, evalOf f (.func g) = .func (.func g) #[] #[] := fun _ => rfl
          refine relUpon_value ?_ (hC.go (i := 7) (hLn 10 (by simp)) (by decide) (Below.refl _ _)) (fun _ _ => Below.refl _ _) rfl
          go_simp
        -- 8: slot 29 := call { builtin append, args := #[t23, t28], argTypes := #[23, 23] }
        · intro w L f hC hLi hLd hLn hF
          obtain ⟨d23, d28, _⟩ := hF
          have d28 : f 28 = .slice (Pq.at_ q) (List.length (Pz.cells (Pq.p q))) (Pq.cap q) := d28
          refine Step2.live rfl ?_
          have ho1 := d23 hLi
          have ev : ∀ t, evalOf f (.tmp t) = f t := fun _ => rfl
          have ec : ∀ c, evalOf f (.const c) = c := fun _ => rfl
          have ef : ∀ g, evalOf f (.func g) = .func (.func g) #[] #[] := fun _ => rfl
          refine relUpon_append_row w (.tmp 23) (.tmp 28) 23 rfl wz.heap.size 9 iS (.string ⟨#[]⟩) 16 Try.underlying23 hiS hzS0 hzS1 hzS2 rfl (f 23) cur.length (cur.map encStr) (by rw [ev]) ho1 wz.heap.size (Pq.at_ q) (List.length (Pz.cells (Pq.p q))) (Pq.cap q) (q.p.cells.map encStr) (by rw [ev, d28]) (by simp) ((hqr.out.more hbwz.out.size).below (hC.bel (hLn 10 (by simp)))) enc_one (by unfold maxLen; omega) (by omega) (hC.bel (hLn 10 (by simp))).size ?_
          intro v' w' ho hg _
          exact ⟨CS.go0 (hLn 10 (by simp)) (by decide) (below_grown (hC.bel (hLn 10 (by simp))) ho1 hg), fun h => absurd rfl h, fun _ => by rw [List.length_append, List.map_append]; exact ho⟩
        -- 9: slot 30 := fieldAddr 25 t3 1
        · intro w L f hC hLi hLd hLn hF
          obtain ⟨d3, _⟩ := hF
          have d3 : f 3 = .pointer (some ⟨B0 + 1, 0, none⟩) := d3
          refine Step2.live rfl ?_
          have ev : ∀ t, evalOf f (.tmp t) = f t := fun _ => rfl
          have ec : ∀ c, evalOf f (.const c) = c := fun _ => rfl
          have ef : ∀ g, evalOf f (.func g) = .func (.func g) #[] #[] := fun _ => rfl
          refine relUpon_value ?_ (hC.go (i := 9) (hLn 10 (by simp)) (by decide) (Below.refl _ _)) (fun _ _ => Below.refl _ _) rfl
          go_simp
        -- 10: slot None := store 23 t30 t29
        · intro w L f hC hLi hLd hLn hF
          obtain ⟨d30, d29, _⟩ := hF
          have d30 : f 30 = .pointer (some ⟨B0 + 1, 1, none⟩) := d30
          refine Step2.live rfl ?_
          have ho1 := d29 hLi
          obtain ⟨A2, c2, e29, hr, hc⟩ := own_rowA ho1
          rw [e29] at ho1
          have hh := hgw.out.below (hC.bel hLi) hgw.out.lt
          have z1 := (hh.fact 1 rfl).2
          have f1 := hh.frozen 1
          have ev : ∀ t, evalOf f (.tmp t) = f t := fun _ => rfl
          have ec : ∀ c, evalOf f (.const c) = c := fun _ => rfl
          have ef : ∀ g, evalOf f (.func g) = .func (.func g) #[] #[] := fun _ => rfl
          refine relUpon_skip ?_ (CS.last (hLd 8 (by decide)) ⟨A2, c2, w, hC.bel hLi, ho1, rfl⟩) (fun _ h => absurd rfl h) trivial
          go_simp
      intro x w' hC hV

      obtain ⟨A2, c2, w2, hb2, ho2, hw2⟩ := (hC.2 rfl).2
      clear hV
      simp only [framed]
      have hst := Writes.store w2 (M := [some (B0 + 1)]) (p := ⟨B0 + 1, 1, none⟩) (by simp) (.slice A2 (cur ++ q.p.cells).length c2)
      obtain ⟨A3, c3, e3, hr3, hc3⟩ := own_val ho2 hst (fun j hj => by simp at hj; have := hgw.out.lt; omega)
      injection e3 with e3 _ e4
      subst e3 e4
      have hg2 := hgw.out.below hb2 hgw.out.lt
      have hg3 : Holds (w2.setCell ⟨B0 + 1, 1, none⟩ (.slice A2 (cur ++ q.p.cells).length c2)) (B0 + 1) 25 #[.bool q.p.nul, .slice A2 (cur ++ q.p.cells).length c2] := by
        have := hg2.store 1 (.slice A2 (cur ++ q.p.cells).length c2)
        simpa using this
      have hz3 := hst.holds (hzw.out.below hb2 hzw.out.lt) (by simp)
      have hb3 := (hbwz.out.trans (hb2.mono hbwz.out.size)).trans (hst.below (Nat.le_trans hbwz.out.size hb2.size) (fun j hj => by simp at hj; have := hB0'.out; omega))
      rw [← hw2] at hr3 hg3 hz3 hb3
      have K2 := (((Kp.start hb3).addH hz3).addH hg3).addR hr3
      clear hw2 hst hr3 hg2 hg3 hz3 hb3 hb2 ho2 hC
      go_wp2_with fail
      go_roundw
      case rel => exact ⟨k + 1, q.p.nul, cur ++ q.p.cells, A2, c2, by omega, by go_num, by rw [hat.out, ← hz.out]; rfl, by rw [hft.out, ← hcur.out], K2, hc3⟩
      case measure => simp [intOf]; omega
    case true =>
      have hst := Writes.store wr (M := [some (B0 + 1)]) (p := ⟨B0 + 1, 0, none⟩) (by simp) (.bool true)
      have hgw0 : Holds (wr.setCell ⟨B0 + 1, 0, none⟩ (.bool true)) (B0 + 1) 25 #[.bool true, .slice A1 cur.length c1] := by
        have := (K.hold 0 _ _ _ rfl).store 0 (.bool true)
        simpa using this
      have hzw0 : Holds (wr.setCell ⟨B0 + 1, 0, none⟩ (.bool true)) B0 25 #[.bool false, .slice none 0 0] := hst.holds (K.hold 1 _ _ _ rfl) (by simp)
      have hrw0 := (hst.row (K.row 0 _ _ rfl) (Nat.le_refl _) (fun hne => Row.apartPt (K.row 0 _ _ rfl) (K.hold 0 _ _ _ rfl) hne)).more hst.size
      have hbw0 := K.bel.trans (hst.below K.size (fun j hj => by simp at hj; have := hB0'.out; omega))
      obtain ⟨b2, off2, e2, _, p0, p1, hrow1, hcp1⟩ := (hL'.out.below hbw0).at_ hlt2
      rw [← hq2.out] at p0 p1 hrow1 hcp1
      injection e2 with e2
      injection e2 with e3 e4
      subst e3 e4
      have hgw := Lib.hid hgw0
      have hzw := Lib.hid hzw0
      have hrw := Lib.hid hrw0
      have hbwz := Lib.hid hbw0
      have hp1 := Lib.hid p1
      have hqr := Lib.hid hrow1
      clear hst hgw0 hzw0 hrw0 hbw0 p0 p1 hrow1 K
      go_wp2_with fail
      have hbl2 : b < (wr.setCell ⟨B0 + 1, 0, none⟩ (.bool true)).heap.size := Nat.lt_of_lt_of_le hbl hbwz.out.size
      generalize wr.setCell ⟨B0 + 1, 0, none⟩ (.bool true) = wz at *
      -- THE REGION THAT DRAWS ITS ORDER, BY ONE LEXICAL WALK OVER GENERIC VALUES (written by relgen.py)
      refine wp_region_tabL ((fun _ _ v => v = .pointer (some ⟨B0 + 1, 1, none⟩)) ::
        (fun _ _ v => v = .slice A1 cur.length c1) ::
        (fun L w v => Till 8 (fun w v => w.ownsRow wz.heap.size 9 1 v cur.length (cur.map encStr)) L w v) ::
        (fun _ _ v => v = .slice (some (⟨b, off, none⟩ : Addr)) n c) ::
        (fun _ _ v => v = .int .i64 k) ::
        (fun _ _ v => v = .pointer (some ⟨b, off + k * 2, none⟩)) ::
        (fun _ _ v => v = .pointer (some ⟨b, off + k * 2 + 1, none⟩)) ::
        (fun _ _ v => v = .slice (Pq.at_ q) (List.length (Pz.cells (Pq.p q))) (Pq.cap q)) ::
        (fun L w v => Till 10 (fun w v => w.ownsRow wz.heap.size 9 1 v (cur ++ q.p.cells).length ((cur ++ q.p.cells).map encStr)) L w v) ::
        (fun _ _ v => v = .pointer (some ⟨B0 + 1, 1, none⟩)) ::
        (fun _ _ _ => True) :: [])
        (⟨[(3, none)], 0, [10]⟩ :: ⟨[(21, some 0)], 0, [10]⟩ :: ⟨[(22, some 1)], 0, [10]⟩ :: ⟨[(0, none)], 0, [10]⟩ :: ⟨[(4, none)], 0, [10]⟩ :: ⟨[(24, some 3), (25, some 4)], 0, [10]⟩ :: ⟨[(26, some 5)], 0, [10]⟩ :: ⟨[(27, some 6)], 0, [10]⟩ :: ⟨[(23, some 2), (28, some 7)], 0, [10]⟩ :: ⟨[(3, none)], 0, [10]⟩ :: ⟨[(30, some 9), (29, some 8)], 0, []⟩ :: [])
        (none :: none :: none :: none :: none :: none :: none :: none :: none :: none :: none :: none :: none :: none :: none :: none :: none :: none :: none :: none :: none :: some 0 :: some 1 :: some 2 :: some 3 :: some 4 :: some 5 :: some 6 :: some 7 :: some 8 :: some 9 :: [])
        (fun L w' => CS 10 8 wz (fun w' => ∃ A2 c2 w1, Below wz.heap.size wz w1 ∧ w1.ownsRow wz.heap.size 9 1 (.slice A2 (cur ++ q.p.cells).length c2) (cur ++ q.p.cells).length ((cur ++ q.p.cells).map encStr) ∧ w' = w1.setCell ⟨B0 + 1, 1, none⟩ (.slice A2 (cur ++ q.p.cells).length c2)) L w') (fun i w w' => i ≠ 8 → i ≠ 10 → Below w.heap.size w w') ?mixK6pjoint ?okK6pjoint ?tabK6pjoint ?frK6pjoint ?inK6pjoint ?keptK6pjoint ?startK6pjoint ?eachK6pjoint ?finK6pjoint
      case mixK6pjoint => kernel_rfl
      case okK6pjoint => kernel_rfl
      case tabK6pjoint => kernel_rfl
      case frK6pjoint => kernel_rfl
      case inK6pjoint => rfl
      case keptK6pjoint => exact ⟨fun _ _ _ _ _ _ _ _ _ _ _ h => h, fun _ _ _ _ _ _ _ _ _ _ _ h => h, fun i hne hrd L w w' v hLi hC hC' hG h => Till.keepM h hC' hG (fun hb h => own_below h hb), fun _ _ _ _ _ _ _ _ _ _ _ h => h, fun _ _ _ _ _ _ _ _ _ _ _ h => h, fun _ _ _ _ _ _ _ _ _ _ _ h => h, fun _ _ _ _ _ _ _ _ _ _ _ h => h, fun _ _ _ _ _ _ _ _ _ _ _ h => h, fun i hne hrd L w w' v hLi hC hC' hG h => Till.keepN h hne hG (fun hb h => own_below h hb), fun _ _ _ _ _ _ _ _ _ _ _ h => h, fun _ _ _ _ _ _ _ _ _ _ _ h => h, trivial⟩
      case startK6pjoint => exact ⟨fun _ => (Below.refl _ _).drew, fun e => by simp at e⟩
      case eachK6pjoint =>
        refine ⟨?_, ?_, ?_, ?_, ?_, ?_, ?_, ?_, ?_, ?_, ?_, trivial⟩
        -- 0: slot 21 := fieldAddr 25 t3 1
        · intro w L f hC hLi hLd hLn hF
          obtain ⟨d3, _⟩ := hF
          have d3 : f 3 = .pointer (some ⟨B0 + 1, 0, none⟩) := d3
          refine Step2.live rfl ?_
          have ev : ∀ t, evalOf f (.tmp t) = f t := fun _ => rfl
          have ec : ∀ c, evalOf f (.const c) = c := fun _ => rfl
          have ef : ∀ g, evalOf f (.func g) = .func (.func g) #[] #[] := fun _ => rfl
          refine relUpon_value ?_ (hC.go (i := 0) (hLn 10 (by simp)) (by decide) (Below.refl _ _)) (fun _ _ => Below.refl _ _) rfl
          go_simp
        -- 1: slot 22 := load 23 t21
        · intro w L f hC hLi hLd hLn hF
          obtain ⟨d21, _⟩ := hF
          have d21 : f 21 = .pointer (some ⟨B0 + 1, 1, none⟩) := d21
          refine Step2.live rfl ?_
          have hh := hgw.out.below (hC.bel (hLn 10 (by simp))) hgw.out.lt
          have f1 := (hh.fact 1 rfl).2
          have ev : ∀ t, evalOf f (.tmp t) = f t := fun _ => rfl
          have ec : ∀ c, evalOf f (.const c) = c := fun _ => rfl
          have ef : ∀ g, evalOf f (.func g) = .func (.func g) #[] #[] := fun _ => rfl
          refine relUpon_value ?_ (hC.go (i := 1) (hLn 10 (by simp)) (by decide) (Below.refl _ _)) (fun _ _ => Below.refl _ _) rfl
          go_simp
        -- 2: slot 23 := call { builtin append, args := #[const (Value.slice none 0 0), t22], argTypes := #[23, 23]
        · intro w L f hC hLi hLd hLn hF
          obtain ⟨d22, _⟩ := hF
          have d22 : f 22 = .slice A1 cur.length c1 := d22
          refine Step2.live rfl ?_
          have ev : ∀ t, evalOf f (.tmp t) = f t := fun _ => rfl
          have ec : ∀ c, evalOf f (.const c) = c := fun _ => rfl
          have ef : ∀ g, evalOf f (.func g) = .func (.func g) #[] #[] := fun _ => rfl
          refine relUpon_append_row w (.const (.slice none 0 0)) (.tmp 22) 23 rfl wz.heap.size 9 iS (.string ⟨#[]⟩) 16 Try.underlying23 hiS hzS0 hzS1 hzS2 rfl (.slice none 0 0) 0 [] (by rw [ec]) (World.ownsRow_nil _ _ _ _) wz.heap.size A1 cur.length c1 (cur.map encStr) (by rw [ev, d22]) (by simp) (hrw.out.below (hC.bel (hLn 10 (by simp)))) enc_one (by unfold maxLen; omega) (by omega) (hC.bel (hLn 10 (by simp))).size ?_
          intro v' w' ho hg _
          have hb : Below w.heap.size w w' := ⟨hg.os, hg.tape, hg.output, hg.size, fun k hk => hg.block k hk (by simp [Value.ownBlock])⟩
          exact ⟨hC.go (i := 2) (hLn 10 (by simp)) (by decide) hb, fun _ _ => hb, fun _ => by simpa using ho⟩
        -- 3: slot 24 := move t0
        · intro w L f hC hLi hLd hLn hF
          obtain ⟨d0, _⟩ := hF
          have d0 : f 0 = .slice (some (⟨b, off, none⟩ : Addr)) n c := d0
          refine Step2.live rfl ?_
          exact relUpon_value (v := f 0) rfl (hC.go (i := 3) (hLn 10 (by simp)) (by decide) (Below.refl _ _)) (fun _ _ => Below.refl _ _) d0
        -- 4: slot 25 := move t4
        · intro w L f hC hLi hLd hLn hF
          obtain ⟨d4, _⟩ := hF
          have d4 : f 4 = .int .i64 k := d4
          refine Step2.live rfl ?_
          exact relUpon_value (v := f 4) rfl (hC.go (i := 4) (hLn 10 (by simp)) (by decide) (Below.refl _ _)) (fun _ _ => Below.refl _ _) d4
        -- 5: slot 26 := indexAddr 22 t24 t25
        · intro w L f hC hLi hLd hLn hF
          obtain ⟨d24, d25, _⟩ := hF
          have d24 : f 24 = .slice (some (⟨b, off, none⟩ : Addr)) n c := d24
          have d25 : f 25 = .int .i64 k := d25
          refine Step2.live rfl ?_
          have ev : ∀ t, evalOf f (.tmp t) = f t := fun _ => rfl
          have ec : ∀ c, evalOf f (.const c) = c := fun _ => rfl
          have ef : ∀ g, evalOf f (.func g) = .func (.func g) #[] #[] := fun _ => rfl
          refine relUpon_value ?_ (hC.go (i := 5) (hLn 10 (by simp)) (by decide) (Below.refl _ _)) (fun _ _ => Below.refl _ _) rfl
          go_simp
        -- 6: slot 27 := fieldAddr 25 t26 1
        · intro w L f hC hLi hLd hLn hF
          obtain ⟨d26, _⟩ := hF
          have d26 : f 26 = .pointer (some ⟨b, off + k * 2, none⟩) := d26
          refine Step2.live rfl ?_
          have ev : ∀ t, evalOf f (.tmp t) = f t := fun _ => rfl
          have ec : ∀ c, evalOf f (.const c) = c := fun _ => rfl
          have ef : ∀ g, evalOf f (.func g) = .func (.func g) #[] #[] := fun _ => rfl
          refine relUpon_value ?_ (hC.go (i := 6) (hLn 10 (by simp)) (by decide) (Below.refl _ _)) (fun _ _ => Below.refl _ _) rfl
          go_simp
        -- 7: slot 28 := load 23 t27
        · intro w L f hC hLi hLd hLn hF
          obtain ⟨d27, _⟩ := hF
          have d27 : f 27 = .pointer (some ⟨b, off + k * 2 + 1, none⟩) := d27
          refine Step2.live rfl ?_
          have hcell := ((hC.bel (hLn 10 (by simp))).cell (p := ⟨b, off + k * 2 + 1, none⟩) hbl2).trans hp1.out
          have ev : ∀ t, evalOf f (.tmp t) = f t := fun _ => rfl
          have ec : ∀ c, evalOf f (.const c) = c := fun _ => rfl
          have ef : ∀ g, evalOf f (.func g) = .func (.func g) #[] #[] := fun _ => rfl
          refine relUpon_value ?_ (hC.go (i := 7) (hLn 10 (by simp)) (by decide) (Below.refl _ _)) (fun _ _ => Below.refl _ _) rfl
          go_simp
        -- 8: slot 29 := call { builtin append, args := #[t23, t28], argTypes := #[23, 23] }
        · intro w L f hC hLi hLd hLn hF
          obtain ⟨d23, d28, _⟩ := hF
          have d28 : f 28 = .slice (Pq.at_ q) (List.length (Pz.cells (Pq.p q))) (Pq.cap q) := d28
          refine Step2.live rfl ?_
          have ho1 := d23 hLi
          have ev : ∀ t, evalOf f (.tmp t) = f t := fun _ => rfl
          have ec : ∀ c, evalOf f (.const c) = c := fun _ => rfl
          have ef : ∀ g, evalOf f (.func g) = .func (.func g) #[] #[] := fun _ => rfl
          refine relUpon_append_row w (.tmp 23) (.tmp 28) 23 rfl wz.heap.size 9 iS (.string ⟨#[]⟩) 16 Try.underlying23 hiS hzS0 hzS1 hzS2 rfl (f 23) cur.length (cur.map encStr) (by rw [ev]) ho1 wz.heap.size (Pq.at_ q) (List.length (Pz.cells (Pq.p q))) (Pq.cap q) (q.p.cells.map encStr) (by rw [ev, d28]) (by simp) ((hqr.out.more hbwz.out.size).below (hC.bel (hLn 10 (by simp)))) enc_one (by unfold maxLen; omega) (by omega) (hC.bel (hLn 10 (by simp))).size ?_
          intro v' w' ho hg _
          exact ⟨CS.go0 (hLn 10 (by simp)) (by decide) (below_grown (hC.bel (hLn 10 (by simp))) ho1 hg), fun h => absurd rfl h, fun _ => by rw [List.length_append, List.map_append]; exact ho⟩
        -- 9: slot 30 := fieldAddr 25 t3 1
        · intro w L f hC hLi hLd hLn hF
          obtain ⟨d3, _⟩ := hF
          have d3 : f 3 = .pointer (some ⟨B0 + 1, 0, none⟩) := d3
          refine Step2.live rfl ?_
          have ev : ∀ t, evalOf f (.tmp t) = f t := fun _ => rfl
          have ec : ∀ c, evalOf f (.const c) = c := fun _ => rfl
          have ef : ∀ g, evalOf f (.func g) = .func (.func g) #[] #[] := fun _ => rfl
          refine relUpon_value ?_ (hC.go (i := 9) (hLn 10 (by simp)) (by decide) (Below.refl _ _)) (fun _ _ => Below.refl _ _) rfl
          go_simp
        -- 10: slot None := store 23 t30 t29
        · intro w L f hC hLi hLd hLn hF
          obtain ⟨d30, d29, _⟩ := hF
          have d30 : f 30 = .pointer (some ⟨B0 + 1, 1, none⟩) := d30
          refine Step2.live rfl ?_
          have ho1 := d29 hLi
          obtain ⟨A2, c2, e29, hr, hc⟩ := own_rowA ho1
          rw [e29] at ho1
          have hh := hgw.out.below (hC.bel hLi) hgw.out.lt
          have z1 := (hh.fact 1 rfl).2
          have f1 := hh.frozen 1
          have ev : ∀ t, evalOf f (.tmp t) = f t := fun _ => rfl
          have ec : ∀ c, evalOf f (.const c) = c := fun _ => rfl
          have ef : ∀ g, evalOf f (.func g) = .func (.func g) #[] #[] := fun _ => rfl
          refine relUpon_skip ?_ (CS.last (hLd 8 (by decide)) ⟨A2, c2, w, hC.bel hLi, ho1, rfl⟩) (fun _ h => absurd rfl h) trivial
          go_simp
      intro x w' hC hV

      obtain ⟨A2, c2, w2, hb2, ho2, hw2⟩ := (hC.2 rfl).2
      clear hV
      simp only [framed]
      have hst := Writes.store w2 (M := [some (B0 + 1)]) (p := ⟨B0 + 1, 1, none⟩) (by simp) (.slice A2 (cur ++ q.p.cells).length c2)
      obtain ⟨A3, c3, e3, hr3, hc3⟩ := own_val ho2 hst (fun j hj => by simp at hj; have := hgw.out.lt; omega)
      injection e3 with e3 _ e4
      subst e3 e4
      have hg2 := hgw.out.below hb2 hgw.out.lt
      have hg3 : Holds (w2.setCell ⟨B0 + 1, 1, none⟩ (.slice A2 (cur ++ q.p.cells).length c2)) (B0 + 1) 25 #[.bool true, .slice A2 (cur ++ q.p.cells).length c2] := by
        have := hg2.store 1 (.slice A2 (cur ++ q.p.cells).length c2)
        simpa using this
      have hz3 := hst.holds (hzw.out.below hb2 hzw.out.lt) (by simp)
      have hb3 := (hbwz.out.trans (hb2.mono hbwz.out.size)).trans (hst.below (Nat.le_trans hbwz.out.size hb2.size) (fun j hj => by simp at hj; have := hB0'.out; omega))
      rw [← hw2] at hr3 hg3 hz3 hb3
      have K2 := (((Kp.start hb3).addH hz3).addH hg3).addR hr3
      clear hw2 hst hr3 hg2 hg3 hz3 hb3 hb2 ho2 hC
      go_wp2_with fail
      go_roundw
      case rel => exact ⟨k + 1, true, cur ++ q.p.cells, A2, c2, by omega, by go_num, by rw [hat.out, ← hz.out]; rfl, by rw [hft.out, ← hcur.out], K2, hc3⟩
      case measure => simp [intOf]; omega
  · obtain rfl : k = n := by omega
    have hjo : Hid (⟨z, canon cur⟩ = joinP L) := Lib.hid (by
      unfold joinP
      rw [hz.out, hcur.out, show L.take k = L by rw [← hn'.out, List.take_length]])
    go_wp2_with fail
    refine (refPts_any _ ⟨z, cur⟩ _ ⟨A1, c1, rfl, K.row 0 _ _ rfl, hc1⟩ hcl).mono ?_
    rintro e w2 ⟨⟨v2, rfl, A2, c2, rfl, hr2, hc2⟩, hb2⟩
    have K2 := K.up hb2
    have hg2 := K2.hold 1 _ _ _ rfl
    have z0 := (hg2.fact 0 rfl).2
    have z1 := (hg2.fact 1 rfl).2
    have f0 := hg2.frozen 0
    have f1 := hg2.frozen 1
    have hst := writes_store2 w2 B0 (.bool z) (.slice A2 (canon cur).length c2)
    have hfin : Hid (RetP w0 (joinP L) (.returned (.agg #[.bool z, .slice A2 (canon cur).length c2])) ((w2.setCell ⟨B0, 0, none⟩ (.bool z)).setCell ⟨B0, 1, none⟩ (.slice A2 (canon cur).length c2))) := Lib.hid (by
      rw [← hjo.out]
      refine ⟨⟨_, rfl, A2, c2, rfl, (hst.row hr2 (Nat.le_refl _) (fun hne => hr2.apartPt hg2 hne)).more hst.size, hc2⟩, K2.bel.trans (hst.below K2.size (fun j hj => by simp at hj; have := hB0'.out; omega))⟩)
    have hh3 := Lib.hid (hg2.store2 (.bool z) (.slice A2 (canon cur).length c2))
    clear hst hr2 hb2 K K2 hg2 fb0 fb1
    go_wp2_with fail
    exact ret_cell1 rfl rfl rfl hh3.out Try.underlying25 Try.sPt hfin.out
end Go.Proofs.Ytkohobkeapcpfaa
