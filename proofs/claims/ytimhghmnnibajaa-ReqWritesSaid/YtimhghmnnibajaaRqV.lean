/-
  The walk of ReqWrites.
-/
import Derived.Test.YtimhghmnnibajaaRqT
import Derived.Deep.DeepCutAuto
namespace Go.Proofs.Ytimhghmnnibajaa
open Go.RowKit Go.ChangeShapes Go.WideShapes Go.Deep

section
variable {α : Type}
/-- The bytes E are read as x, or not at all. -/
def BackTo (R : List UInt8 → Option (α × List UInt8)) (E : List UInt8) (x : α) : Prop := ∀ t, R (E ++ t) = none ∨ R (E ++ t) = some (x, t)
end
theorem smallE_to {z : Int} (h : i64ok z) : BackTo smallR (intE z) z := fun t => by
  by_cases hs : small z
  · exact .inr (smallR_back _ t hs)
  · exact .inl (smallR_big _ t h hs)
theorem alE_to {a : Al} (h : a.ok) : BackTo alR (alE a) a := fun t => by
  unfold alE alR
  rw [List.append_assoc]
  rcases smallE_to h.1 (intE a.kind ++ t) with e | e
  · exact .inl (by rw [e]; rfl)
  · rw [e]
    simp only [Option.bind_some]
    rcases smallE_to h.2 t with e | e
    · exact .inl (by rw [e]; rfl)
    · exact .inr (by rw [e]; rfl)
theorem rep_to : ∀ (al : List Al), (∀ a ∈ al, a.ok) → BackTo (rep alR al.length) (al.flatMap alE) al
  | [], _ => fun t => .inr rfl
  | a :: r, h => fun t => by
    simp only [List.length_cons, List.flatMap_cons, List.append_assoc, rep]
    rcases alE_to (h a (List.mem_cons_self ..)) (r.flatMap alE ++ t) with e | e
    · exact .inl (by rw [e]; rfl)
    · rw [e]
      simp only [Option.bind_some]
      rcases rep_to r (fun x hx => h x (List.mem_cons_of_mem _ hx)) t with e | e
      · exact .inl (by rw [e]; rfl)
      · exact .inr (by rw [e]; rfl)
theorem alsE_to {al : List Al} (hl : al.length < 18446744073709551616) (h : ∀ a ∈ al, a.ok) : BackTo alsR (alsE al) al := fun t => by
  unfold alsR countR alsE
  have := als_count al
  rw [List.append_assoc, numR_back _ _ hl]
  simp only [Option.bind_some]
  rw [if_pos (by rw [List.length_append]; omega)]
  exact rep_to al h t
theorem openP_cases (k e p : Int) (al : List Al) (s : ByteArray) (z : Int) (hk : i64ok k) (he : i64ok e) (hp : i64ok p) (hl : al.length ≤ 1000) (ha : ∀ a ∈ al, a.ok) (ht : s.size ≤ 20000) (hz : i64ok z) :
    openP (rpE ⟨k, e, p, al, s, z⟩) = none ∨ openP (rpE ⟨k, e, p, al, s, z⟩) = some ⟨max 0 k, e, p, al, s, z⟩ := by
  have hk2 := hk.2
  unfold openP
  have e : rpE ⟨k, e, p, al, s, z⟩ = numE (max 0 k).toNat ++ (intE e ++ (intE p ++ (alsE al ++ (txtE s ++ (intE z ++ []))))) := by simp [rpE]
  rw [e, numR_back _ _ (by omega)]
  simp only [Option.bind_some]
  rcases smallE_to he (intE p ++ (alsE al ++ (txtE s ++ (intE z ++ [])))) with h | h
  · exact .inl (by rw [h]; rfl)
  rw [h]
  simp only [Option.bind_some]
  rcases smallE_to hp (alsE al ++ (txtE s ++ (intE z ++ []))) with h | h
  · exact .inl (by rw [h]; rfl)
  rw [h]
  simp only [Option.bind_some]
  rcases alsE_to (by omega) ha (txtE s ++ (intE z ++ [])) with h | h
  · exact .inl (by rw [h]; rfl)
  rw [h]
  simp only [Option.bind_some]
  rw [txtR_back _ _ (by omega)]
  simp only [Option.bind_some]
  rcases smallE_to hz [] with h | h
  · exact .inl (by rw [h]; rfl)
  rw [h]
  simp only [Option.bind_some]
  split
  · exact .inr (by rw [strV_back2]; congr 2; omega)
  · exact .inl rfl

set_option maxRecDepth 100000 in
set_option maxHeartbeats 16000000 in
theorem writesq_B (W : World) (B0 : Nat) (hB0 : Hid (B0 ≤ W.heap.size)) (qk : Int) (qn qt : ByteArray) (qz : Int) (pk pe pp : Int) (A : Option Addr) (n c : Nat) (al : List Al) (pt : ByteArray) (pz : Int)
    (hqk : Hid (i64ok qk)) (hqz : Hid (i64ok qz)) (hpk : Hid (i64ok pk)) (hpe : Hid (i64ok pe)) (hpp : Hid (i64ok pp)) (hpz : Hid (i64ok pz)) (hal : Hid (al.length = n)) (halo : Hid (∀ a ∈ al, a.ok)) (hrw : Hid (Row W W.heap.size A (al.flatMap Al.cells))) :
    Calls Try.prog 10 #[.agg #[.int .i64 qk, .string qn, .string qt, .int .i64 qz], .agg #[.int .i64 pk, .int .i64 pe, .int .i64 pp, .slice A n c, .string pt, .int .i64 pz]] W fun e w' => e = .returned (.bool true) ∧ Below B0 W w' := by
  have hq0 := Holds.new W 78 #[.int .i64 qk, .string qn, .string qt, .int .i64 qz]
  have hb0 := below_new W (.cells #[.int .i64 qk, .string qn, .string qt, .int .i64 qz] 78)
  have hq1 := Lib.hid (hq0.alloc (.cells #[.int .i64 pk, .int .i64 pe, .int .i64 pp, .slice A n c, .string pt, .int .i64 pz] 86))
  have hp1 := Holds.new (W.alloc (.cells #[.int .i64 qk, .string qn, .string qt, .int .i64 qz] 78)) 86 #[.int .i64 pk, .int .i64 pe, .int .i64 pp, .slice A n c, .string pt, .int .i64 pz]
  rw [show (W.alloc (.cells #[.int .i64 qk, .string qn, .string qt, .int .i64 qz] 78)).heap.size = W.heap.size + 1 by simp] at hp1
  have hbw := hb0.trans ((below_new (W.alloc (.cells #[.int .i64 qk, .string qn, .string qt, .int .i64 qz] 78)) (.cells #[.int .i64 pk, .int .i64 pe, .int .i64 pp, .slice A n c, .string pt, .int .i64 pz] 86)).mono hb0.size)
  have hrw1 := Lib.hid ((hrw.out.below hbw).more hbw.size)
  have hB1 := Lib.hid (Nat.le_trans hB0.out hbw.size)
  have hb1 := Lib.hid (hbw.mono hB0.out)
  have hp1' := Lib.hid hp1
  clear hp1 hq0 hb0 hbw hrw
  go_enter Try.func10, Try.ntmps10
  go_wp2_with fail
  generalize (W.alloc (.cells #[.int .i64 qk, .string qn, .string qt, .int .i64 qz] 78)).alloc (.cells #[.int .i64 pk, .int .i64 pe, .int .i64 pp, .slice A n c, .string pt, .int .i64 pz] 86) = w1 at hq1 hp1' hb1 hrw1 hB1 ⊢
  refine (known24_any _).mono ?_
  rintro e w2 ⟨rfl, hb2⟩
  have hrq := Lib.hid (hq1.out.below hb2 hq1.out.lt)
  have hrp := Lib.hid (hp1'.out.below hb2 hp1'.out.lt)
  have hrw := Lib.hid ((hrw1.out.below hb2).more hb2.size)
  have hB2 := Lib.hid (Nat.le_trans hB1.out hb2.size)
  have hb2' := Lib.hid (hb1.out.trans (hb2.mono hB1.out))
  clear hb2 hq1 hp1' hb1 hrw1 hB1
  generalize W.heap.size + 1 = rp at hrp ⊢
  generalize W.heap.size = rq at hrq ⊢
  have q1 := (hrq.out.fact 1 rfl).2
  have q2 := (hrq.out.fact 2 rfl).2
  have p4 := (hrp.out.fact 4 rfl).2
  have p3 := (hrp.out.fact 3 rfl).2
  rcases (show (100 < qn.size ∧ 0 < 1) ∨ (qn.size ≤ 100 ∧ 1000 < qt.size) ∨ (qn.size ≤ 100 ∧ qt.size ≤ 1000 ∧ 1000 < pt.size) ∨ (qn.size ≤ 100 ∧ qt.size ≤ 1000 ∧ pt.size ≤ 1000 ∧ 20 < n) ∨ (qn.size ≤ 100 ∧ qt.size ≤ 1000 ∧ pt.size ≤ 1000 ∧ n ≤ 20) by omega) with hc | hc | hc | hc | hc
  rotate_right
  all_goals obtain ⟨k1, hc⟩ := hc
  all_goals try (obtain ⟨k2, hc⟩ := hc)
  all_goals try (obtain ⟨k3, k4⟩ := hc)
  all_goals go_wp2_with fail
  rotate_left
  all_goals try (go_ret; exact ⟨rfl, hb2'.out⟩)
  have hqn : Hid (qn.size ≤ 20000) := Lib.hid (by omega)
  have hqt : Hid (qt.size ≤ 20000) := Lib.hid (by omega)
  have hpt : Hid (pt.size ≤ 20000) := Lib.hid (by omega)
  have hn10 : Hid (n ≤ 1000) := Lib.hid (by omega)
  have hlenq := rqE_len (r := ⟨qk, qn, qt, qz⟩) (M := 1000) hqk.out (by show qn.size ≤ 1000; omega) (by show qt.size ≤ 1000; omega) (by omega) hqz.out
  clear q1 q2 p4 p3 k1 k2 k3 k4
  obtain ⟨lq, hlq0⟩ : ∃ l, l = rqE ⟨qk, qn, qt, qz⟩ := ⟨_, rfl⟩
  obtain ⟨lp, hlp0⟩ : ∃ l, l = rpE ⟨pk, pe, pp, al, pt, pz⟩ := ⟨_, rfl⟩
  rw [← hlq0] at hlenq
  have hlenq := Lib.hid hlenq
  have hlq := Lib.hid hlq0
  have hlp := Lib.hid hlp0
  clear hlq0 hlp0
  rename_i hlenq'
  clear hlenq'
  -- THE REGION THAT DRAWS ITS ORDER, BY ONE LEXICAL WALK OVER GENERIC VALUES (written by relgen.py)
  refine wp_region_tab ((fun _ v => v = .agg #[.int .i64 qk, .string qn, .string qt, .int .i64 qz]) ::
    (fun w v => ∃ A' c', v = .slice A' lq.length c' ∧ Bytes w w.heap.size A' lq ∧ lq.length ≤ c') ::
    (fun _ v => v = .agg #[.int .i64 pk, .int .i64 pe, .int .i64 pp, .slice A n c, .string pt, .int .i64 pz]) ::
    (fun w v => ∃ A' c', v = .slice A' lp.length c' ∧ Bytes w w.heap.size A' lp ∧ lp.length ≤ c') ::
    (fun w v => ∃ A' c', v = .slice A' lq.length c' ∧ Bytes w w.heap.size A' lq ∧ lq.length ≤ c') ::
    (fun w v => ∃ A' c', v = .slice A' lp.length c' ∧ Bytes w w.heap.size A' lp ∧ lp.length ≤ c') :: [])
    (⟨[(2, none)], 0, []⟩ :: ⟨[(39, some 0)], 0, []⟩ :: ⟨[(3, none)], 0, []⟩ :: ⟨[(41, some 2)], 0, []⟩ :: ⟨[(40, some 1)], 0, []⟩ :: ⟨[(42, some 3)], 0, []⟩ :: [])
    (none :: none :: none :: none :: none :: some 4 :: some 5 :: none :: none :: none :: none :: none :: none :: none :: none :: none :: none :: none :: none :: none :: none :: none :: none :: none :: none :: none :: none :: none :: none :: none :: none :: none :: none :: none :: none :: none :: none :: none :: none :: some 0 :: some 1 :: some 2 :: some 3 :: [])
    (fun _ w' => Below w2.heap.size w2 w') (fun _ w w' => Below w.heap.size w w') ?mixK5 ?okK5 ?tabK5 ?frK5 ?inK5 ?keptK5 ?startK5 ?eachK5 ?finK5
  case mixK5 => kernel_rfl
  case okK5 => kernel_rfl
  case tabK5 => kernel_rfl
  case frK5 => kernel_rfl
  case inK5 => rfl
  case keptK5 => exact ⟨fun _ _ _ _ _ _ _ h => h, fun _ _ _ => fun w w' v hG ⟨A', c', e, h, hl⟩ => ⟨A', c', e, h.up hG, hl⟩, fun _ _ _ _ _ _ _ h => h, fun _ _ _ => fun w w' v hG ⟨A', c', e, h, hl⟩ => ⟨A', c', e, h.up hG, hl⟩, fun _ _ _ => fun w w' v hG ⟨A', c', e, h, hl⟩ => ⟨A', c', e, h.up hG, hl⟩, fun _ _ _ => fun w w' v hG ⟨A', c', e, h, hl⟩ => ⟨A', c', e, h.up hG, hl⟩, trivial⟩
  case startK5 => exact (Below.refl _ _).drew
  case eachK5 =>
    refine ⟨?_, ?_, ?_, ?_, ?_, ?_, trivial⟩
    -- 0: slot 39 := load 78 t2
    · intro w L f hC hLi hLd hLn hF
      obtain ⟨d2, _⟩ := hF
      have d2 : f 2 = .pointer (some ⟨rq, 0, none⟩) := d2
      refine Step2.live rfl ?_
      have hh := hrq.out.below hC hrq.out.lt
      have c0 := (hh.fact 0 rfl).2
      have c1 := (hh.fact 1 rfl).2
      have c2 := (hh.fact 2 rfl).2
      have c3 := (hh.fact 3 rfl).2
      have ev : ∀ t, evalOf f (.tmp t) = f t := fun _ => rfl
      have ec : ∀ c, evalOf f (.const c) = c := fun _ => rfl
      have ef : ∀ g, evalOf f (.func g) = .func (.func g) #[] #[] := fun _ => rfl
      refine relUpon_value ?_ hC (Below.refl _ _) rfl
      go_simp
    -- 1: slot 40 := call { value (Operand.func 50), args := #[t39], argTypes := #[78] }
    · intro w L f hC hLi hLd hLn hF
      obtain ⟨d39, _⟩ := hF
      have d39 : f 39 = .agg #[.int .i64 qk, .string qn, .string qt, .int .i64 qz] := d39
      refine Step2.live rfl ?_
      have ev : ∀ t, evalOf f (.tmp t) = f t := fun _ => rfl
      have ec : ∀ c, evalOf f (.const c) = c := fun _ => rfl
      have ef : ∀ g, evalOf f (.func g) = .func (.func g) #[] #[] := fun _ => rfl
      refine relUpon_call (f := 50) (args := #[.agg #[.int .i64 qk, .string qn, .string qt, .int .i64 qz]]) (w := w) (by go_simp) (bytesQ_any w qk qn qt qz hqk.out hqn.out hqt.out hqz.out) ?_
      rintro e w1 ⟨A', c', he, hb, hl, hB⟩
      exact ⟨_, he, hC.trans (hB.mono hC.size), hB, ⟨A', c', by rw [hlq.out], by rw [hlq.out]; exact hb, by rw [hlq.out]; exact hl⟩⟩
    -- 2: slot 41 := load 86 t3
    · intro w L f hC hLi hLd hLn hF
      obtain ⟨d3, _⟩ := hF
      have d3 : f 3 = .pointer (some ⟨rp, 0, none⟩) := d3
      refine Step2.live rfl ?_
      have hh := hrp.out.below hC hrp.out.lt
      have c0 := (hh.fact 0 rfl).2
      have c1 := (hh.fact 1 rfl).2
      have c2 := (hh.fact 2 rfl).2
      have c3 := (hh.fact 3 rfl).2
      have c4 := (hh.fact 4 rfl).2
      have c5 := (hh.fact 5 rfl).2
      have ev : ∀ t, evalOf f (.tmp t) = f t := fun _ => rfl
      have ec : ∀ c, evalOf f (.const c) = c := fun _ => rfl
      have ef : ∀ g, evalOf f (.func g) = .func (.func g) #[] #[] := fun _ => rfl
      refine relUpon_value ?_ hC (Below.refl _ _) rfl
      go_simp
    -- 3: slot 42 := call { value (Operand.func 51), args := #[t41], argTypes := #[86] }
    · intro w L f hC hLi hLd hLn hF
      obtain ⟨d41, _⟩ := hF
      have d41 : f 41 = .agg #[.int .i64 pk, .int .i64 pe, .int .i64 pp, .slice A n c, .string pt, .int .i64 pz] := d41
      refine Step2.live rfl ?_
      have ev : ∀ t, evalOf f (.tmp t) = f t := fun _ => rfl
      have ec : ∀ c, evalOf f (.const c) = c := fun _ => rfl
      have ef : ∀ g, evalOf f (.func g) = .func (.func g) #[] #[] := fun _ => rfl
      refine relUpon_call (f := 51) (args := #[.agg #[.int .i64 pk, .int .i64 pe, .int .i64 pp, .slice A n c, .string pt, .int .i64 pz]]) (w := w) (by go_simp) (bytesP_any w pk pe pp A n c al pt pz hpk.out hpe.out hpp.out hal.out hn10.out halo.out ((hrw.out.below hC).more hC.size) hpt.out hpz.out) ?_
      rintro e w1 ⟨A', c', he, hb, hl, hB⟩
      exact ⟨_, he, hC.trans (hB.mono hC.size), hB, ⟨A', c', by rw [hlp.out], by rw [hlp.out]; exact hb, by rw [hlp.out]; exact hl⟩⟩
    -- 4: slot 5 := assign t40
    · intro w L f hC hLi hLd hLn hF
      obtain ⟨d40, _⟩ := hF
      refine Step2.live rfl ?_
      exact relUpon_value (v := f 40) rfl (hC) (Below.refl _ _) d40
    -- 5: slot 6 := assign t42
    · intro w L f hC hLi hLd hLn hF
      obtain ⟨d42, _⟩ := hF
      refine Step2.live rfl ?_
      exact relUpon_value (v := f 42) rfl (hC) (Below.refl _ _) d42
  intro x w' hC hV

  obtain ⟨A9, c9, e9, hb9, hc9⟩ := hV 4 _ rfl rfl
  obtain ⟨A10, c10, e10, hb10, hc10⟩ := hV 5 _ rfl rfl
  clear hV
  simp only [framed]
  rw [e9, e10]
  clear e9 e10
  have hB3 := Lib.hid (Nat.le_trans hB2.out hC.size)
  have hb3 := Lib.hid (hb2'.out.trans (hC.mono hB2.out))
  have hrq3 := Lib.hid (hrq.out.below hC hrq.out.lt)
  have hrp3 := Lib.hid (hrp.out.below hC hrp.out.lt)
  have hrw3 := Lib.hid ((hrw.out.below hC).more hC.size)
  have hbq := Lib.hid hb9
  have hbp := Lib.hid hb10
  have hc9' := Lib.hid hc9
  have hc10' := Lib.hid hc10
  clear hb9 hb10 hc9 hc10 hC hB2 hb2' hrq hrp hrw
  generalize hn9 : lq.length = n9 at hc9' ⊢
  generalize hn10q : lp.length = n10 at hc10' ⊢
  have hn9 := Lib.hid hn9
  have hn10q := Lib.hid hn10q
  rename_i u1 u2
  clear u1 u2
  generalize w' = w3 at *
  go_wp2_with fail
  -- THE REGION THAT DRAWS ITS ORDER, BY ONE LEXICAL WALK OVER GENERIC VALUES (written by relgen.py)
  refine wp_region_tab ((fun _ v => v = .slice A9 n9 c9) ::
    (fun _ v => v = .string (strV lq)) ::
    (fun _ v => v = .agg #[.int .i64 qk, .string qn, .string qt, .int .i64 qz]) ::
    (fun w v => ∃ A' c', v = .slice A' lq.length c' ∧ Bytes w w.heap.size A' lq ∧ lq.length ≤ c') ::
    (fun _ v => v = .string (strV lq)) ::
    (fun _ v => v = .bool false) ::
    (fun _ v => v = .bool false) ::
    (fun _ v => v = .slice A10 n10 c10) ::
    (fun _ v => v = .string (strV lp)) ::
    (fun _ v => v = .agg #[.int .i64 pk, .int .i64 pe, .int .i64 pp, .slice A n c, .string pt, .int .i64 pz]) ::
    (fun w v => ∃ A' c', v = .slice A' lp.length c' ∧ Bytes w w.heap.size A' lp ∧ lp.length ≤ c') ::
    (fun _ v => v = .string (strV lp)) ::
    (fun _ v => v = .bool false) ::
    (fun _ v => v = .bool false) :: [])
    (⟨[(5, none)], 0, []⟩ :: ⟨[(43, some 0)], 0, []⟩ :: ⟨[(2, none)], 0, []⟩ :: ⟨[(45, some 2)], 0, []⟩ :: ⟨[(46, some 3)], 0, []⟩ :: ⟨[(44, some 1), (47, some 4)], 0, []⟩ :: ⟨[(48, some 5)], 0, []⟩ :: ⟨[(6, none), (49, some 6)], 49, []⟩ :: ⟨[(50, some 7), (49, some 6)], 49, []⟩ :: ⟨[(3, none), (49, some 6)], 49, []⟩ :: ⟨[(52, some 9), (49, some 6)], 49, []⟩ :: ⟨[(53, some 10), (49, some 6)], 49, []⟩ :: ⟨[(51, some 8), (54, some 11), (49, some 6)], 49, []⟩ :: ⟨[(49, some 6), (55, some 12)], 0, []⟩ :: [])
    (none :: none :: none :: none :: none :: none :: none :: none :: none :: none :: none :: none :: none :: none :: none :: none :: none :: none :: none :: none :: none :: none :: none :: none :: none :: none :: none :: none :: none :: none :: none :: none :: none :: none :: none :: none :: none :: none :: none :: none :: none :: none :: none :: some 0 :: some 1 :: some 2 :: some 3 :: some 4 :: some 5 :: some 6 :: some 7 :: some 8 :: some 9 :: some 10 :: some 11 :: some 12 :: some 13 :: [])
    (fun _ w' => Below w3.heap.size w3 w') (fun _ w w' => Below w.heap.size w w') ?mixK6 ?okK6 ?tabK6 ?frK6 ?inK6 ?keptK6 ?startK6 ?eachK6 ?finK6
  case mixK6 => kernel_rfl
  case okK6 => kernel_rfl
  case tabK6 => kernel_rfl
  case frK6 => kernel_rfl
  case inK6 => rfl
  case keptK6 => exact ⟨fun _ _ _ _ _ _ _ h => h, fun _ _ _ _ _ _ _ h => h, fun _ _ _ _ _ _ _ h => h, fun _ _ _ => fun w w' v hG ⟨A', c', e, h, hl⟩ => ⟨A', c', e, h.up hG, hl⟩, fun _ _ _ _ _ _ _ h => h, fun _ _ _ _ _ _ _ h => h, fun _ _ _ _ _ _ _ h => h, fun _ _ _ _ _ _ _ h => h, fun _ _ _ _ _ _ _ h => h, fun _ _ _ _ _ _ _ h => h, fun _ _ _ => fun w w' v hG ⟨A', c', e, h, hl⟩ => ⟨A', c', e, h.up hG, hl⟩, fun _ _ _ _ _ _ _ h => h, fun _ _ _ _ _ _ _ h => h, fun _ _ _ _ _ _ _ h => h, trivial⟩
  case startK6 => exact (Below.refl _ _).drew
  case eachK6 =>
    refine ⟨?_, ?_, ?_, ?_, ?_, ?_, ?_, ?_, ?_, ?_, ?_, ?_, ?_, ?_, trivial⟩
    -- 0: slot 43 := move t5
    · intro w L f hC hLi hLd hLn hF
      obtain ⟨d5, _⟩ := hF
      have d5 : f 5 = .slice A9 n9 c9 := d5
      refine Step2.live rfl ?_
      exact relUpon_value (v := f 5) rfl (hC) (Below.refl _ _) d5
    -- 1: slot 44 := convert 26 9 t43
    · intro w L f hC hLi hLd hLn hF
      obtain ⟨d43, _⟩ := hF
      have d43 : f 43 = .slice A9 n9 c9 := d43
      refine Step2.live rfl ?_
      have kv := run_text (P := Try.prog) w 26 5 Try.underlying26 Try.underlying5 A9 n9 c9 lq hn9.out (hbq.out.below hC) 9 Try.underlying9
      have ev : ∀ t, evalOf f (.tmp t) = f t := fun _ => rfl
      have ec : ∀ c, evalOf f (.const c) = c := fun _ => rfl
      have ef : ∀ g, evalOf f (.func g) = .func (.func g) #[] #[] := fun _ => rfl
      refine relUpon_value ?_ hC (Below.refl _ _) rfl
      go_simp
    -- 2: slot 45 := load 78 t2
    · intro w L f hC hLi hLd hLn hF
      obtain ⟨d2, _⟩ := hF
      have d2 : f 2 = .pointer (some ⟨rq, 0, none⟩) := d2
      refine Step2.live rfl ?_
      have hh := hrq3.out.below hC hrq3.out.lt
      have c0 := (hh.fact 0 rfl).2
      have c1 := (hh.fact 1 rfl).2
      have c2 := (hh.fact 2 rfl).2
      have c3 := (hh.fact 3 rfl).2
      have ev : ∀ t, evalOf f (.tmp t) = f t := fun _ => rfl
      have ec : ∀ c, evalOf f (.const c) = c := fun _ => rfl
      have ef : ∀ g, evalOf f (.func g) = .func (.func g) #[] #[] := fun _ => rfl
      refine relUpon_value ?_ hC (Below.refl _ _) rfl
      go_simp
    -- 3: slot 46 := call { value (Operand.func 43), args := #[t45], argTypes := #[78] }
    · intro w L f hC hLi hLd hLn hF
      obtain ⟨d45, _⟩ := hF
      have d45 : f 45 = .agg #[.int .i64 qk, .string qn, .string qt, .int .i64 qz] := d45
      refine Step2.live rfl ?_
      have ev : ∀ t, evalOf f (.tmp t) = f t := fun _ => rfl
      have ec : ∀ c, evalOf f (.const c) = c := fun _ => rfl
      have ef : ∀ g, evalOf f (.func g) = .func (.func g) #[] #[] := fun _ => rfl
      refine relUpon_call (f := 43) (args := #[.agg #[.int .i64 qk, .string qn, .string qt, .int .i64 qz]]) (w := w) (by go_simp) (refBytesQ_row w qk qn qt qz hqk.out hqn.out hqt.out hqz.out) ?_
      rintro e w1 ⟨A', c', he, hb, hl, hB⟩
      exact ⟨_, he, hC.trans (hB.mono hC.size), hB, ⟨A', c', by rw [hlq.out], by rw [hlq.out]; exact hb, by rw [hlq.out]; exact hl⟩⟩
    -- 4: slot 47 := convert 26 9 t46
    · intro w L f hC hLi hLd hLn hF
      obtain ⟨d46, _⟩ := hF
      refine Step2.live rfl ?_
      obtain ⟨A', c', e0, hs, _⟩ := d46
      have kv := run_text (P := Try.prog) w 26 5 Try.underlying26 Try.underlying5 A' lq.length c' lq rfl hs 9 Try.underlying9
      have ev : ∀ t, evalOf f (.tmp t) = f t := fun _ => rfl
      have ec : ∀ c, evalOf f (.const c) = c := fun _ => rfl
      have ef : ∀ g, evalOf f (.func g) = .func (.func g) #[] #[] := fun _ => rfl
      refine relUpon_value ?_ hC (Below.refl _ _) rfl
      go_simp
    -- 5: slot 48 := binOp BinOp.neq 9 t44 t47 9
    · intro w L f hC hLi hLd hLn hF
      obtain ⟨d44, d47, _⟩ := hF
      have d44 : f 44 = .string (strV lq) := d44
      have d47 : f 47 = .string (strV lq) := d47
      refine Step2.live rfl ?_
      have ev : ∀ t, evalOf f (.tmp t) = f t := fun _ => rfl
      have ec : ∀ c, evalOf f (.const c) = c := fun _ => rfl
      refine relUpon_value ?_ (hC) (Below.refl _ _) rfl
      go_simp
    -- 6: slot 49 := move t48
    · intro w L f hC hLi hLd hLn hF
      obtain ⟨d48, _⟩ := hF
      have d48 : f 48 = .bool false := d48
      refine Step2.live rfl ?_
      exact relUpon_value (v := f 48) rfl (hC) (Below.refl _ _) d48
    -- 7: slot 50 := move t6
    · intro w L f hC hLi hLd hLn hF
      obtain ⟨d6, d49, _⟩ := hF
      have d6 : f 6 = .slice A10 n10 c10 := d6
      have d49 : f 49 = .bool false := d49
      refine Step2.live (show wantedBy _ (f 49) = true by rw [d49]; rfl) ?_
      exact relUpon_value (v := f 6) rfl (hC) (Below.refl _ _) d6
    -- 8: slot 51 := convert 26 9 t50
    · intro w L f hC hLi hLd hLn hF
      obtain ⟨d50, d49, _⟩ := hF
      have d50 : f 50 = .slice A10 n10 c10 := d50
      have d49 : f 49 = .bool false := d49
      refine Step2.live (show wantedBy _ (f 49) = true by rw [d49]; rfl) ?_
      have kv := run_text (P := Try.prog) w 26 5 Try.underlying26 Try.underlying5 A10 n10 c10 lp hn10q.out (hbp.out.below hC) 9 Try.underlying9
      have ev : ∀ t, evalOf f (.tmp t) = f t := fun _ => rfl
      have ec : ∀ c, evalOf f (.const c) = c := fun _ => rfl
      have ef : ∀ g, evalOf f (.func g) = .func (.func g) #[] #[] := fun _ => rfl
      refine relUpon_value ?_ hC (Below.refl _ _) rfl
      go_simp
    -- 9: slot 52 := load 86 t3
    · intro w L f hC hLi hLd hLn hF
      obtain ⟨d3, d49, _⟩ := hF
      have d3 : f 3 = .pointer (some ⟨rp, 0, none⟩) := d3
      have d49 : f 49 = .bool false := d49
      refine Step2.live (show wantedBy _ (f 49) = true by rw [d49]; rfl) ?_
      have hh := hrp3.out.below hC hrp3.out.lt
      have c0 := (hh.fact 0 rfl).2
      have c1 := (hh.fact 1 rfl).2
      have c2 := (hh.fact 2 rfl).2
      have c3 := (hh.fact 3 rfl).2
      have c4 := (hh.fact 4 rfl).2
      have c5 := (hh.fact 5 rfl).2
      have ev : ∀ t, evalOf f (.tmp t) = f t := fun _ => rfl
      have ec : ∀ c, evalOf f (.const c) = c := fun _ => rfl
      have ef : ∀ g, evalOf f (.func g) = .func (.func g) #[] #[] := fun _ => rfl
      refine relUpon_value ?_ hC (Below.refl _ _) rfl
      go_simp
    -- 10: slot 53 := call { value (Operand.func 52), args := #[t52], argTypes := #[86] }
    · intro w L f hC hLi hLd hLn hF
      obtain ⟨d52, d49, _⟩ := hF
      have d52 : f 52 = .agg #[.int .i64 pk, .int .i64 pe, .int .i64 pp, .slice A n c, .string pt, .int .i64 pz] := d52
      have d49 : f 49 = .bool false := d49
      refine Step2.live (show wantedBy _ (f 49) = true by rw [d49]; rfl) ?_
      have ev : ∀ t, evalOf f (.tmp t) = f t := fun _ => rfl
      have ec : ∀ c, evalOf f (.const c) = c := fun _ => rfl
      have ef : ∀ g, evalOf f (.func g) = .func (.func g) #[] #[] := fun _ => rfl
      refine relUpon_call (f := 52) (args := #[.agg #[.int .i64 pk, .int .i64 pe, .int .i64 pp, .slice A n c, .string pt, .int .i64 pz]]) (w := w) (by go_simp) (refBytesP_row w pk pe pp A n c al pt pz hpk.out hpe.out hpp.out hal.out hn10.out halo.out ((hrw3.out.below hC).more hC.size) hpt.out hpz.out) ?_
      rintro e w1 ⟨A', c', he, hb, hl, hB⟩
      exact ⟨_, he, hC.trans (hB.mono hC.size), hB, ⟨A', c', by rw [hlp.out], by rw [hlp.out]; exact hb, by rw [hlp.out]; exact hl⟩⟩
    -- 11: slot 54 := convert 26 9 t53
    · intro w L f hC hLi hLd hLn hF
      obtain ⟨d53, d49, _⟩ := hF
      have d49 : f 49 = .bool false := d49
      refine Step2.live (show wantedBy _ (f 49) = true by rw [d49]; rfl) ?_
      obtain ⟨A', c', e0, hs, _⟩ := d53
      have kv := run_text (P := Try.prog) w 26 5 Try.underlying26 Try.underlying5 A' lp.length c' lp rfl hs 9 Try.underlying9
      have ev : ∀ t, evalOf f (.tmp t) = f t := fun _ => rfl
      have ec : ∀ c, evalOf f (.const c) = c := fun _ => rfl
      have ef : ∀ g, evalOf f (.func g) = .func (.func g) #[] #[] := fun _ => rfl
      refine relUpon_value ?_ hC (Below.refl _ _) rfl
      go_simp
    -- 12: slot 55 := binOp BinOp.neq 9 t51 t54 9
    · intro w L f hC hLi hLd hLn hF
      obtain ⟨d51, d54, d49, _⟩ := hF
      have d51 : f 51 = .string (strV lp) := d51
      have d54 : f 54 = .string (strV lp) := d54
      have d49 : f 49 = .bool false := d49
      refine Step2.live (show wantedBy _ (f 49) = true by rw [d49]; rfl) ?_
      have ev : ∀ t, evalOf f (.tmp t) = f t := fun _ => rfl
      have ec : ∀ c, evalOf f (.const c) = c := fun _ => rfl
      refine relUpon_value ?_ (hC) (Below.refl _ _) rfl
      go_simp
    -- 13: slot 56 := pick t49 (const (Value.bool true)) t55
    · intro w L f hC hLi hLd hLn hF
      obtain ⟨d49, d55, _⟩ := hF
      have d49 : f 49 = .bool false := d49
      have d55 : f 55 = .bool false := d55
      refine Step2.live rfl ?_
      have ev : ∀ t, evalOf f (.tmp t) = f t := fun _ => rfl
      have ec : ∀ c, evalOf f (.const c) = c := fun _ => rfl
      refine relUpon_value ?_ (hC) (Below.refl _ _) rfl
      go_simp
  intro x w' hC hV

  have e56 : x 13 = .bool false := hV 13 _ rfl rfl
  clear hV
  simp only [framed]
  rw [e56]
  clear e56
  have hB4 := Lib.hid (Nat.le_trans hB3.out hC.size)
  have hb4 := Lib.hid (hb3.out.trans (hC.mono hB3.out))
  have hrq4 := Lib.hid (hrq3.out.below hC hrq3.out.lt)
  have hrp4 := Lib.hid (hrp3.out.below hC hrp3.out.lt)
  have hrw4 := Lib.hid ((hrw3.out.below hC).more hC.size)
  have hbq4 := Lib.hid (hbq.out.up hC)
  have hbp4 := Lib.hid (hbp.out.up hC)
  clear hB3 hb3 hrq3 hrp3 hrw3 hbq hbp hC
  generalize w' = w4 at *
  go_wp2_with fail
  refine (openQ_any w4 A9 n9 c9 lq hbq4.out hn9.out (by have := hlenq.out; rw [hn9.out] at this; omega)).mono ?_
  have hy : Hid (1 ≤ qk → qk ≤ 7 → -2147483648 ≤ qz → qz ≤ 2147483647 → openQ lq = some ⟨qk, qn, qt, qz⟩) := Lib.hid fun h1 h2 h3 h4 => by
    have := hlenq.out
    rw [hlq.out] at this ⊢
    exact openQ_back _ h1 h2 hqn.out hqt.out ⟨h3, h4⟩ (by omega)
  have hno : Hid (¬ (1 ≤ qk ∧ qk ≤ 7 ∧ small qz) → openQ lq = none) := Lib.hid fun h => by
    rw [hlq.out]
    exact openQ_not _ hqk.out hqn.out hqt.out hqz.out h
  rintro e w5 ⟨rfl, h5⟩
  have hrq5 := Lib.hid (hrq4.out.below h5 hrq4.out.lt)
  have h5 := Lib.hid h5
  rename_i h5'
  clear h5' hlenq hn9 hlq
  by_cases hok : 1 ≤ qk ∧ qk ≤ 7 ∧ -2147483648 ≤ qz ∧ qz ≤ 2147483647
  all_goals try (obtain ⟨m1, m2, m3, m4⟩ := hok)
  all_goals
    first
    | (have hok := hy.out m1 m2 m3 m4
       rw [hok]
       clear hok
       unfold retQ
       simp only
       have hbn := below_new w5 (.cells #[.int .i64 qk, .string qn, .string qt, .int .i64 qz] 78)
       have h6 := Lib.hid (h5.out.trans (hbn.mono h5.out.size))
       have hrq6 := hrq5.out.below hbn hrq5.out.lt
       have q0 := (hrq6.fact 0 rfl).2
       have q1 := (hrq6.fact 1 rfl).2
       have q2 := (hrq6.fact 2 rfl).2
       have q3 := (hrq6.fact 3 rfl).2
       clear hbn hrq6 hy hno h5
       go_wp2_with fail
       clear q0 q1 q2 q3
       generalize w5.alloc (.cells #[.int .i64 qk, .string qn, .string qt, .int .i64 qz] 78) = w6 at h6 ⊢
       refine (same_any w6 qk qn qt qz).mono ?_
       rintro e w7 ⟨rfl, h7⟩
       have h8 := Lib.hid (h6.out.trans (h7.mono h6.out.size))
       clear h7 h6
       have hcut := h8.out
       have hcut := Lib.hid hcut
       rename_i u1
       clear u1 h8
       generalize w7 = wc at hcut ⊢
       go_wp2_with fail)
    | (rw [hno.out (by unfold small; omega)]
       have hok := Lib.hid hok
       rename_i u1
       clear u1
       unfold retQ
       simp only
       have hbn := below_new w5 (.cells #[.int .i64 0, .string ⟨#[]⟩, .string ⟨#[]⟩, .int .i64 0] 78)
       have h6 := Lib.hid (h5.out.trans (hbn.mono h5.out.size))
       have hrq6 := hrq5.out.below hbn hrq5.out.lt
       have q0 := (hrq6.fact (v := .int .i64 qk) 0 rfl).2
       have q3 := (hrq6.fact (v := .int .i64 qz) 3 rfl).2
       clear hbn hrq6 hy hno h5
       go_upto_region 9 with (fail)
       generalize w5.alloc (.cells #[.int .i64 0, .string ⟨#[]⟩, .string ⟨#[]⟩, .int .i64 0] 78) = w6 at h6 q0 q3 ⊢
       go_cut [9] (fun s wc => s = .bool (decide (small qz)) ∧ wc = w6)
       case' first =>
         have hs0 : small qz ↔ -2147483648 ≤ qz ∧ qz ≤ 2147483647 := Iff.rfl
         rcases (show qz < -2147483648 ∨ (-2147483648 ≤ qz ∧ 2147483647 < qz) ∨ (-2147483648 ≤ qz ∧ qz ≤ 2147483647) by omega) with g1 | ⟨g1, g2⟩ | ⟨g1, g2⟩
         · have hs1 := Lib.hid (decide_eq_false (p := small qz) (fun h => by have := hs0.1 h; omega))
           clear hs0
           go_wp2_with fail
           go_meet
           case rel => exact ⟨by (rw [hs1.out]) <;> first | rfl | (simp <;> omega), rfl⟩
         · have hs1 := Lib.hid (decide_eq_false (p := small qz) (fun h => by have := hs0.1 h; omega))
           clear hs0
           go_wp2_with fail
           go_meet
           case rel => exact ⟨by (rw [hs1.out]) <;> first | rfl | (simp <;> omega), rfl⟩
         · have hs1 := Lib.hid (decide_eq_true (p := small qz) (hs0.2 (by omega)))
           clear hs0
           go_wp2_with fail
           go_meet
           case rel => exact ⟨by (rw [hs1.out]) <;> first | rfl | (simp <;> omega), rfl⟩
       case' rest =>
         obtain ⟨rfl, rfl⟩ := hcut
         have hs0 : small qz ↔ -2147483648 ≤ qz ∧ qz ≤ 2147483647 := Iff.rfl
         have hok2 : 1 ≤ qk → qk ≤ 7 → decide (small qz) = false := fun h1 h2 => decide_eq_false fun h3 => hok.out ⟨h1, h2, hs0.1 h3⟩
         have hok2 := Lib.hid hok2
         rename_i u1
         clear u1 hs0
         generalize decide (small qz) = sb at hok2 ⊢
         go_upto_region 10 with (fail)
         go_cut [10] (fun s wd => s = .bool false ∧ wd = wc)
         case' first =>
           rcases (show qk < 1 ∨ (1 ≤ qk ∧ 7 < qk) ∨ (1 ≤ qk ∧ qk ≤ 7) by omega) with g1 | ⟨g1, g2⟩ | ⟨g1, g2⟩
           · go_wp2_with fail
             go_meet
             case rel => exact ⟨by first | rfl | (simp <;> omega), rfl⟩
           · go_wp2_with fail
             go_meet
             case rel => exact ⟨by first | rfl | (simp <;> omega), rfl⟩
           · have hs2 := hok2.out g1 g2
             subst hs2
             go_wp2_with fail
             go_meet
             case rel => exact ⟨by first | rfl | (simp <;> omega), rfl⟩
         case' rest =>
           obtain ⟨rfl, rfl⟩ := hcut
           have hcut := h6
           clear h6 q0 q3 hok2 hok
           go_wp2_with fail)
  all_goals
    have hbp5 := Lib.hid (hbp4.out.up hcut.out)
    have hrp5 := Lib.hid (hrp4.out.below hcut.out hrp4.out.lt)
    have hrw5 := Lib.hid ((hrw4.out.below hcut.out).more hcut.out.size)
    have hB5 := Lib.hid (Nat.le_trans hB4.out hcut.out.size)
    have hb5 := Lib.hid (hb4.out.trans (hcut.out.mono hB4.out))
    have hlenp := rpE_len (p := ⟨pk, pe, pp, al, pt, pz⟩) (M := 20000) (N := 1000) hpk.out hpe.out hpp.out (by rw [hal.out]; exact hn10.out) (by omega) halo.out hpt.out (by omega) hpz.out
    have hcs := openP_cases pk pe pp al pt pz hpk.out hpe.out hpp.out (by rw [hal.out]; exact hn10.out) halo.out hpt.out hpz.out
    rw [← hlp.out] at hlenp hcs
    rw [hn10q.out] at hlenp
    have hlc10 := Lib.hid hc10'.out
    clear hcut hbp4 hrp4 hrw4 hB4 hb4 hlp hc10'
    have hP : Hid (∃ b1 b2 b3 b4 b5 y, ∃ (al' : List Al) (nl : Nat), (∀ e w', RetP lp e w' → ∃ A c, e = .returned (.tuple #[.agg #[.int .i64 b1, .int .i64 b2, .int .i64 b3, .slice A nl c, .string b4, .int .i64 b5], .int .i64 y]) ∧ Row w' w'.heap.size A (al'.flatMap Al.cells)) ∧ al'.length = nl ∧ nl ≤ 50000 ∧
        (y = 80 ∨ y = 0 ∧ b1 = max 0 pk ∧ b2 = pe ∧ b3 = pp ∧ b4 = pt ∧ b5 = pz ∧ al' = al)) := Lib.hid (by
      refine ⟨_, _, _, _, _, _, _, _, fun e w' h => h.gen, rfl, ?_, ?_⟩
      · exact Nat.le_trans (openP_len lp) (by rw [hn10q.out]; omega)
      · rcases hcs with h | h
        · exact .inl (by rw [h]; rfl)
        · rw [h]
          exact .inr ⟨rfl, rfl, rfl, rfl, rfl, rfl, rfl⟩)
    clear hcs
    obtain ⟨b1, b2, b3, b4, b5, y, al', nl, hp0⟩ := hP.out
    have hp := Lib.hid hp0
    clear hp0 hP
    refine (openP_any wc A10 n10 c10 lp hbp5.out hn10q.out (by omega)).mono ?_
    rintro e x5 ⟨hR, h5⟩
    obtain ⟨A5, c5, rfl, row5⟩ := hp.out.1 _ _ hR
    clear hR
    have n5 := below_new x5 (.cells #[.int .i64 b1, .int .i64 b2, .int .i64 b3, .slice A5 nl c5, .string b4, .int .i64 b5] 86)
    have k5 := h5.trans (n5.mono h5.size)
    have hbp6 := Lib.hid (hbp5.out.up k5)
    have hrp6 := Lib.hid (hrp5.out.below k5 hrp5.out.lt)
    have hrw6 := Lib.hid ((hrw5.out.below k5).more k5.size)
    have hr6 := Lib.hid (Holds.new x5 86 #[.int .i64 b1, .int .i64 b2, .int .i64 b3, .slice A5 nl c5, .string b4, .int .i64 b5])
    have row6 := Lib.hid ((row5.below n5).more n5.size)
    have hB6 := Lib.hid (Nat.le_trans hB5.out k5.size)
    have hb6 := Lib.hid (hb5.out.trans (k5.mono hB5.out))
    clear k5 h5 n5 row5 hbp5 hrp5 hrw5 hB5 hb5
    go_wp2_with fail
    generalize x5.alloc (.cells #[.int .i64 b1, .int .i64 b2, .int .i64 b3, .slice A5 nl c5, .string b4, .int .i64 b5] 86) = x6 at hbp6 hrp6 hrw6 hr6 row6 hB6 hb6 ⊢
    generalize x5.heap.size = r6 at hr6 ⊢
    refine (refOpenP_any x6 A10 n10 c10 lp hbp6.out hn10q.out hlc10.out (by omega)).mono ?_
    rintro e x7 ⟨hR, h7⟩
    obtain ⟨A7, c7, rfl, row7⟩ := hp.out.1 _ _ hR
    clear hR
    have n7 := below_new x7 (.cells #[.int .i64 b1, .int .i64 b2, .int .i64 b3, .slice A7 nl c7, .string b4, .int .i64 b5] 86)
    have k7 := h7.trans (n7.mono h7.size)
    have hrp8 := Lib.hid (hrp6.out.below k7 hrp6.out.lt)
    have hrw8 := Lib.hid ((hrw6.out.below k7).more k7.size)
    have hr68 := hr6.out.below k7 hr6.out.lt
    have hr8 := Holds.new x7 86 #[.int .i64 b1, .int .i64 b2, .int .i64 b3, .slice A7 nl c7, .string b4, .int .i64 b5]
    have row68 := Lib.hid ((row6.out.below k7).more k7.size)
    have row8 := Lib.hid ((row7.below n7).more n7.size)
    have hB8 := Lib.hid (Nat.le_trans hB6.out k7.size)
    have hb8 := Lib.hid (hb6.out.trans (k7.mono hB6.out))
    clear k7 h7 n7 row7 hbp6 hrp6 hrw6 hB6 hb6 hr6 row6
    have d0 := (hr68.fact 0 rfl).2
    have d1 := (hr68.fact 1 rfl).2
    have d2 := (hr68.fact 2 rfl).2
    have d3 := (hr68.fact 3 rfl).2
    have d4 := (hr68.fact 4 rfl).2
    have d5 := (hr68.fact 5 rfl).2
    have f0 := (hr8.fact 0 rfl).2
    have f1 := (hr8.fact 1 rfl).2
    have f2 := (hr8.fact 2 rfl).2
    have f3 := (hr8.fact 3 rfl).2
    have f4 := (hr8.fact 4 rfl).2
    have f5 := (hr8.fact 5 rfl).2
    have hr68 := Lib.hid hr68
    rename_i u1
    clear u1 hr8
    go_wp2_with fail
    clear d0 d1 d2 d3 d4 d5 f0 f1 f2 f3 f4 f5
    generalize x7.alloc (.cells #[.int .i64 b1, .int .i64 b2, .int .i64 b3, .slice A7 nl c7, .string b4, .int .i64 b5] 86) = x8 at hrp8 hrw8 hr68 row68 row8 hB8 hb8 ⊢
    refine (replyEq_any x8 b1 b2 b3 A5 A7 nl c5 c7 al' b4 b5 hp.out.2.1 (by have := hp.out.2.2.1; unfold maxLen; omega) row68.out row8.out).mono ?_
    rintro e x9 ⟨rfl, h9⟩
    have hrp9 := hrp8.out.below h9 hrp8.out.lt
    have hrw9 := Lib.hid ((hrw8.out.below h9).more h9.size)
    have hr69 := hr68.out.below h9 hr68.out.lt
    have row69 := Lib.hid ((row68.out.below h9).more h9.size)
    have hB9 := Lib.hid (Nat.le_trans hB8.out h9.size)
    have hb9 := Lib.hid (hb8.out.trans (h9.mono hB8.out))
    clear h9 hrp8 hrw8 hr68 row68 row8 hB8 hb8
    have d0 := (hr69.fact 0 rfl).2
    have d1 := (hr69.fact 1 rfl).2
    have d2 := (hr69.fact 2 rfl).2
    have d3 := (hr69.fact 3 rfl).2
    have d4 := (hr69.fact 4 rfl).2
    have d5 := (hr69.fact 5 rfl).2
    have f0 := (hrp9.fact 0 rfl).2
    have f1 := (hrp9.fact 1 rfl).2
    have f2 := (hrp9.fact 2 rfl).2
    have f3 := (hrp9.fact 3 rfl).2
    have f4 := (hrp9.fact 4 rfl).2
    have f5 := (hrp9.fact 5 rfl).2
    clear hr69 hrp9
    have hy0 := hp.out.2.2.2
    by_cases hy8 : y = 80
    · subst hy8
      clear hy0
      go_wp2_with fail
      go_ret
      exact ⟨rfl, hb9.out⟩
    by_cases hneg : pk < 0
    · have hy1 : y = 0 := by omega
      subst hy1
      clear hy0
      go_wp2_with fail
      go_ret
      exact ⟨rfl, hb9.out⟩
    · obtain ⟨e0, e1m, e2, e3, e4, e5, e6⟩ := hy0.resolve_left hy8
      have e1 : b1 = pk := by omega
      clear e1m
      subst e2 e3 e4 e5
      obtain rfl : y = 0 := e0
      obtain rfl : b1 = pk := e1
      have e6 : al' = al := e6
      subst e6
      have hnn : nl = n := by have h1 := hp.out.2.1; have h2 := hal.out; omega
      subst hnn
      clear hy0 hy8
      go_wp2_with fail
      clear d0 d1 d2 d3 d4 d5 f0 f1 f2 f3 f4 f5
      refine (replyEq_any x9 _ _ _ _ _ _ _ _ al' _ _ hp.out.2.1 (by have := hp.out.2.2.1; unfold maxLen; omega) row69.out hrw9.out).mono ?_
      rintro e x10 ⟨rfl, h10⟩
      have hb10 := Lib.hid (hb9.out.trans (h10.mono hB9.out))
      clear h10
      go_wp2_with fail
      go_ret
      exact ⟨rfl, hb10.out⟩
theorem writesq_walk (W : World) (v0 v1 : Value) (o0 : ArgOk 78 W v0) (o1 : ArgOk 86 W v1) :
    Calls Try.prog 10 #[v0, v1] W fun e w' => e = .returned (.bool true) ∧ Below W.heap.size W w' := by
  obtain ⟨qk, qn, qt, qz, rfl, h1, _, _, h4⟩ := o0.req
  obtain ⟨pk, pe, pp, A, n, c, al, pt, pz, rfl, g1, g2, g3, g4, g5, g6, g7, g8, g9, g10⟩ := o1.rep
  exact writesq_B W W.heap.size (Lib.hid (Nat.le_refl _)) qk qn qt qz pk pe pp A n c al pt pz (Lib.hid h1) (Lib.hid h4) (Lib.hid g1) (Lib.hid g2) (Lib.hid g3) (Lib.hid g10) (Lib.hid g4) (Lib.hid g7) (Lib.hid g8)
end Go.Proofs.Ytimhghmnnibajaa
