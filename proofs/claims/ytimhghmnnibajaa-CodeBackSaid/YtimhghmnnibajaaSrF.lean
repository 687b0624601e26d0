/-
  The walks of the reference's reader (augurref1.Reader): Summary.
-/
import Derived.Test.YtimhghmnnibajaaSrE
namespace Go.Proofs.Ytimhghmnnibajaa
open Go.RowKit

section
variable {w0 w w' : World} {g ra : Nat} {E : Option (List UInt8)} {nm : ByteArray} {v1 v2 : Value} {al : List Al} {en : Bool} {iv : Iv} {md : List Nm}
/-- The region of a round: what stands, by who has run (4: the call, 5: the struct, 6: its row, 7: the append, 9: the store). -/
structure NmReg (w0 : World) (g ra : Nat) (E : Option (List UInt8)) (nm : ByteArray) (v1 : Value) (al : List Al) (en : Bool) (iv : Iv) (v2 : Value) (md : List Nm) (b4 b5 b6 b7 b9 : Bool) (w : World) : Prop where
  o1 : b9 = true → b7 = true
  o2 : b7 = true → b6 = true
  o3 : b6 = true → b4 = true
  o4 : b5 = true → b4 = true
  s : ra + 2 ≤ w.heap.size
  rd : Rrd w g (if b4 then nextOf ivR E else E)
  sm : b7 = false → SmAt w0 w g ra (ra + 2) v1 al en iv.s iv.lo iv.hi v2 md
  fin : b9 = true → ∃ v' j, SmAt w0 w g ra (ra + 2) v1 al en iv.s iv.lo iv.hi v' (md ++ [⟨nm, j⟩]) ∧ (nextOf ivR E ≠ none → valOf ivR ⟨false, 0, 0⟩ E = j)
def NmRow (ra : Nat) (E : Option (List UInt8)) (nm : ByteArray) (w : World) (v : Value) : Prop :=
  ∃ kn, ∃ j : Iv, v = .slice (some ⟨kn, 0, none⟩) 1 1 ∧ ra + 2 ≤ kn ∧ Holds w kn 118 #[.string nm, .bool j.s, .int .i64 j.lo, .int .i64 j.hi] ∧ (nextOf ivR E ≠ none → valOf ivR ⟨false, 0, 0⟩ E = j)
theorem NmRow.same {v : Value} (h : NmRow ra E nm w v) (e : w' = w) : NmRow ra E nm w' v := by subst e; exact h
def NmApp (w0 : World) (g ra : Nat) (E : Option (List UInt8)) (nm : ByteArray) (v1 : Value) (al : List Al) (en : Bool) (iv : Iv) (v2 : Value) (md : List Nm) (w : World) (v : Value) : Prop :=
  ∃ j : Iv, ∃ A c, v = .slice A (md.length + 1) c ∧ w.cell? ⟨ra + 1, 5, none⟩ = some v2 ∧ w.frozen? ⟨ra + 1, 5, none⟩ = false ∧ SmAt w0 (w.setCell ⟨ra + 1, 5, none⟩ (.slice A (md.length + 1) c)) g ra (ra + 2) v1 al en iv.s iv.lo iv.hi (.slice A (md.length + 1) c) (md ++ [⟨nm, j⟩]) ∧ (nextOf ivR E ≠ none → valOf ivR ⟨false, 0, 0⟩ E = j)
theorem NmApp.same {v : Value} (h : NmApp w0 g ra E nm v1 al en iv v2 md w v) (e : w' = w) : NmApp w0 g ra E nm v1 al en iv v2 md w' v := by subst e; exact h
theorem NmApp.of {v' : Value} {k : Nat} {j : Iv} (h : SmAt w0 w g ra (ra + 2) v1 al en iv.s iv.lo iv.hi v2 md) (hk : md.length = k) (ho : w'.ownsRow (ra + 2) 118 4 v' (k + 1) (md.flatMap Nm.cells ++ [.string nm, .bool j.s, .int .i64 j.lo, .int .i64 j.hi])) (hg : w.grownBy w' v2.ownBlock) (hj : nextOf ivR E ≠ none → valOf ivR ⟨false, 0, 0⟩ E = j) :
    NmApp w0 g ra E nm v1 al en iv v2 md w' v' := by
  subst hk
  obtain ⟨A, c, rfl, _, _⟩ := own_rowN ho
  obtain ⟨q0, f0, hS⟩ := h.app2 (a := ⟨nm, j⟩) rfl rfl ho hg
  exact ⟨j, A, c, rfl, q0, f0, hS, hj⟩
/-- The first row set. -/
theorem SmAt.set1 {B : Nat} {rs : Bool} {lo hi : Int} {v' : Value} {al' : List Al} (h : SmAt w0 w g ra B v1 al en rs lo hi v2 md) (ho : w.ownsRow B 75 2 v' al'.length (al'.flatMap Al.cells)) :
    SmAt w0 (w.setCell ⟨ra + 1, 0, none⟩ v') g ra B v' al' en rs lo hi v2 md := by
  have hnb := h.nb
  have hn0 := h.n0
  have hg0 := h.g0
  have hst := Writes.store w (M := [some (ra + 1)]) (p := ⟨ra + 1, 0, none⟩) (by simp) v'
  exact ⟨hst.holds h.zero (by simp), by have := h.cell.store 0 v'; simpa using this, own_above ho hst (fun j hj => by simp at hj; omega), own_above h.o2 hst (fun j hj => by simp at hj; omega), h.M.then_ hst (fun k hk e => by simp at e; omega), h.g0, h.n0, h.nb, Nat.le_trans h.sz hst.size⟩
end

theorem smR_chain (st : Option (List UInt8)) : st.bind smR = (nextOf numR (nextOf ivR (nextOf boolR (nextOf alsR st)))).bind fun l4 =>
    if valOf numR 0 (nextOf ivR (nextOf boolR (nextOf alsR st))) ≤ l4.length then (rep nmR (valOf numR 0 (nextOf ivR (nextOf boolR (nextOf alsR st)))) l4).map fun d => (⟨valOf alsR [] st, valOf boolR false (nextOf alsR st), valOf ivR ⟨false, 0, 0⟩ (nextOf boolR (nextOf alsR st)), d.1⟩, d.2) else none := by
  cases st with
  | none => rfl
  | some l =>
    simp only [Option.bind_some]
    unfold smR
    cases h1 : alsR l with
    | none => simp [nextOf, h1]
    | some a =>
      cases h2 : boolR a.2 with
      | none => simp [nextOf, h1, h2]
      | some b =>
        cases h3 : ivR b.2 with
        | none => simp [nextOf, h1, h2, h3]
        | some c =>
          cases h4 : numR c.2 with
          | none => simp [nextOf, countR, h1, h2, h3, h4]
          | some n =>
            simp only [nextOf, valOf, countR, h1, h2, h3, h4, Option.bind_some, Option.map_some, Option.getD_some]
            split
            · rfl
            · rfl
theorem next_map {α : Type} (r : List UInt8 → Option (α × List UInt8)) (st : Option (List UInt8)) : nextOf r st = (st.bind r).map (·.2) := by cases st <;> rfl
theorem TookSmR.of {st : Option (List UInt8)} {s : Sm} {l' : List UInt8} (h : st.bind smR = some (s, l')) : valOf smR zeroSm st = s ∧ nextOf smR st = some l' := by
  rw [next_map, h]
  simp [valOf, h]
theorem TookSmR.no {st : Option (List UInt8)} (h : st.bind smR = none) : valOf smR zeroSm st = zeroSm ∧ nextOf smR st = none := by
  rw [next_map, h]
  simp [valOf, h]
theorem nmR_eq (l' : List UInt8) : nmR l' = (nextOf ivR (nextOf textR (some l'))).map fun l'' => (⟨strV (valOf textR [] (some l')), valOf ivR ⟨false, 0, 0⟩ (nextOf textR (some l'))⟩, l'') := by
  unfold nmR
  cases h1 : textR l' with
  | none => simp [nextOf, h1]
  | some a =>
    cases h2 : ivR a.2 with
    | none => simp [nextOf, h1, h2]
    | some c => simp [nextOf, valOf, h1, h2]
/-- What the reference's Summary answers. -/
def TookSmR (w : World) (g : Nat) (st : Option (List UInt8)) (e : Ending) (w' : World) : Prop :=
  (∃ v, e = .returned v ∧ SmV w.heap.size w' (valOf smR zeroSm st) v) ∧ Rrd w' g (nextOf smR st) ∧ Writes [some g] w w'

theorem TookSmR.fail {w0 w1 w2 : World} {g ra : Nat} {st : Option (List UInt8)} {v1 v2 : Value} {al : List Al} {en rs : Bool} {lo hi : Int} {md : List Nm} (h : st.bind smR = none) (hS : SmAt w0 w1 g ra (ra + 2) v1 al en rs lo hi v2 md) (hR : Rrd w1 g none) (e : w2 = store6 w1 ra (.slice none 0 0) (.bool false) (.bool false) (.int .i64 0) (.int .i64 0) (.slice none 0 0)) :
    Holds w2 ra 61 #[.slice none 0 0, .bool false, .bool false, .int .i64 0, .int .i64 0, .slice none 0 0] ∧ TookSmR w0 g st (.returned (.agg #[.slice none 0 0, .bool false, .bool false, .int .i64 0, .int .i64 0, .slice none 0 0])) w2 := by
  subst e
  obtain ⟨e1, e2⟩ := TookSmR.no h
  have hst := writes_store6 w1 ra (.slice none 0 0) (.bool false) (.bool false) (.int .i64 0) (.int .i64 0) (.slice none 0 0)
  have hg := hS.g0
  have hn := hS.n0
  refine ⟨hS.zero.store6 _ _ _ _ _ _, ⟨_, rfl, by rw [e1]; exact SmV.zero _ _⟩, by rw [e2]; exact hR.keep hst (fun j hj => by simp at hj; omega), hS.M.then_ hst fun j hj e => by simp at e; omega⟩
set_option maxRecDepth 100000 in
set_option maxHeartbeats 16000000 in
theorem rrSm_any (w0 : World) (g : Nat) (st : Option (List UInt8)) (h : Rrd w0 g st) :
    Calls Try.prog 40 #[.pointer (some ⟨g, 0, none⟩)] w0 (TookSmR w0 g st) := by
  obtain ⟨iN, hiN, hzN0, hzN1, hzN2⟩ := info_parts Try.infoNm
  have hgl := h.lt
  have hS1 := Lib.hid (SmAt.start w0 g hgl)
  have hR1 := Lib.hid ((h.below (below_new w0 (.cells #[.slice none 0 0, .bool false, .bool false, .int .i64 0, .int .i64 0, .slice none 0 0] 61))).below (below_new _ (.cells #[.slice none 0 0, .bool false, .bool false, .int .i64 0, .int .i64 0, .slice none 0 0] 61)))
  have hch := Lib.hid (smR_chain st)
  clear h
  go_enter Try.func40, Try.ntmps40
  go_wp2_with fail
  generalize (w0.alloc (.cells #[.slice none 0 0, .bool false, .bool false, .int .i64 0, .int .i64 0, .slice none 0 0] 61)).alloc (.cells #[.slice none 0 0, .bool false, .bool false, .int .i64 0, .int .i64 0, .slice none 0 0] 61) = w1 at hS1 hR1 ⊢
  generalize w0.heap.size = ra at hS1 hgl ⊢
  refine (rrAls_any w1 g st hR1.out).mono ?_
  rintro e w2 ⟨v1, rfl, ho1, hR0, hM⟩
  obtain ⟨A1, c1, rfl, _, _⟩ := own_rowN ho1
  have hS2 := hS1.out.call hM
  have ho2 := own_base ho1 hS1.out.sz
  generalize valOf alsR [] st = al at ho1 ho2 hch ⊢
  have hS3 := Lib.hid (hS2.set1 ho2)
  have hR3 := Lib.hid (hR0.keep (Writes.store w2 (M := [some (ra + 1)]) (p := ⟨ra + 1, 0, none⟩) (by simp) (.slice A1 al.length c1)) (fun j hj => by simp at hj; omega))
  have z0 := (hS2.cell.fact 0 rfl).2
  have fz0 := hS2.cell.frozen 0
  clear ho1 ho2 hR0 hM hS2 hS1 hR1
  go_wp2_with fail
  clear z0 fz0
  generalize nextOf alsR st = st1 at hR3 hch
  generalize w2.setCell ⟨ra + 1, 0, none⟩ (.slice A1 al.length c1) = w3 at hS3 hR3 ⊢
  refine (rrBool_any w3 g st1 hR3.out).mono ?_
  rintro e w4 ⟨rfl, hR0, hM⟩
  generalize valOf boolR false st1 = b at hch ⊢
  generalize nextOf boolR st1 = st2 at hR0 hch
  have hS4 := hS3.out.call hM
  have hst := Writes.store w4 (M := [some (ra + 1)]) (p := ⟨ra + 1, 1, none⟩) (by simp) (.bool b)
  have hS5 := Lib.hid (hS4.self hst (en' := b) (by have := hS4.cell.store 1 (.bool b); simpa using this))
  have hR5 := Lib.hid (hR0.keep hst (fun j hj => by simp at hj; omega))
  have z1 := (hS4.cell.fact 1 rfl).2
  have fz1 := hS4.cell.frozen 1
  clear hR0 hM hS3 hR3 hS4 hst
  go_wp2_with fail
  clear z1 fz1
  generalize w4.setCell ⟨ra + 1, 1, none⟩ (.bool b) = w5 at hS5 hR5 ⊢
  refine (rrIv_any w5 g st2 hR5.out).mono ?_
  rintro e w6 ⟨⟨iv, rfl, hiv⟩, hR0, hM⟩
  have hiv := Lib.hid hiv
  rename_i u1
  clear u1
  generalize nextOf ivR st2 = st3 at hR0 hch hiv
  have hS6 := hS5.out.call hM
  have hst := writes_store234 w6 (ra + 1) (.bool iv.s) (.int .i64 iv.lo) (.int .i64 iv.hi)
  have hS7 := Lib.hid (hS6.self hst (hS6.cell.store234 _ _ _))
  have hR7 := Lib.hid (hR0.keep hst (fun j hj => by simp at hj; omega))
  have z2 := (hS6.cell.fact 2 rfl).2
  have fz2 := hS6.cell.frozen 2
  have z3 := (hS6.cell.fact 3 rfl).2
  have fz3 := hS6.cell.frozen 3
  have z4 := (hS6.cell.fact 4 rfl).2
  have fz4 := hS6.cell.frozen 4
  clear hR0 hM hS5 hR5 hS6 hst
  go_wp2_with fail
  clear z2 z3 z4 fz2 fz3 fz4
  generalize ((w6.setCell ⟨ra + 1, 2, none⟩ (.bool iv.s)).setCell ⟨ra + 1, 3, none⟩ (.int .i64 iv.lo)).setCell ⟨ra + 1, 4, none⟩ (.int .i64 iv.hi) = w7 at hS7 hR7 ⊢
  have hlt := valNum_lt st3
  refine (rrNum_any w7 g st3 hR7.out).mono ?_
  rintro e w8 ⟨rfl, hR0, hM⟩
  have hS8 := Lib.hid (hS7.out.call hM)
  obtain ⟨A, m, c, c0, c1, f0, f1, hh0, hm, hl⟩ := hR0.cells
  have hR8 := Lib.hid hR0
  have hh8 := Lib.hid hh0
  have hl8 := Lib.hid hl
  have hM8 := Lib.hid hM
  have y0 := (hS8.out.zero.fact 0 rfl).2
  have y1 := (hS8.out.zero.fact 1 rfl).2
  have y2 := (hS8.out.zero.fact 2 rfl).2
  have y3 := (hS8.out.zero.fact 3 rfl).2
  have y4 := (hS8.out.zero.fact 4 rfl).2
  have y5 := (hS8.out.zero.fact 5 rfl).2
  have g0 := hS8.out.zero.frozen 0
  have g1 := hS8.out.zero.frozen 1
  have g2 := hS8.out.zero.frozen 2
  have g3 := hS8.out.zero.frozen 3
  have g4 := hS8.out.zero.frozen 4
  have g5 := hS8.out.zero.frozen 5
  clear hh0 hl hR0 hM hS7 hR7
  generalize hvn : valOf numR 0 st3 = n at hlt hch ⊢
  cases hst4 : nextOf numR st3 with
  | none =>
    obtain ⟨hn0, _⟩ := num_none hst4
    rw [hvn] at hn0
    have hno := Lib.hid (show st.bind smR = none by rw [hch.out, hst4]; rfl)
    have hR9 := Lib.hid (hst4 ▸ hR8.out)
    rw [hst4] at c1
    subst hn0
    clear hvn hst4 hlt hR8 hl8 hh8 hM8
    go_wp2_with fail
    go_loopw [5] (fun i wr => i = .int .u64 0 ∧ Hid (wr = w8)) (fun _ _ => 0)
    case atStart => exact ⟨rfl, Lib.hid rfl⟩
    obtain ⟨rfl, hwr⟩ := hrel
    obtain rfl := hwr.out
    go_wp2_with fail
    obtain ⟨hH, hT⟩ := TookSmR.fail hno.out hS8.out hR9.out rfl
    exact ret_cell1 rfl rfl rfl hH Try.underlying61 Try.sSm hT
  | some l4 =>
  have hR9 : Hid (Rrd w8 g (some l4)) := Lib.hid (hst4 ▸ hR8.out)
  obtain ⟨hl0, hc, _, _⟩ := hl8.out l4 hst4
  have hlen := Lib.hid hl0
  rw [hst4] at c1
  have hch2 := hch.out
  rw [hst4] at hch2
  simp only [Option.bind_some] at hch2
  have hch2' := Lib.hid hch2
  have hst3 : st3 ≠ none := by rintro rfl; simp [nextOf] at hst4
  have hivE := Lib.hid (hiv.out hst3)
  clear hch2 hl0 hch hR8 hl8 hvn hst4 hst3 hiv
  by_cases hle : n ≤ m
  case neg =>
    have hno : Hid (st.bind smR = none) := Lib.hid (by rw [hch2'.out, if_neg (by rw [hlen.out]; exact hle)])
    have hst := Writes.store w8 (M := [some g]) (p := ⟨g, 1, none⟩) (by simp) (.bool true)
    have hR10 : Hid (Rrd (w8.setCell ⟨g, 1, none⟩ (.bool true)) g none) := Lib.hid (Rrd.fail hh8.out hm)
    have hS10 := Lib.hid (hS8.out.call hst)
    have c1b : (w8.setCell ⟨g, 1, none⟩ (.bool true)).cell? ⟨g, 1, none⟩ = some (.bool true) := by
      obtain ⟨A, m, c, _, h1, _⟩ := hR10.out.cells
      exact h1
    have hn0 : 0 < n := by omega
    clear y0 y1 y2 y3 y4 y5 g0 g1 g2 g3 g4 g5 hst hch2' hlen hR9
    go_wp2_with fail
    clear c1 c0 f0 f1
    generalize w8.setCell ⟨g, 1, none⟩ (.bool true) = w9 at hR10 hS10 c1b ⊢
    go_loopw [5] (fun i wr => i = .int .u64 0 ∧ Hid (wr = w9)) (fun _ _ => 0)
    case atStart => exact ⟨rfl, Lib.hid rfl⟩
    obtain ⟨rfl, hwr⟩ := hrel
    obtain rfl := hwr.out
    have y0 := (hS10.out.zero.fact 0 rfl).2
    have y1 := (hS10.out.zero.fact 1 rfl).2
    have y2 := (hS10.out.zero.fact 2 rfl).2
    have y3 := (hS10.out.zero.fact 3 rfl).2
    have y4 := (hS10.out.zero.fact 4 rfl).2
    have y5 := (hS10.out.zero.fact 5 rfl).2
    have g0 := hS10.out.zero.frozen 0
    have g1 := hS10.out.zero.frozen 1
    have g2 := hS10.out.zero.frozen 2
    have g3 := hS10.out.zero.frozen 3
    have g4 := hS10.out.zero.frozen 4
    have g5 := hS10.out.zero.frozen 5
    go_wp2_with fail
    obtain ⟨hH, hT⟩ := TookSmR.fail hno.out hS10.out hR10.out rfl
    exact ret_cell1 rfl rfl rfl hH Try.underlying61 Try.sSm hT
  have hch3 : Hid (st.bind smR = (rep nmR n l4).map fun d => (⟨al, b, iv, d.1⟩, d.2)) := Lib.hid (by rw [hch2'.out, if_pos (by rw [hlen.out]; exact hle), hivE.out])
  have hdec : decide (m < n) = false := by simp; omega
  have hnb : n ≤ 100000000000 := by omega
  clear y0 y1 y2 y3 y4 y5 g0 g1 g2 g3 g4 g5 hch2'
  go_wp2_with fail
  clear c0 c1 f0 f1
  go_loopw [5] (fun i wr => ∃ k acc v2 st', k ≤ n ∧ i = .int .u64 (k : Nat) ∧ SmAt w0 wr g ra (ra + 2) (.slice A1 al.length c1) al b iv.s iv.lo iv.hi v2 acc ∧ Rrd wr g st' ∧ RepAt nmR l4 n k acc st') (fun i _ => n - (intOf i).toNat)
  case atStart => exact ⟨0, [], _, _, by omega, rfl, hS8.out, hR9.out, RepAt.start _ _ _⟩
  clear hS8 hR9 hh8 hM8
  obtain ⟨k, acc, v2, st', hk, rfl, hS0, hR0, hrep0⟩ := hrel
  obtain ⟨A', m', c', d0, d1, e0, e1, _, _, _⟩ := hR0.cells
  obtain ⟨A2, c2, rfl, _, _⟩ := own_rowN hS0.o2
  have hS := Lib.hid hS0
  have hR := Lib.hid hR0
  have hrep := Lib.hid hrep0
  clear hrep0
  cases st' with
  | none =>
    have hno : Hid (st.bind smR = none) := Lib.hid (by rw [hch3.out, hrep.out.none_]; rfl)
    have y0 := (hS0.zero.fact 0 rfl).2
    have y1 := (hS0.zero.fact 1 rfl).2
    have y2 := (hS0.zero.fact 2 rfl).2
    have y3 := (hS0.zero.fact 3 rfl).2
    have y4 := (hS0.zero.fact 4 rfl).2
    have y5 := (hS0.zero.fact 5 rfl).2
    have g0 := hS0.zero.frozen 0
    have g1 := hS0.zero.frozen 1
    have g2 := hS0.zero.frozen 2
    have g3 := hS0.zero.frozen 3
    have g4 := hS0.zero.frozen 4
    have g5 := hS0.zero.frozen 5
    clear hS0 hR0
    by_cases hkn : k < n
    all_goals
      go_wp2_with fail
      obtain ⟨hH, hT⟩ := TookSmR.fail hno.out hS.out hR.out rfl
      exact ret_cell1 rfl rfl rfl hH Try.underlying61 Try.sSm hT
  | some l' =>
    by_cases hkn : k < n
    · clear hS0 hR0
      go_wp2_with fail
      refine (rrText_any _ g (some l') hR.out).mono ?_
      rintro e w3 ⟨he, hR3, hM3⟩
      have he2 : e = .returned (.string (strV (valOf textR [] (some l')))) := he
      clear he
      subst he2
      have hSx := Lib.hid (hS.out.call hM3)
      have hnE := Lib.hid (nmR_eq l')
      have hkb := Lib.hid (show acc.length < 100000000000 by have := hrep.out.1; omega)
      have hR3' := Lib.hid hR3
      clear hR3 hM3 hS hR
      generalize strV (valOf textR [] (some l')) = nm at hnE ⊢
      generalize nextOf textR (some l') = E at hnE hR3'
      have hreg0 : Hid (NmReg w0 g ra E nm (.slice A1 al.length c1) al b iv (.slice A2 acc.length c2) acc false false false false false w3.drew) := Lib.hid ⟨by simp, by simp, by simp, by simp, hSx.out.sz, by have := hR3'.out.below (w' := w3.drew) (Below.refl _ _).drew; simpa using this, fun _ => hSx.out.below (Below.refl _ _).drew, by simp⟩
      clear hSx hR3'
      go_wp2_with fail
      -- THE REGION THAT DRAWS ITS ORDER, BY ONE LEXICAL WALK OVER GENERIC VALUES (written by relgen.py)
      refine wp_region_tabL ((fun _ _ v => v = .pointer (some ⟨ra + 1, 5, none⟩)) ::
        (fun _ _ v => v = .slice A2 acc.length c2) ::
        (fun _ _ v => v = .string nm) ::
        (fun _ _ v => v = .pointer (some ⟨g, 0, none⟩)) ::
        (fun _ _ v => ∃ j : Iv, v = .agg #[.bool j.s, .int .i64 j.lo, .int .i64 j.hi] ∧ (nextOf ivR E ≠ none → valOf ivR ⟨false, 0, 0⟩ E = j)) ::
        (fun _ _ v => ∃ j : Iv, v = .agg #[.string nm, .bool j.s, .int .i64 j.lo, .int .i64 j.hi] ∧ (nextOf ivR E ≠ none → valOf ivR ⟨false, 0, 0⟩ E = j)) ::
        (fun L w v => L 6 = true → L 7 = false → NmRow ra E nm w v) ::
        (fun L w v => L 7 = true → L 9 = false → NmApp w0 g ra E nm (.slice A1 al.length c1) al b iv (.slice A2 acc.length c2) acc w v) ::
        (fun _ _ v => v = .pointer (some ⟨ra + 1, 5, none⟩)) ::
        (fun _ _ _ => True) :: [])
        (⟨[(3, none)], 0, []⟩ :: ⟨[(43, some 0)], 0, [7, 9]⟩ :: ⟨[(6, none)], 0, []⟩ :: ⟨[(0, none)], 0, []⟩ :: ⟨[(46, some 3)], 0, [6, 7, 9]⟩ :: ⟨[(45, some 2), (47, some 4)], 0, []⟩ :: ⟨[(48, some 5)], 0, [7, 9]⟩ :: ⟨[(44, some 1), (49, some 6)], 0, [9]⟩ :: ⟨[(3, none)], 0, []⟩ :: ⟨[(51, some 8), (50, some 7)], 0, []⟩ :: [])
        (none :: none :: none :: none :: none :: none :: none :: none :: none :: none :: none :: none :: none :: none :: none :: none :: none :: none :: none :: none :: none :: none :: none :: none :: none :: none :: none :: none :: none :: none :: none :: none :: none :: none :: none :: none :: none :: none :: none :: none :: none :: none :: none :: some 0 :: some 1 :: some 2 :: some 3 :: some 4 :: some 5 :: some 6 :: some 7 :: some 8 :: [])
        (fun L w' => NmReg w0 g ra E nm (.slice A1 al.length c1) al b iv (.slice A2 acc.length c2) acc (L 4) (L 5) (L 6) (L 7) (L 9) w') (fun i w w' => i ≠ 4 → i ≠ 6 → i ≠ 7 → i ≠ 9 → w' = w) ?mixK12 ?okK12 ?tabK12 ?frK12 ?inK12 ?keptK12 ?startK12 ?eachK12 ?finK12
      case mixK12 => kernel_rfl
      case okK12 => kernel_rfl
      case tabK12 => kernel_rfl
      case frK12 => kernel_rfl
      case inK12 => rfl
      case keptK12 => exact ⟨fun _ _ _ _ _ _ _ _ _ _ _ h => h, fun _ _ _ _ _ _ _ _ _ _ _ h => h, fun _ _ _ _ _ _ _ _ _ _ _ h => h, fun _ _ _ _ _ _ _ _ _ _ _ h => h, fun _ _ _ _ _ _ _ _ _ _ _ h => h, fun _ _ _ _ _ _ _ _ _ _ _ h => h, fun i hne hr L w w' v hLi hC hC' hG h h1 h2 => by
            have a1 : L 6 = true := by simpa [Ne.symm hne] using h1
            have n2 : i ≠ 7 := fun e => by subst e; simp at h2
            have a2 : L 7 = false := by simpa [Ne.symm n2] using h2
            exact (h a1 a2).same (hG (fun e => by subst e; exact absurd (hC.o3 a1) (by rw [hLi]; simp)) hne n2 (fun e => by subst e; exact absurd (hC'.o1 rfl) (by simp [a2]))), fun i hne hr L w w' v hLi hC hC' hG h h1 h2 => by
            have a1 : L 7 = true := by simpa [Ne.symm hne] using h1
            have n2 : i ≠ 9 := fun e => by subst e; simp at h2
            have a2 : L 9 = false := by simpa [Ne.symm n2] using h2
            exact (h a1 a2).same (hG (fun e => by subst e; exact absurd (hC.o3 (hC.o2 a1)) (by rw [hLi]; simp)) (fun e => by subst e; exact absurd (hC.o2 a1) (by rw [hLi]; simp)) hne n2), fun _ _ _ _ _ _ _ _ _ _ _ h => h, fun _ _ _ _ _ _ _ _ _ _ _ h => h, trivial⟩
      case startK12 => exact hreg0.out
      case eachK12 =>
        refine ⟨?_, ?_, ?_, ?_, ?_, ?_, ?_, ?_, ?_, ?_, trivial⟩
        -- 0: slot 43 := fieldAddr 61 t3 3
        · intro w L f hC hLi hLd hLn hF
          obtain ⟨d3, _⟩ := hF
          have d3 : f 3 = .pointer (some ⟨ra + 1, 0, none⟩) := d3
          refine Step2.live rfl ?_
          have ev : ∀ t, evalOf f (.tmp t) = f t := fun _ => rfl
          have ec : ∀ c, evalOf f (.const c) = c := fun _ => rfl
          have ef : ∀ g, evalOf f (.func g) = .func (.func g) #[] #[] := fun _ => rfl
          refine relUpon_value ?_ hC (fun _ _ _ _ => rfl) rfl
          go_simp
        -- 1: slot 44 := load 59 t43
        · intro w L f hC hLi hLd hLn hF
          obtain ⟨d43, _⟩ := hF
          have d43 : f 43 = .pointer (some ⟨ra + 1, 5, none⟩) := d43
          refine Step2.live rfl ?_
          have hcell := ((hC.sm (hLn 7 (by simp))).cell.fact 5 rfl).2
          have ev : ∀ t, evalOf f (.tmp t) = f t := fun _ => rfl
          have ec : ∀ c, evalOf f (.const c) = c := fun _ => rfl
          have ef : ∀ g, evalOf f (.func g) = .func (.func g) #[] #[] := fun _ => rfl
          refine relUpon_value ?_ hC (fun _ _ _ _ => rfl) rfl
          go_simp
        -- 2: slot 45 := move t6
        · intro w L f hC hLi hLd hLn hF
          obtain ⟨d6, _⟩ := hF
          have d6 : f 6 = .string nm := d6
          refine Step2.live rfl ?_
          exact relUpon_value (v := f 6) rfl (hC) (fun _ _ _ _ => rfl) d6
        -- 3: slot 46 := move t0
        · intro w L f hC hLi hLd hLn hF
          obtain ⟨d0, _⟩ := hF
          have d0 : f 0 = .pointer (some ⟨g, 0, none⟩) := d0
          refine Step2.live rfl ?_
          exact relUpon_value (v := f 0) rfl (hC) (fun _ _ _ _ => rfl) d0
        -- 4: slot 47 := call { value (Operand.func 73), args := #[t46], argTypes := #[67] }
        · intro w L f hC hLi hLd hLn hF
          obtain ⟨d46, _⟩ := hF
          have d46 : f 46 = .pointer (some ⟨g, 0, none⟩) := d46
          refine Step2.live rfl ?_
          have ev : ∀ t, evalOf f (.tmp t) = f t := fun _ => rfl
          have ec : ∀ c, evalOf f (.const c) = c := fun _ => rfl
          have ef : ∀ g, evalOf f (.func g) = .func (.func g) #[] #[] := fun _ => rfl
          refine relUpon_call (f := 73) (args := #[.pointer (some ⟨g, 0, none⟩)]) (w := w) (by go_simp) (rrIv_any w g E (by have := hC.rd; rw [hLi] at this; exact this)) ?_
          rintro e w1 ⟨⟨j, he, hj⟩, hR, hM⟩
          exact ⟨_, he, ⟨fun h => absurd h (by simp [hLn 9 (by simp)]), fun h => absurd h (by simp [hLn 7 (by simp)]), fun _ => rfl, fun _ => rfl, Nat.le_trans hC.s hM.size, by simpa using hR, fun _ => (hC.sm (hLn 7 (by simp))).call hM, fun h => absurd h (by simp [hLn 9 (by simp)])⟩, fun h => absurd rfl h, ⟨j, rfl, hj⟩⟩
        -- 5: slot 48 := build 118 #[(0, t45), (1, t47)]
        · intro w L f hC hLi hLd hLn hF
          obtain ⟨d45, d47, _⟩ := hF
          have d45 : f 45 = .string nm := d45
          refine Step2.live rfl ?_
          obtain ⟨j, e0, hj⟩ := d47
          have ev : ∀ t, evalOf f (.tmp t) = f t := fun _ => rfl
          have ec : ∀ c, evalOf f (.const c) = c := fun _ => rfl
          have ef : ∀ g, evalOf f (.func g) = .func (.func g) #[] #[] := fun _ => rfl
          refine relUpon_value (v := .agg #[.string nm, .bool j.s, .int .i64 j.lo, .int .i64 j.hi]) ?_ ⟨hC.o1, hC.o2, hC.o3, fun _ => hLd 4 (by decide), hC.s, hC.rd, hC.sm, hC.fin⟩ (fun _ _ _ _ => rfl) ⟨j, rfl, hj⟩
          go_simp
        -- 6: slot 49 := buildSlice 59 1 #[(0, t48)]
        · intro w L f hC hLi hLd hLn hF
          obtain ⟨d48, _⟩ := hF
          refine Step2.live rfl ?_
          obtain ⟨j, e0, hj⟩ := d48
          have ev : ∀ t, evalOf f (.tmp t) = f t := fun _ => rfl
          have ec : ∀ c, evalOf f (.const c) = c := fun _ => rfl
          have ef : ∀ g, evalOf f (.func g) = .func (.func g) #[] #[] := fun _ => rfl
          have hbn := below_new w (.cells #[.string nm, .bool j.s, .int .i64 j.lo, .int .i64 j.hi] 118)
          have h4 : L 4 = true := hC.o4 (hLd 5 (by decide))
          refine relUpon_value (w' := w.alloc (.cells #[.string nm, .bool j.s, .int .i64 j.lo, .int .i64 j.hi] 118)) (v := .slice (some ⟨w.heap.size, 0, none⟩) 1 1) (by go_simp) ⟨fun h => absurd h (by simp [hLn 9 (by simp)]), fun h => absurd h (by simp [hLn 7 (by simp)]), fun _ => by simp [h4], fun _ => by simp [h4], Nat.le_trans hC.s hbn.size, by have := hC.rd.below hbn; simpa using this, fun _ => (hC.sm (hLn 7 (by simp))).below hbn, fun h => absurd h (by simp [hLn 9 (by simp)])⟩ (fun _ h => absurd rfl h) (fun _ _ => ⟨_, j, rfl, hC.s, Holds.new _ _ _, hj⟩)
        -- 7: slot 50 := call { builtin append, args := #[t44, t49], argTypes := #[59, 59] }
        · intro w L f hC hLi hLd hLn hF
          obtain ⟨d44, d49, _⟩ := hF
          have d44 : f 44 = .slice A2 acc.length c2 := d44
          refine Step2.live rfl ?_
          have h6 : L 6 = true := hLd 6 (by decide)
          have h4 := hC.o3 h6
          obtain ⟨kn, j, e0, hkn, hrow, hj⟩ := d49 h6 hLi
          have hs0 := hC.s
          have hsm := hC.sm hLi
          have hown := hsm.o2
          have ev : ∀ t, evalOf f (.tmp t) = f t := fun _ => rfl
          have ec : ∀ c, evalOf f (.const c) = c := fun _ => rfl
          have ef : ∀ g, evalOf f (.func g) = .func (.func g) #[] #[] := fun _ => rfl
          refine relUpon_append_at (.tmp 44) (.tmp 49) 59 rfl (ra + 2) 118 iN (.agg #[.string ⟨#[]⟩, .bool false, .int .i64 0, .int .i64 0]) 4 40 Try.underlying59 hiN hzN0 hzN1 hzN2 rfl (by omega) (.slice A2 acc.length c2) acc.length (acc.flatMap Nm.cells) (by rw [ev]; exact d44) hown ⟨kn, 0, none⟩ 1 1 [.string nm, .bool j.s, .int .i64 j.lo, .int .i64 j.hi] (by rw [ev]; exact e0) rfl (fun i u hi => by
            have h9 := hrow.cell i
            have hadd : (⟨kn, 0, none⟩ : Addr).add i = ⟨kn, i, none⟩ := by unfold Addr.add; split <;> simp_all
            rw [hadd, h9]
            simpa using hi) (by intro u hu; simp at hu; rcases hu with rfl | rfl | rfl | rfl <;> rfl) (by have := hkb.out; unfold maxLen; omega) (by have := hkb.out; omega) hs0 ?_
          intro v' w1 ho hg _
          have hM : Writes [(Value.slice A2 acc.length c2).ownBlock] w w1 := Writes.of_grown hg (by simp)
          have hgl := hsm.g0
          have hn0 := hsm.n0
          exact ⟨⟨fun h => absurd h (by simp [hLn 9 (by simp)]), fun _ => by simp [h6], fun _ => by simp [h4], fun _ => by simp [h4], Nat.le_trans hs0 hM.size, by have := hC.rd.keep hM (fun i hi => by have := own_low hown (show some i = (Value.slice A2 acc.length c2).ownBlock by simpa using hi); omega); simpa using this, fun h => absurd h (by simp), fun h => absurd h (by simp [hLn 9 (by simp)])⟩, fun _ _ h => absurd rfl h, fun _ _ => NmApp.of hsm rfl ho hg hj⟩
        -- 8: slot 51 := fieldAddr 61 t3 3
        · intro w L f hC hLi hLd hLn hF
          obtain ⟨d3, _⟩ := hF
          have d3 : f 3 = .pointer (some ⟨ra + 1, 0, none⟩) := d3
          refine Step2.live rfl ?_
          have ev : ∀ t, evalOf f (.tmp t) = f t := fun _ => rfl
          have ec : ∀ c, evalOf f (.const c) = c := fun _ => rfl
          have ef : ∀ g, evalOf f (.func g) = .func (.func g) #[] #[] := fun _ => rfl
          refine relUpon_value ?_ hC (fun _ _ _ _ => rfl) rfl
          go_simp
        -- 9: slot None := store 59 t51 t50
        · intro w L f hC hLi hLd hLn hF
          obtain ⟨d51, d50, _⟩ := hF
          have d51 : f 51 = .pointer (some ⟨ra + 1, 5, none⟩) := d51
          refine Step2.live rfl ?_
          have h7 : L 7 = true := hLd 7 (by decide)
          have h6 := hC.o2 h7
          have h4 := hC.o3 h6
          obtain ⟨j, A', c', e0, hcell, hfz, hsm, hj⟩ := d50 h7 hLi
          have ev : ∀ t, evalOf f (.tmp t) = f t := fun _ => rfl
          have ec : ∀ c, evalOf f (.const c) = c := fun _ => rfl
          have ef : ∀ g, evalOf f (.func g) = .func (.func g) #[] #[] := fun _ => rfl
          have hst := Writes.store w (M := [some (ra + 1)]) (p := ⟨ra + 1, 5, none⟩) (by simp) (.slice A' (acc.length + 1) c')
          have hgl := hsm.g0
          have hn0 := hsm.n0
          refine relUpon_skip (w' := w.setCell ⟨ra + 1, 5, none⟩ (.slice A' (acc.length + 1) c')) ?_ ⟨fun _ => by simp [h7], fun _ => by simp [h6], fun _ => by simp [h4], fun _ => by simp [h4], Nat.le_trans hC.s hst.size, by have := hC.rd.keep hst (fun i hi => by simp at hi; omega); simpa using this, fun h => absurd h (by simp [h7]), fun _ => ⟨_, j, hsm, hj⟩⟩ (fun _ _ _ h => absurd rfl h) trivial
          go_simp
      intro x w' hC hV

      have hfin := Lib.hid (hC.fin rfl)
      have hrd := hC.rd
      have hrd' : Hid (Rrd w' g (nextOf ivR E)) := Lib.hid hrd
      clear hV hC hrd
      simp only [framed]
      go_wp2_with fail
      go_roundw
      case rel =>
        obtain ⟨v', j, hS5, hj⟩ := hfin.out
        refine ⟨k + 1, acc ++ [⟨nm, j⟩], v', nextOf ivR E, by omega, by go_num, hS5, hrd'.out, hrep.out.step hkn ⟨nm, j⟩ _ ?_⟩
        rw [hnE.out]
        cases hE : nextOf ivR E with
        | none => rfl
        | some l'' => rw [hj (by rw [hE]; simp)]
      case measure => simp [intOf]; omega
    · obtain rfl : k = n := by omega
      have hend := hrep.out.end_
      have hyes := TookSmR.of (show st.bind smR = some (⟨al, b, iv, acc⟩, l') by rw [hch3.out, hend]; rfl)
      have hyes := Lib.hid hyes
      rename_i u1
      clear u1 hend
      have z0 := (hS0.cell.fact 0 rfl).2
      have z1 := (hS0.cell.fact 1 rfl).2
      have z2 := (hS0.cell.fact 2 rfl).2
      have z3 := (hS0.cell.fact 3 rfl).2
      have z4 := (hS0.cell.fact 4 rfl).2
      have z5 := (hS0.cell.fact 5 rfl).2
      have y0 := (hS0.zero.fact 0 rfl).2
      have y1 := (hS0.zero.fact 1 rfl).2
      have y2 := (hS0.zero.fact 2 rfl).2
      have y3 := (hS0.zero.fact 3 rfl).2
      have y4 := (hS0.zero.fact 4 rfl).2
      have y5 := (hS0.zero.fact 5 rfl).2
      have g0 := hS0.zero.frozen 0
      have g1 := hS0.zero.frozen 1
      have g2 := hS0.zero.frozen 2
      have g3 := hS0.zero.frozen 3
      have g4 := hS0.zero.frozen 4
      have g5 := hS0.zero.frozen 5
      clear hS0 hR0
      go_wp2_with fail
      have hst := writes_store6 wr ra (.slice A1 al.length c1) (.bool b) (.bool iv.s) (.int .i64 iv.lo) (.int .i64 iv.hi) (.slice A2 acc.length c2)
      have hn0 := hS.out.n0
      refine ret_cell1 rfl rfl rfl (hS.out.zero.store6 (.slice A1 al.length c1) (.bool b) (.bool iv.s) (.int .i64 iv.lo) (.int .i64 iv.hi) (.slice A2 acc.length c2)) Try.underlying61 Try.sSm ⟨⟨_, rfl, ?_⟩, ?_, ?_⟩
      · rw [hyes.out.1]
        exact ⟨_, _, rfl, own_base (own_above hS.out.o1 hst (fun j hj => by simp at hj; omega)) (by omega), own_base (own_above hS.out.o2 hst (fun j hj => by simp at hj; omega)) (by omega)⟩
      · rw [hyes.out.2]
        exact hR.out.keep hst (fun j hj => by simp at hj; omega)
      · exact hS.out.M.then_ hst (fun j hj e => by simp at e; omega)
end Go.Proofs.Ytimhghmnnibajaa
