/-
  What req.OpenReply's walk uses: the loop over the alarms (plain), the region that reads one.
-/
import Derived.Test.YtimhghmnnibajaaRqH
namespace Go.Proofs.Ytimhghmnnibajaa
open Go.RowKit

/-- Where the loop over the alarms stands: E4 is what was left behind the number. -/
def AlsAt (E4 : Option (List UInt8)) (n k : Nat) (acc : List Al) (E : Option (List UInt8)) : Prop :=
  acc.length = k ∧ ((E4 = none ∧ E = none) ∨ ∃ l4, E4 = some l4 ∧ RepAt alR l4 n k acc E)
theorem AlsAt.start (E4 : Option (List UInt8)) (n : Nat) : AlsAt E4 n 0 [] E4 := by
  refine ⟨rfl, ?_⟩
  cases E4 with
  | none => exact .inl ⟨rfl, rfl⟩
  | some l => exact .inr ⟨l, rfl, RepAt.start _ _ _⟩
theorem AlsAt.step {E4 E : Option (List UInt8)} {n k : Nat} {acc : List Al} (h : AlsAt E4 n k acc E) (hk : k < n) (z1 z2 : Int) (h1 : nextOf smallR E ≠ none → z1 = valOf smallR 0 E) (h2 : nextOf smallR (nextOf smallR E) ≠ none → z2 = valOf smallR 0 (nextOf smallR E)) :
    AlsAt E4 n (k + 1) (acc ++ [⟨z1, z2⟩]) (nextOf smallR (nextOf smallR E)) := by
  obtain ⟨hl, h⟩ := h
  refine ⟨by simp [hl], ?_⟩
  rcases h with ⟨h3, rfl⟩ | ⟨l4, h3, h4⟩
  · exact .inl ⟨h3, rfl⟩
  · refine .inr ⟨l4, h3, ?_⟩
    cases E with
    | none => exact ⟨by simp [hl], h4.none_⟩
    | some l' =>
      refine h4.step hk _ _ ?_
      rw [alR_eq]
      cases h5 : nextOf smallR (nextOf smallR (some l')) with
      | none => rfl
      | some l'' =>
        have e2 := h2 (by rw [h5]; simp)
        have e1 := h1 (fun e => by rw [e] at h5; cases h5)
        rw [← e1, ← e2]
theorem AlsAt.end_ {E3 E : Option (List UInt8)} {n : Nat} {acc : List Al} (h : AlsAt (nextOf numR E3) n n acc E) (hn : nextOf numR E3 ≠ none → n = valOf numR 0 E3) : nextOf alsR E3 = E ∧ (E ≠ none → valOf alsR [] E3 = acc) := by
  obtain ⟨hl, h⟩ := h
  rcases h with ⟨h3, rfl⟩ | ⟨l4, h3, h4⟩
  · have := als_none (num_none h3).2
    refine ⟨?_, fun h => absurd rfl h⟩
    cases E3 with
    | none => rfl
    | some l =>
      have h5 : alsR l = none := this
      simp [nextOf, h5]
  · obtain ⟨l3, rfl, h5⟩ := num_some h3
    rw [← hn (by rw [h3]; simp)] at h5
    cases E with
    | none =>
      have h6 := h4.none_
      have h7 : alsR l3 = none := by
        unfold alsR countR
        rw [h5]
        simp only [Option.bind_some]
        split
        · exact h6
        · rfl
      exact ⟨by simp [nextOf, h7], fun h => absurd rfl h⟩
    | some l5 =>
      have h6 := h4.end_
      have h8 := rep_short n h6
      have h7 : alsR l3 = some (acc, l5) := by
        unfold alsR countR
        rw [h5]
        simp only [Option.bind_some]
        rw [if_pos (by omega)]
        exact h6
      exact ⟨by simp [nextOf, h7], fun _ => by simp [valOf, h7]⟩
theorem next_len {α : Type} {r : List UInt8 → Option (α × List UInt8)} (hr : ∀ l a l', r l = some (a, l') → l'.length ≤ l.length) {st : Option (List UInt8)} {l' : List UInt8} {m : Nat} (hst : ∀ l, st = some l → l.length ≤ m) (h : nextOf r st = some l') : l'.length ≤ m := by
  cases st with
  | none => simp [nextOf] at h
  | some l =>
    cases h2 : r l with
    | none => simp [nextOf, h2] at h
    | some p =>
      simp [nextOf, h2] at h
      have h3 := hr l p.1 p.2 h2
      have h4 := hst l rfl
      rw [← h]
      omega
/-- More alarms than there are bytes: no reply. -/
theorem openP_many {l : List UInt8} {n : Nat} (hn : nextOf numR (nextOf smallR (nextOf smallR (nextOf numR (some l)))) ≠ none → n = valOf numR 0 (nextOf smallR (nextOf smallR (nextOf numR (some l))))) (h : l.length < n) : openP l = none := by
  have h1 : nextOf alsR (nextOf smallR (nextOf smallR (nextOf numR (some l)))) = none := by
    cases h3 : nextOf smallR (nextOf smallR (nextOf numR (some l))) with
    | none => rfl
    | some l3 =>
      cases h4 : numR l3 with
      | none => simp [nextOf, alsR, countR, h4]
      | some p =>
        obtain ⟨m, l4⟩ := p
        have hm : n = m := by
          rw [h3] at hn
          have := hn (by simp [nextOf, h4])
          simpa [valOf, h4] using this
        have a1 : ∀ l', nextOf numR (some l) = some l' → l'.length ≤ l.length := fun l' => next_len (fun l a l' h => by have := rdN_short _ _ _ _ _ _ h; omega) (fun l h => by cases h; exact Nat.le_refl _)
        have a2 : ∀ l', nextOf smallR (nextOf numR (some l)) = some l' → l'.length ≤ l.length := fun l' => next_len (fun l a l' h => by have := smallR_short h; omega) a1
        have a3 : l3.length ≤ l.length := next_len (fun l a l' h => by have := smallR_short h; omega) a2 h3
        have a4 := rdN_short _ _ _ _ _ _ h4
        simp only [nextOf, Option.bind_some, alsR, countR, h4]
        rw [if_neg (by omega)]
        rfl
  rw [openP_eq, h1]
  rw [if_neg]
  intro h2
  simp [nextOf] at h2
theorem relUpon_append_at {P : Program} {w : World} {o : Oper} {ρ : Operand → Value} {A1 B1 : World → Prop} {D : World → Value → Prop} (s x : Operand) (t : TypeId)
    (ho : o.op = .call { callee := .builtin .append, args := #[s, x], argTypes := #[t, t] })
    (base : Nat) (e : TypeId) (i : TypeInfo) (z : Value) (size bytes : Nat) (ht : P.underlying t = some (.slice e)) (hi : P.info? e = some i) (hz : i.zero = some z)
    (hsize : i.size = size) (hby : i.bytes = bytes) (hzs : z.cells.size = size) (hsz : 0 < size)
    (v : Value) (n : Nat) (xs : List Value) (hs : ρ s = v) (hown : w.ownsRow base e size v n xs)
    (ad : Addr) (m c : Nat) (news : List Value) (hx : ρ x = .slice (some ad) m c) (hl : news.length = m * size) (hnews : ∀ j u, news[j]? = some u → w.cell? (ad.add j) = some u) (h1 : ∀ u ∈ news, u.oneCell' = true)
    (h63 : n + m ≤ maxLen) (hbytes : (n + m) * bytes ≤ 140737488355328) (hbase : base ≤ w.heap.size)
    (h : ∀ v' w', w'.ownsRow base e size v' (n + m) (xs ++ news) → w.grownBy w' v.ownBlock → (v'.ownBlock = v.ownBlock ∨ v'.ownBlock = some w.heap.size) → A1 w' ∧ B1 w' ∧ D w' v') :
    relUpon P (fun v w' => A1 w' ∧ B1 w' ∧ D w' v) ((execOp ρ o).run P w) := by
  obtain ⟨v', w', hrun, h2, h3, _, h5⟩ := run_append_own_at (P := P) w base t o.type e i z size bytes ht hi hz hsize hby hzs hsz v n xs hown ad m c news hl hnews h1 h63 hbytes hbase
  unfold execOp
  simp only [ho, resolve, invoke, builtin, Sem.run_bind, Sem.run_pure, Result.andThen_ok, List.map_toArray, List.map_cons, List.map_nil, hs, hx, hrun]
  exact h v' w' h2 h3 h5

/-- The region that reads one alarm's kind and lays the alarm behind the others. -/
structure AlReg (w0 wr : World) (gr gw rb rv Bv : Nat) (E : Option (List UInt8)) (er ps za : Int) (va : Value) (k : Nat) (xs : List Value) (b4 b7 b9 : Bool) (w : World) : Prop where
  b : Below w0.heap.size w0 w
  s : wr.heap.size ≤ w.heap.size
  wire : Wire w gw gr (if b4 = true then nextOf smallR E else E)
  hrb : Holds w rb 86 #[.int .i64 0, .int .i64 0, .int .i64 0, .slice none 0 0, .string ⟨#[]⟩, .int .i64 0]
  hrv : b9 = false → Holds w rv 86 #[.int .i64 0, .int .i64 er, .int .i64 ps, va, .string ⟨#[]⟩, .int .i64 0]
  own : b7 = false → w.ownsRow Bv 75 2 va k xs
  fin : b9 = true → ∃ v z, Holds w rv 86 #[.int .i64 0, .int .i64 er, .int .i64 ps, v, .string ⟨#[]⟩, .int .i64 0] ∧ w.ownsRow Bv 75 2 v (k + 1) (xs ++ [.int .i64 za, .int .i64 z]) ∧ i64ok z ∧ (nextOf smallR E ≠ none → z = valOf smallR 0 E)
/-- A row of an alarm whose kind was read. -/
def AlRow (n0 : Nat) (E : Option (List UInt8)) (za : Int) (w : World) (v : Value) : Prop := ∃ k z, v = .slice (some ⟨k, 0, none⟩) 1 1 ∧ n0 ≤ k ∧ Holds w k 75 #[.int .i64 za, .int .i64 z] ∧ i64ok z ∧ (nextOf smallR E ≠ none → z = valOf smallR 0 E)
def AlOwn (Bv : Nat) (E : Option (List UInt8)) (za : Int) (k : Nat) (xs : List Value) (w : World) (v : Value) : Prop := ∃ z, w.ownsRow Bv 75 2 v (k + 1) (xs ++ [.int .i64 za, .int .i64 z]) ∧ i64ok z ∧ (nextOf smallR E ≠ none → z = valOf smallR 0 E)
theorem AlRow.keep {n0 : Nat} {E : Option (List UInt8)} {za : Int} {w w' : World} {v : Value} {M : List (Option Nat)} (h : AlRow n0 E za w v) (hM : Writes M w w') (hk : ∀ j, some j ∈ M → j < n0) : AlRow n0 E za w' v := by
  obtain ⟨k, z, h1, h2, h3, h4⟩ := h
  exact ⟨k, z, h1, h2, hM.holds h3 (fun e => by have := hk k e; omega), h4⟩
theorem own_above {w w' : World} {Bv : Nat} {e : TypeId} {size : Nat} {v : Value} {n : Nat} {xs : List Value} {M : List (Option Nat)} (h : w.ownsRow Bv e size v n xs) (hM : Writes M w w') (hk : ∀ j, some j ∈ M → j < Bv) : w'.ownsRow Bv e size v n xs := by
  refine hM.own h ?_
  by_cases hn : v.ownBlock = none
  · exact .inl hn
  · refine .inr fun hm => ?_
    obtain ⟨j, hj⟩ := Option.ne_none_iff_exists'.1 hn
    have h1 := hk j (by rw [← hj]; exact hm)
    have h2 := own_low h hj.symm
    omega
theorem AlOwn.keep {Bv : Nat} {E : Option (List UInt8)} {za : Int} {k : Nat} {xs : List Value} {w w' : World} {v : Value} {M : List (Option Nat)} (h : AlOwn Bv E za k xs w v) (hM : Writes M w w') (hk : ∀ j, some j ∈ M → j < Bv) : AlOwn Bv E za k xs w' v := by
  obtain ⟨z, h1, h2⟩ := h
  exact ⟨z, own_above h1 hM hk, h2⟩
end Go.Proofs.Ytimhghmnnibajaa
