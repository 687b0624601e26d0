/-
  Plain laws of alarms, intervals, summaries as they are read. No program in sight.
-/
import Derived.Test.YtimhghmnnibajaaRrC
import Derived.Test.YtimhghmnnibajaaCodeT
namespace Go.Proofs.Ytimhghmnnibajaa

def ivR (l : List UInt8) : Option (Iv × List UInt8) := (boolR l).bind fun p => if p.1 = true then (intR p.2).bind fun q => (intR q.2).map fun r => (⟨true, q.1, r.1⟩, r.2) else some (⟨false, 0, 0⟩, p.2)
def alR (l : List UInt8) : Option (Al × List UInt8) := (smallR l).bind fun p => (smallR p.2).map fun q => (⟨p.1, q.1⟩, q.2)
/-- n of them, one behind the other. -/
def rep {α : Type} (r : List UInt8 → Option (α × List UInt8)) : Nat → List UInt8 → Option (List α × List UInt8)
  | 0, l => some ([], l)
  | n + 1, l => (r l).bind fun p => (rep r n p.2).map fun q => (p.1 :: q.1, q.2)
def alsR (l : List UInt8) : Option (List Al × List UInt8) := (countR l).bind fun p => rep alR p.1 p.2
def nmR (l : List UInt8) : Option (Nm × List UInt8) := (textR l).bind fun p => (ivR p.2).map fun q => (⟨strV p.1, q.1⟩, q.2)
def smR (l : List UInt8) : Option (Sm × List UInt8) :=
  (alsR l).bind fun a => (boolR a.2).bind fun b => (ivR b.2).bind fun c => (countR c.2).bind fun n => (rep nmR n.1 n.2).map fun d => (⟨a.1, b.1, c.1, d.1⟩, d.2)

/-- Where a loop stands that reads n: k are read, they are acc; what is left, or a failure. -/
def RepAt {α : Type} (r : List UInt8 → Option (α × List UInt8)) (l1 : List UInt8) (n k : Nat) (acc : List α) (st : Option (List UInt8)) : Prop :=
  acc.length = k ∧ match st with
  | some l' => (rep r (n - k) l').map (fun p => (acc ++ p.1, p.2)) = rep r n l1
  | none => rep r n l1 = none
theorem RepAt.start {α : Type} (r : List UInt8 → Option (α × List UInt8)) (l : List UInt8) (n : Nat) : RepAt r l n 0 [] (some l) := by
  refine ⟨rfl, ?_⟩
  simp
theorem RepAt.end_ {α : Type} {r : List UInt8 → Option (α × List UInt8)} {l l' : List UInt8} {n : Nat} {acc : List α} (h : RepAt r l n n acc (some l')) : rep r n l = some (acc, l') := by
  have := h.2
  simp only [Nat.sub_self, rep, Option.map_some, List.append_nil] at this
  exact this.symm
/-- One step, whatever came of it. -/
theorem RepAt.step {α : Type} {r : List UInt8 → Option (α × List UInt8)} {l l' : List UInt8} {n k : Nat} {acc : List α} (h : RepAt r l n k acc (some l')) (hk : k < n) (a : α) (st : Option (List UInt8)) (ha : r l' = st.map fun l'' => (a, l'')) : RepAt r l n (k + 1) (acc ++ [a]) st := by
  obtain ⟨h1, h2⟩ := h
  refine ⟨by simp [h1], ?_⟩
  rw [show n - k = (n - (k + 1)) + 1 by omega] at h2
  simp only [rep, ha] at h2
  cases st with
  | none => simpa using h2.symm
  | some l'' =>
    simp only [Option.map_some, Option.bind_some] at h2
    simp only
    rw [← h2]
    cases rep r (n - (k + 1)) l'' with
    | none => rfl
    | some p => simp
theorem RepAt.none_ {α : Type} {r : List UInt8 → Option (α × List UInt8)} {l : List UInt8} {n k : Nat} {acc : List α} (h : RepAt r l n k acc none) : rep r n l = none := h.2
theorem alR_eq (l : List UInt8) : alR l = (nextOf smallR (nextOf smallR (some l))).map fun l2 => (⟨valOf smallR 0 (some l), valOf smallR 0 (nextOf smallR (some l))⟩, l2) := by
  unfold alR
  cases h : smallR l with
  | none => simp [nextOf, h]
  | some p =>
    obtain ⟨a, l1⟩ := p
    cases h2 : smallR l1 with
    | none => simp [nextOf, h, h2]
    | some q => simp [nextOf, valOf, h, h2]
theorem smallR_ok {l l' : List UInt8} {z : Int} (h : smallR l = some (z, l')) : -2147483648 ≤ z ∧ z ≤ 2147483647 := by
  unfold smallR at h
  cases hn : intR l with
  | none => rw [hn] at h; cases h
  | some p =>
    rw [hn] at h
    simp only [Option.bind_some] at h
    split at h
    · rename_i hp
      simp only [Option.some.injEq] at h
      subst h
      exact hp
    · cases h
theorem valSmall_ok (st : Option (List UInt8)) : -2147483648 ≤ valOf smallR 0 st ∧ valOf smallR 0 st ≤ 2147483647 := by
  cases st with
  | none => simp [valOf]
  | some l =>
    cases h : smallR l with
    | none => simp [valOf, h]
    | some p => obtain ⟨n, l'⟩ := p; have := smallR_ok h; simpa [valOf, h] using this
/-- Each number takes a byte at least. -/
theorem rdN_short : ∀ (k i v : Nat) (l : List UInt8) (n : Nat) (l' : List UInt8), rdN k i v l = some (n, l') → l'.length + 1 ≤ l.length
  | 0, _, _, _, _, _, h => by simp [rdN] at h
  | k + 1, i, v, [], n, l', h => by simp [rdN] at h
  | k + 1, i, v, b :: l, n, l', h => by
    by_cases h9 : i = 9 ∧ 1 < b.toNat
    · rw [rdN_wide _ _ _ _ _ h9] at h
      cases h
    · by_cases h1 : b.toNat < 128
      · by_cases h2 : b.toNat = 0 ∧ 0 < i
        · rw [rdN_idle _ _ _ _ _ h9 h2] at h
          cases h
        · rw [rdN_last _ _ _ _ _ h9 h1 h2] at h
          simp only [Option.some.injEq, Prod.mk.injEq] at h
          rw [← h.2]
          simp
      · rw [rdN_more _ _ _ _ _ h9 h1] at h
        have := rdN_short k (i + 1) _ l n l' h
        simp
        omega
theorem intR_short {l l' : List UInt8} {z : Int} (h : intR l = some (z, l')) : l'.length + 1 ≤ l.length := by
  unfold intR at h
  cases hn : numR l with
  | none => rw [hn] at h; cases h
  | some p =>
    obtain ⟨n, l2⟩ := p
    rw [hn] at h
    simp only [Option.map_some, Option.some.injEq, Prod.mk.injEq] at h
    rw [← h.2]
    exact rdN_short _ _ _ _ _ _ hn
theorem smallR_short {l l' : List UInt8} {z : Int} (h : smallR l = some (z, l')) : l'.length + 1 ≤ l.length := by
  unfold smallR at h
  cases hn : intR l with
  | none => rw [hn] at h; cases h
  | some p =>
    obtain ⟨n, l2⟩ := p
    rw [hn] at h
    simp only [Option.bind_some] at h
    split at h
    · simp only [Option.some.injEq, Prod.mk.injEq] at h
      rw [← h.2]
      exact intR_short hn
    · cases h
theorem alR_short {l l' : List UInt8} {a : Al} (h : alR l = some (a, l')) : l'.length + 2 ≤ l.length := by
  unfold alR at h
  cases hn : smallR l with
  | none => rw [hn] at h; cases h
  | some p =>
    obtain ⟨x, l1⟩ := p
    rw [hn] at h
    simp only [Option.bind_some] at h
    cases hm : smallR l1 with
    | none => rw [hm] at h; cases h
    | some q =>
      obtain ⟨y, l2⟩ := q
      rw [hm] at h
      simp only [Option.map_some, Option.some.injEq, Prod.mk.injEq] at h
      have h1 := smallR_short hn
      have h2 := smallR_short hm
      rw [← h.2]
      omega
theorem rep_short : ∀ (n : Nat) {l l' : List UInt8} {xs : List Al}, rep alR n l = some (xs, l') → l'.length + 2 * n ≤ l.length
  | 0, l, l', xs, h => by simp only [rep, Option.some.injEq, Prod.mk.injEq] at h; rw [h.2]; omega
  | n + 1, l, l', xs, h => by
    simp only [rep] at h
    cases hn : alR l with
    | none => rw [hn] at h; cases h
    | some p =>
      obtain ⟨x, l1⟩ := p
      rw [hn] at h
      simp only [Option.bind_some] at h
      cases hm : rep alR n l1 with
      | none => rw [hm] at h; cases h
      | some q =>
        obtain ⟨y, l2⟩ := q
        rw [hm] at h
        simp only [Option.map_some, Option.some.injEq, Prod.mk.injEq] at h
        have h1 := alR_short hn
        have h2 := rep_short n hm
        rw [← h.2]
        omega
end Go.Proofs.Ytimhghmnnibajaa
