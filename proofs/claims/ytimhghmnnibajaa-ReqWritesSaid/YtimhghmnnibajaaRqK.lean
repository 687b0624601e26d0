/-
  Plain laws of requests and replies: what is written is read back.
-/
import Derived.Test.YtimhghmnnibajaaRqJ
namespace Go.Proofs.Ytimhghmnnibajaa
open Go.RowKit

theorem strV_back2 (s : ByteArray) : strV s.data.toList = s := by
  unfold strV
  rw [Array.toArray_toList]
theorem txtE_text2 (s : ByteArray) : txtE s = textE s.data.toList := by
  unfold txtE textE
  rw [Array.length_toList]
  rfl
theorem txtR_back (s : ByteArray) (l : List UInt8) (h : s.size < 18446744073709551616) : textR (txtE s ++ l) = some (s.data.toList, l) := by
  rw [txtE_text2]
  exact textR_back _ _ (by rw [Array.length_toList]; exact h)
def small (z : Int) : Prop := -2147483648 ≤ z ∧ z ≤ 2147483647
instance (z : Int) : Decidable (small z) := by unfold small; infer_instance
theorem small_ok {z : Int} (h : small z) : i64ok z := ⟨by have := h.1; omega, by have := h.2; omega⟩
theorem smallR_back (z : Int) (l : List UInt8) (h : small z) : smallR (intE z ++ l) = some (z, l) := by
  unfold smallR
  rw [intR_back z l (small_ok h).1 (small_ok h).2]
  simp only [Option.bind_some]
  rw [if_pos (show -2147483648 ≤ z ∧ z ≤ 2147483647 from h)]
theorem smallR_big (z : Int) (l : List UInt8) (h : i64ok z) (hz : ¬ small z) : smallR (intE z ++ l) = none := by
  unfold smallR
  rw [intR_back z l h.1 h.2]
  simp only [Option.bind_some]
  rw [if_neg (show ¬ (-2147483648 ≤ z ∧ z ≤ 2147483647) from hz)]
theorem openQ_back (r : Rq) (h1 : 1 ≤ r.kind) (h2 : r.kind ≤ 7) (hn : r.name.size ≤ 20000) (ht : r.text.size ≤ 20000) (hz : small r.n) (hl : ¬ 8192 < (rqE r).length) : openQ (rqE r) = some r := by
  unfold openQ
  rw [if_neg hl]
  have e : rqE r = numE (max 0 r.kind).toNat ++ (txtE r.name ++ (txtE r.text ++ (intE r.n ++ []))) := by simp [rqE]
  rw [e, numR_back _ _ (by omega)]
  simp only [Option.bind_some]
  rw [txtR_back _ _ (by omega)]
  simp only [Option.bind_some]
  rw [txtR_back _ _ (by omega)]
  simp only [Option.bind_some]
  rw [smallR_back _ _ hz]
  simp only [Option.bind_some]
  rw [if_pos ⟨trivial, by omega, by omega⟩, strV_back2, strV_back2]
  congr 1
  obtain ⟨k, a, b, c⟩ := r
  simp only at h1 h2
  congr 1
  simp only
  omega
/-- One whose kind or number may not be. -/
theorem openQ_not (r : Rq) (hk : i64ok r.kind) (hn : r.name.size ≤ 20000) (ht : r.text.size ≤ 20000) (hz : i64ok r.n) (h : ¬ (1 ≤ r.kind ∧ r.kind ≤ 7 ∧ small r.n)) : openQ (rqE r) = none := by
  unfold openQ
  split
  · rfl
  have e : rqE r = numE (max 0 r.kind).toNat ++ (txtE r.name ++ (txtE r.text ++ (intE r.n ++ []))) := by simp [rqE]
  have hk2 := hk.2
  rw [e, numR_back _ _ (by omega)]
  simp only [Option.bind_some]
  rw [txtR_back _ _ (by omega)]
  simp only [Option.bind_some]
  rw [txtR_back _ _ (by omega)]
  simp only [Option.bind_some]
  by_cases hs : small r.n
  · rw [smallR_back _ _ hs]
    simp only [Option.bind_some]
    rw [if_neg]
    rintro ⟨_, h1, h2⟩
    exact h ⟨by omega, by omega, hs⟩
  · rw [smallR_big _ _ hz hs]
    rfl
theorem alE_back (a : Al) (l : List UInt8) (h : small a.pos ∧ small a.kind) : alR (alE a ++ l) = some (a, l) := by
  unfold alR alE
  rw [List.append_assoc, smallR_back _ _ h.1]
  simp only [Option.bind_some]
  rw [smallR_back _ _ h.2]
  rfl
theorem rep_back (l : List UInt8) : ∀ (al : List Al), (∀ a ∈ al, small a.pos ∧ small a.kind) → rep alR al.length (al.flatMap alE ++ l) = some (al, l)
  | [], _ => rfl
  | a :: r, h => by
    simp only [List.length_cons, List.flatMap_cons, List.append_assoc, rep]
    rw [alE_back a _ (h a (List.mem_cons_self ..))]
    simp only [Option.bind_some]
    rw [rep_back l r fun x hx => h x (List.mem_cons_of_mem _ hx)]
    rfl
theorem numE_pos2 (n : Nat) : 0 < (numE n).length := by
  by_cases h : n < 128
  · rw [numE_small h]; simp
  · rw [numE_big h]; simp
theorem als_count (al : List Al) : al.length ≤ (al.flatMap alE).length := by
  induction al with
  | nil => simp
  | cons a r ih =>
    have := numE_pos2 (zigN a.pos)
    simp only [List.length_cons, List.flatMap_cons, List.length_append, alE, intE]
    omega
theorem alsR_back (al : List Al) (l : List UInt8) (hl : al.length < 18446744073709551616) (h : ∀ a ∈ al, small a.pos ∧ small a.kind) : alsR (alsE al ++ l) = some (al, l) := by
  unfold alsR countR alsE
  have := als_count al
  rw [List.append_assoc, numR_back _ _ hl]
  simp only [Option.bind_some]
  rw [if_pos (by rw [List.length_append]; omega)]
  exact rep_back l al h
theorem openP_back (p : Rp) (h1 : 0 ≤ p.kind) (h2 : p.kind ≤ 5) (he : small p.err) (hp : small p.pos) (hl : p.al.length ≤ 1000) (ha : ∀ a ∈ p.al, small a.pos ∧ small a.kind) (ht : p.text.size ≤ 20000) (hz : small p.n) : openP (rpE p) = some p := by
  unfold openP
  have e : rpE p = numE (max 0 p.kind).toNat ++ (intE p.err ++ (intE p.pos ++ (alsE p.al ++ (txtE p.text ++ (intE p.n ++ []))))) := by simp [rpE]
  rw [e, numR_back _ _ (by omega)]
  simp only [Option.bind_some]
  rw [smallR_back _ _ he]
  simp only [Option.bind_some]
  rw [smallR_back _ _ hp]
  simp only [Option.bind_some]
  rw [alsR_back _ _ (by omega) ha]
  simp only [Option.bind_some]
  rw [txtR_back _ _ (by omega)]
  simp only [Option.bind_some]
  rw [smallR_back _ _ hz]
  simp only [Option.bind_some]
  rw [if_pos ⟨trivial, by omega⟩, strV_back2]
  congr 1
  obtain ⟨k, a, b, c, d, f⟩ := p
  simp only at h1 h2
  congr 1
  simp only
  omega
/-- One without alarms whose kind or number may not be. -/
theorem openP_not (p : Rp) (hk : i64ok p.kind) (he : small p.err) (hp : small p.pos) (ha : p.al = []) (ht : p.text.size ≤ 20000) (hz : i64ok p.n) (h : ¬ (p.kind ≤ 5 ∧ small p.n)) : openP (rpE p) = none := by
  unfold openP
  have e : rpE p = numE (max 0 p.kind).toNat ++ (intE p.err ++ (intE p.pos ++ (alsE p.al ++ (txtE p.text ++ (intE p.n ++ []))))) := by simp [rpE]
  have hk2 := hk.2
  rw [e, numR_back _ _ (by omega)]
  simp only [Option.bind_some]
  rw [smallR_back _ _ he]
  simp only [Option.bind_some]
  rw [smallR_back _ _ hp]
  simp only [Option.bind_some]
  rw [alsR_back _ _ (by rw [ha]; simp) (by rw [ha]; simp)]
  simp only [Option.bind_some]
  rw [txtR_back _ _ (by omega)]
  simp only [Option.bind_some]
  by_cases hs : small p.n
  · rw [smallR_back _ _ hs]
    simp only [Option.bind_some]
    rw [if_neg]
    rintro ⟨_, h1⟩
    exact h ⟨by omega, hs⟩
  · rw [smallR_big _ _ hz hs]
    rfl
theorem openQ_nil : openQ [] = none := by
  unfold openQ
  rw [if_neg (by simp)]
  rfl
end Go.Proofs.Ytimhghmnnibajaa
