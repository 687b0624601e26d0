/-
  The walks of package code's writer: Int, Bool; NewWriter.
-/
import Derived.Test.YtelglbblgkhcmaaGreatCodeA
namespace Go.Proofs.YtelglbblgkhcmaaGreat
open Go.RowKit

theorem Wrt.below {w w' : World} {B g : Nat} {t : TypeId} {v : Value} {l : List UInt8} (h : Wrt w B g t v l) (hb : Below w.heap.size w w') : Wrt w' B g t v l :=
  ⟨h.cell.below hb h.cell.lt, own_below h.own hb, h.low, h.kind⟩
theorem Wrt.lt {w : World} {B g : Nat} {t : TypeId} {v : Value} {l : List UInt8} (h : Wrt w B g t v l) {k : Nat} (hk : w.heap.size ≤ k) : some k ∉ [some g, v.ownBlock] := by
  simp only [List.mem_cons, List.mem_nil_iff, or_false, not_or]
  refine ⟨fun e => ?_, own_lt h.own hk⟩
  have := h.cell.lt
  injection e with e
  omega

/-- What a writer's method leaves. -/
def Wrote (w : World) (B g : Nat) (t : TypeId) (v : Value) (l : List UInt8) (e : Ending) (w' : World) : Prop :=
  e = .returned (.tuple #[]) ∧ ∃ v', Wrt w' B g t v' l ∧ Writes [some g, v.ownBlock] w w' ∧ Fresh w v v'

/-- Num of one number, made on the spot. -/
theorem num_one (w : World) (B g : Nat) (t : TypeId) (v : Value) (l : List UInt8) (z : Int) (hw : Wrt w B g t v l) (hB : B ≤ w.heap.size) (h0 : 0 ≤ z) (h1 : z < 18446744073709551616) (hlen : l.length ≤ 99999999990) :
    Calls Tryz.prog 81 #[.pointer (some ⟨g, 0, none⟩), .slice (some ⟨w.heap.size, 0, none⟩) 1 1] (w.alloc (.cells #[.int .u64 z] 59)) (Wrote w B g t v (l ++ numE z.toNat)) := by
  obtain ⟨n, rfl⟩ := Int.eq_ofNat_of_zero_le h0
  have hb := below_new w (.cells #[.int .u64 (n : Int)] 59)
  refine (num_any (w.alloc _) B g t v l (some ⟨w.heap.size, 0, none⟩) 1 [n] (hw.below hb) (by simp; omega) (by simp; omega) (Row.one w _ _) (fun _ => hw.lt (Nat.le_refl _)) (by simp; omega)).mono ?_
  rintro e w' ⟨he, v', hv, hM, hF⟩
  refine ⟨he, v', by simpa using hv, (Writes.of_below hb _).trans hM, ?_⟩
  rcases hF with h | ⟨k, h1, h2⟩
  · exact .inl h
  · exact .inr ⟨k, h1, by simp at h2; omega⟩

/-- Where a loop over the arguments stands, f being what one of them is written as. -/
def AtW {α : Type} (f : α → List UInt8) (w : World) (B g : Nat) (t : TypeId) (v : Value) (l : List UInt8) (zs : List α) (k : Nat) (wr : World) : Prop :=
  ∃ u, Wrt wr B g t u (l ++ (zs.take k).flatMap f) ∧ Writes [some g, v.ownBlock] w wr ∧ Fresh w v u
theorem AtW.step {α : Type} {f : α → List UInt8} {w wr w' : World} {B g : Nat} {t : TypeId} {v u : Value} {l cur : List UInt8} {zs : List α} {k : Nat} (hk : k < zs.length) (hc : l ++ (zs.take k).flatMap f = cur) (hM : Writes [some g, v.ownBlock] w wr) (hF : Fresh w v u)
    {e : Ending} (h : Wrote wr B g t u (cur ++ f zs[k]) e w') : AtW f w B g t v l zs (k + 1) w' := by
  obtain ⟨_, u', h1, h2, h3⟩ := h
  refine ⟨u', by rw [flat_take f zs k hk, ← List.append_assoc, hc]; exact h1, writes_then hM hF h2, hF.trans h3 hM.size⟩
theorem flat_len' {α : Type} (f : α → List UInt8) (n : Nat) (l : List α) (h : ∀ x ∈ l, (f x).length ≤ n) (k : Nat) : ((l.take k).flatMap f).length ≤ n * k := by
  induction l generalizing k with
  | nil => simp
  | cons a r ih =>
    cases k with
    | zero => simp
    | succ k =>
      have h1 := h a (List.mem_cons_self ..)
      have h2 := ih (fun x hx => h x (List.mem_cons_of_mem _ hx)) k
      simp only [List.take_succ_cons, List.flatMap_cons, List.length_append]
      rw [Nat.mul_succ]
      omega
theorem zigN_lt (z : Int) (h1 : -9223372036854775808 ≤ z) (h2 : z ≤ 9223372036854775807) : zigN z < 18446744073709551616 := by
  unfold zigN
  split <;> omega
def i64V (z : Int) : Value := .int .i64 z

end Go.Proofs.YtelglbblgkhcmaaGreat
