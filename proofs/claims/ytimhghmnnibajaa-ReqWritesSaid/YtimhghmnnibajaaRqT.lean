/-
  Requests and replies as both readers answer them, one way for all bytes. A byte turned in a row of the call's own.
-/
import Derived.Test.YtimhghmnnibajaaRqS
namespace Go.Proofs.Ytimhghmnnibajaa
open Go.RowKit Go.ChangeShapes Go.WideShapes Go.Deep

def qOf : Option Rq → Rq
  | some r => r
  | none => ⟨0, ⟨#[]⟩, ⟨#[]⟩, 0⟩
def pOf : Option Rp → Rp
  | some p => p
  | none => ⟨0, 0, 0, [], ⟨#[]⟩, 0⟩
def zOf {α : Type} : Option α → Int
  | some _ => 0
  | none => 80
theorem retQ_gen (o : Option Rq) : retQ o = .returned (.tuple #[.agg #[.int .i64 (qOf o).kind, .string (qOf o).name, .string (qOf o).text, .int .i64 (qOf o).n], .int .i64 (zOf o)]) := by cases o <;> rfl
theorem RetP.gen {l : List UInt8} {e : Ending} {w' : World} (h : RetP l e w') :
    ∃ A c, e = .returned (.tuple #[.agg #[.int .i64 (pOf (openP l)).kind, .int .i64 (pOf (openP l)).err, .int .i64 (pOf (openP l)).pos, .slice A (pOf (openP l)).al.length c, .string (pOf (openP l)).text, .int .i64 (pOf (openP l)).n], .int .i64 (zOf (openP l))]) ∧ Row w' w'.heap.size A ((pOf (openP l)).al.flatMap Al.cells) := by
  unfold RetP at h
  cases ho : openP l with
  | none =>
    rw [ho] at h
    exact ⟨none, 0, h, Row.nil_ _ _ _⟩
  | some p =>
    rw [ho] at h
    obtain ⟨A, c, h1, h2, _⟩ := h
    exact ⟨A, c, h1, h2⟩

theorem rep_len {α : Type} {r : List UInt8 → Option (α × List UInt8)} : ∀ (n : Nat) {l l' : List UInt8} {xs : List α}, rep r n l = some (xs, l') → xs.length = n
  | 0, l, l', xs, h => by simp only [rep, Option.some.injEq, Prod.mk.injEq] at h; rw [← h.1]; rfl
  | n + 1, l, l', xs, h => by
    simp only [rep] at h
    cases hn : r l with
    | none => rw [hn] at h; cases h
    | some p =>
      rw [hn] at h
      simp only [Option.bind_some] at h
      cases hm : rep r n p.2 with
      | none => rw [hm] at h; cases h
      | some q =>
        rw [hm] at h
        simp only [Option.map_some, Option.some.injEq, Prod.mk.injEq] at h
        rw [← h.1]
        simp [rep_len n (l' := q.2) (xs := q.1) hm]
theorem alsR_len {l l' : List UInt8} {al : List Al} (h : alsR l = some (al, l')) : al.length ≤ l.length := by
  unfold alsR countR at h
  cases hn : numR l with
  | none => rw [hn] at h; cases h
  | some p =>
    rw [hn] at h
    simp only [Option.bind_some] at h
    split at h
    · rename_i hle
      simp only [Option.bind_some] at h
      have h1 := rep_len _ h
      have h2 := rdN_short _ _ _ _ p.1 p.2 hn
      omega
    · cases h
theorem openP_len (l : List UInt8) : (pOf (openP l)).al.length ≤ l.length := by
  unfold openP
  cases h1 : numR l with
  | none => simp [pOf]
  | some k =>
    have l1 := rdN_short _ _ _ _ k.1 k.2 h1
    simp only [Option.bind_some]
    cases h2 : smallR k.2 with
    | none => simp [pOf]
    | some a =>
      have l2 := smallR_short (z := a.1) (l' := a.2) h2
      simp only [Option.bind_some]
      cases h3 : smallR a.2 with
      | none => simp [pOf]
      | some b =>
        have l3 := smallR_short (z := b.1) (l' := b.2) h3
        simp only [Option.bind_some]
        cases h4 : alsR b.2 with
        | none => simp [pOf]
        | some c =>
          have l4 := alsR_len (al := c.1) (l' := c.2) h4
          simp only [Option.bind_some]
          cases h5 : textR c.2 with
          | none => simp [pOf]
          | some t =>
            simp only [Option.bind_some]
            cases h6 : smallR t.2 with
            | none => simp [pOf]
            | some z =>
              simp only [Option.bind_some]
              split
              · simp only [pOf]
                omega
              · simp [pOf]

theorem own_set {w : World} {B g n cap : Nat} {e : TypeId} {xs : List Value} (h : w.ownsRow B e 1 (.slice (some ⟨g, 0, none⟩) n cap) n xs) (k : Nat) (u : Value) :
    (w.setCell ⟨g, k, none⟩ u).ownsRow B e 1 (.slice (some ⟨g, 0, none⟩) n cap) n (xs.set k u) := by
  refine ⟨by simpa using h.1, .inr ?_⟩
  rcases h.2 with ⟨h1, _⟩ | ⟨g', cap', cur, h1, h2, h3, h4, h5, h6, h7⟩
  · cases h1
  · simp only [Value.slice.injEq, Option.some.injEq, Addr.mk.injEq, and_true, true_and] at h1
    obtain ⟨rfl, rfl⟩ := h1
    refine ⟨g, cap, cur.setIfInBounds k u, rfl, h2, ?_, h4, h5, by simpa using h6, ?_⟩
    · simp [World.setCell, Array.getElem?_modify, h3]
    · rw [Array.toList_setIfInBounds, List.take_set, h7]
theorem own_at {w : World} {B g n cap : Nat} {e : TypeId} {xs : List Value} (h : w.ownsRow B e 1 (.slice (some ⟨g, 0, none⟩) n cap) n xs) (k : Nat) {u : Value} (hu : xs[k]? = some u) :
    w.cell? ⟨g, k, none⟩ = some u ∧ w.frozen? ⟨g, k, none⟩ = false := by
  rcases h.2 with ⟨h1, _⟩ | ⟨g', cap', cur, h1, h2, h3, h4, h5, h6, h7⟩
  · cases h1
  · simp only [Value.slice.injEq, Option.some.injEq, Addr.mk.injEq, and_true, true_and] at h1
    obtain ⟨rfl, rfl⟩ := h1
    have hc : Holds w g e cur := h3
    refine ⟨?_, hc.frozen k⟩
    rw [hc.cell k, ← hu, ← h7]
    rw [List.getElem?_take]
    have hk : k < n * 1 := by
      have := (List.getElem?_eq_some_iff.1 hu).1
      rw [h.1] at this
      exact this
    rw [if_pos hk]
    simp
/-- Two appends, one behind the other, the first upon nil. -/
theorem below_append2 {w5 w6 w7 : World} {e t : TypeId} {cs : Array Value} {v6 : Value} {n : Nat} {xs : List Value} (h6 : w5.grownBy w6 none) (ho : w6.ownsRow w5.heap.size e 1 v6 n xs) (h7 : (w6.alloc (.cells cs t)).grownBy w7 v6.ownBlock) : Below w5.heap.size w5 w7 := by
  have a1 : Writes [none] w5 w6 := Writes.of_grown h6 (by simp)
  have a2 := Writes.alloc [none] w6 (.cells cs t)
  have a3 : Writes [v6.ownBlock] _ w7 := Writes.of_grown h7 (by simp)
  refine ((a1.trans a2).then_ a3 (M := [none]) (fun k hk hm => ?_)).below (Nat.le_refl _) (fun k hk => by simp at hk)
  simp only [List.mem_cons, List.mem_nil_iff, or_false] at hm
  exact absurd (own_low ho hm) (by omega)
theorem xor_u8 (a b : UInt8) : ∃ c : UInt8, bits .xor .u8 (a.toNat : Int) (b.toNat : Int) = (c.toNat : Int) :=
  ⟨a ^^^ b, by have := u8_xor_nat a.toNat b.toNat a.toNat_lt b.toNat_lt; rw [this, UInt8.toNat_xor]⟩

set_option maxRecDepth 100000 in
set_option maxHeartbeats 2000000 in
theorem replyEq_any (w : World) (k er ps : Int) (A1 A2 : Option Addr) (n c1 c2 : Nat) (al : List Al) (t : ByteArray) (z : Int) (hn : al.length = n) (hm : n ≤ maxLen) (h1 : Row w w.heap.size A1 (al.flatMap Al.cells)) (h2 : Row w w.heap.size A2 (al.flatMap Al.cells)) :
    Calls Try.prog 49 #[.agg #[.int .i64 k, .int .i64 er, .int .i64 ps, .slice A1 n c1, .string t, .int .i64 z], .agg #[.int .i64 k, .int .i64 er, .int .i64 ps, .slice A2 n c2, .string t, .int .i64 z]] w fun e w' => e = .returned (.bool true) ∧ Below w.heap.size w w' := by
  suffices H : ∀ B0, Hid (B0 = w.heap.size) → Calls Try.prog 49 #[.agg #[.int .i64 k, .int .i64 er, .int .i64 ps, .slice A1 n c1, .string t, .int .i64 z], .agg #[.int .i64 k, .int .i64 er, .int .i64 ps, .slice A2 n c2, .string t, .int .i64 z]] w fun e w' => e = .returned (.bool true) ∧ Below B0 w w' from H _ (Lib.hid rfl)
  intro B0 hB0
  have hb1 := below_new w (.cells #[.int .i64 k, .int .i64 er, .int .i64 ps, .slice A1 n c1, .string t, .int .i64 z] 86)
  have hb2 := hb1.trans ((below_new (w.alloc (.cells #[.int .i64 k, .int .i64 er, .int .i64 ps, .slice A1 n c1, .string t, .int .i64 z] 86)) (.cells #[.int .i64 k, .int .i64 er, .int .i64 ps, .slice A2 n c2, .string t, .int .i64 z] 86)).mono hb1.size)
  have hr1 := Lib.hid ((h1.below hb2).more hb2.size)
  have hr2 := Lib.hid ((h2.below hb2).more hb2.size)
  have hp := Lib.hid ((Holds.new w 86 #[.int .i64 k, .int .i64 er, .int .i64 ps, .slice A1 n c1, .string t, .int .i64 z]).alloc (.cells #[.int .i64 k, .int .i64 er, .int .i64 ps, .slice A2 n c2, .string t, .int .i64 z] 86))
  have hq := Holds.new (w.alloc (.cells #[.int .i64 k, .int .i64 er, .int .i64 ps, .slice A1 n c1, .string t, .int .i64 z] 86)) 86 #[.int .i64 k, .int .i64 er, .int .i64 ps, .slice A2 n c2, .string t, .int .i64 z]
  rw [show (w.alloc (.cells #[.int .i64 k, .int .i64 er, .int .i64 ps, .slice A1 n c1, .string t, .int .i64 z] 86)).heap.size = w.heap.size + 1 by simp] at hq
  have hq := Lib.hid hq
  rename_i hq'
  clear hq'
  have hB1 := Lib.hid (Nat.le_trans (Nat.le_of_eq hB0.out) hb2.size)
  rw [← hB0.out] at hb2
  have hb2 := Lib.hid hb2
  have hn := Lib.hid hn
  have hm := Lib.hid hm
  rename_i x1 x2 x3
  clear x1 x2 x3 hb1 h1 h2
  go_enter Try.func49, Try.ntmps49
  go_wp2_with fail
  generalize (w.alloc (.cells #[.int .i64 k, .int .i64 er, .int .i64 ps, .slice A1 n c1, .string t, .int .i64 z] 86)).alloc (.cells #[.int .i64 k, .int .i64 er, .int .i64 ps, .slice A2 n c2, .string t, .int .i64 z] 86) = w1 at hr1 hr2 hp hq hb2 hB1 ⊢
  generalize w.heap.size = ra at hp hq ⊢
  refine (alarmsEq_any w1 A1 A2 n c1 c2 al hn.out hm.out hr1.out hr2.out).mono ?_
  rintro e w2 ⟨rfl, hb3⟩
  have hp2 := hp.out.below hb3 hp.out.lt
  have hq2 := hq.out.below hb3 hq.out.lt
  have hb4 := Lib.hid (hb2.out.trans (hb3.mono hB1.out))
  have p4 := (hp2.fact 4 rfl).2
  have p5 := (hp2.fact 5 rfl).2
  have q4 := (hq2.fact 4 rfl).2
  have q5 := (hq2.fact 5 rfl).2
  clear hp2 hq2 hb3 hp hq hr1 hr2 hn hm hb2
  go_wp2_with fail
  go_ret
  exact ⟨rfl, hb4.out⟩
end Go.Proofs.Ytimhghmnnibajaa
