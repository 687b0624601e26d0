/-
  Requests and replies: what they hold, how they are written and read (plain); the walks of req.wire's methods.
-/
import Derived.Test.YtimhghmnnibajaaRrD
import Derived.Test.YtimhghmnnibajaaCodeX
namespace Go.Proofs.Ytimhghmnnibajaa
open Go.RowKit

structure Rq where
  kind : Int
  name : ByteArray
  text : ByteArray
  n : Int
structure Rp where
  kind : Int
  err : Int
  pos : Int
  al : List Al
  text : ByteArray
  n : Int
def rqE (r : Rq) : List UInt8 := numE (max 0 r.kind).toNat ++ txtE r.name ++ txtE r.text ++ intE r.n
def rpE (p : Rp) : List UInt8 := numE (max 0 p.kind).toNat ++ intE p.err ++ intE p.pos ++ alsE p.al ++ txtE p.text ++ intE p.n
/-- The request that bytes are. -/
def openQ (l : List UInt8) : Option Rq :=
  if 8192 < l.length then none else
  (numR l).bind fun k => (textR k.2).bind fun a => (textR a.2).bind fun b => (smallR b.2).bind fun z =>
    if z.2 = [] ∧ 1 ≤ k.1 ∧ k.1 ≤ 7 then some ⟨k.1, strV a.1, strV b.1, z.1⟩ else none
/-- The reply that bytes are. -/
def openP (l : List UInt8) : Option Rp :=
  (numR l).bind fun k => (smallR k.2).bind fun a => (smallR a.2).bind fun b => (alsR b.2).bind fun c => (textR c.2).bind fun t => (smallR t.2).bind fun z =>
    if z.2 = [] ∧ k.1 ≤ 5 then some ⟨k.1, a.1, b.1, c.1, strV t.1, z.1⟩ else none

theorem nextOf_none {α : Type} (r : List UInt8 → Option (α × List UInt8)) : nextOf r none = none := rfl
theorem openQ_eq (l : List UInt8) (h : ¬ 8192 < l.length) : openQ l =
    if nextOf smallR (nextOf textR (nextOf textR (nextOf numR (some l)))) = some [] ∧ 1 ≤ valOf numR 0 (some l) ∧ valOf numR 0 (some l) ≤ 7
    then some ⟨((valOf numR 0 (some l) : Nat) : Int), strV (valOf textR [] (nextOf numR (some l))), strV (valOf textR [] (nextOf textR (nextOf numR (some l)))), valOf smallR 0 (nextOf textR (nextOf textR (nextOf numR (some l))))⟩ else none := by
  unfold openQ
  rw [if_neg h]
  cases h1 : numR l with
  | none => simp [nextOf, h1]
  | some k =>
    cases h2 : textR k.2 with
    | none => simp [nextOf, h1, h2]
    | some a =>
      cases h3 : textR a.2 with
      | none => simp [nextOf, h1, h2, h3]
      | some b =>
        cases h4 : smallR b.2 with
        | none => simp [nextOf, h1, h2, h3, h4]
        | some z => simp [nextOf, valOf, h1, h2, h3, h4]
/-- A wire at block gw over a reader at block gr; E: what is left, none behind a failure or a number out of 32 bits. -/
def Wire (w : World) (gw gr : Nat) (E : Option (List UInt8)) : Prop :=
  ∃ wide st, Holds w gw 125 #[.pointer (some ⟨gr, 0, none⟩), .bool wide] ∧ Rdr w gr st ∧ E = (if wide = true then none else st) ∧ gr < gw
theorem Rdr.keep {w w' : World} {g : Nat} {st : Option (List UInt8)} {M : List (Option Nat)} (h : Rdr w g st) (hM : Writes M w w') (hk : ∀ k, some k ∈ M → g < k) : Rdr w' g st := by
  obtain ⟨A, n, c, h1, h2, h3⟩ := h
  refine ⟨A, n, c, hM.holds h1 (fun e => by have := hk g e; omega), h2, fun l e => ?_⟩
  obtain ⟨e1, e2, e3, e4⟩ := h3 l e
  refine ⟨e1, e2, (hM.row e3 (Nat.le_refl _) fun hne hm => ?_).more hM.size, e4⟩
  obtain ⟨b, off, rfl, _⟩ := e3 hne
  have h5 := hk b hm
  have h6 := e4 _ rfl
  simp only at h6
  omega
theorem Wire.below {w w' : World} {gw gr : Nat} {E : Option (List UInt8)} (h : Wire w gw gr E) (hb : Below w.heap.size w w') : Wire w' gw gr E := by
  obtain ⟨wide, st, h1, h2, h3, h4⟩ := h
  exact ⟨wide, st, h1.below hb h1.lt, h2.below hb, h3, h4⟩
theorem Wire.keep {w w' : World} {gw gr : Nat} {E : Option (List UInt8)} {M : List (Option Nat)} (h : Wire w gw gr E) (hM : Writes M w w') (hk : ∀ k, some k ∈ M → gw < k) : Wire w' gw gr E := by
  obtain ⟨wide, st, h1, h2, h3, h4⟩ := h
  exact ⟨wide, st, hM.holds h1 (fun e => by have := hk gw e; omega), h2.keep hM (fun k hm => by have := hk k hm; omega), h3, h4⟩
theorem Wire.lt {w : World} {gw gr : Nat} {E : Option (List UInt8)} (h : Wire w gw gr E) : gw < w.heap.size := by
  obtain ⟨wide, st, h1, _⟩ := h
  exact h1.lt
/-- One of the reader's own methods, through the wire. -/
theorem Wire.took {α : Type} {w w' : World} {gw gr : Nat} {wide : Bool} {st : Option (List UInt8)} {val : α → Value} {r : List UInt8 → Option (α × List UInt8)} {zero : α} {e : Ending}
    (h1 : Holds w gw 125 #[.pointer (some ⟨gr, 0, none⟩), .bool wide]) (hlt : gr < gw) (h : Took w gr val r zero st e w') :
    Wire w' gw gr (nextOf r (if wide = true then none else st)) ∧ Writes [some gr, some gw] w w' ∧ e = .returned (val (valOf r zero st)) ∧ (nextOf r (if wide = true then none else st) ≠ none → valOf r zero st = valOf r zero (if wide = true then none else st)) := by
  obtain ⟨he, hR, hM⟩ := h
  refine ⟨⟨wide, _, hM.holds h1 (by simp; omega), hR, ?_, hlt⟩, hM.more (by simp), he, ?_⟩
  · cases wide <;> simp [nextOf]
  · cases wide <;> simp [nextOf]

theorem small_of_int (st : Option (List UInt8)) (h : -2147483648 ≤ valOf intR 0 st ∧ valOf intR 0 st ≤ 2147483647) : valOf smallR 0 st = valOf intR 0 st ∧ nextOf smallR st = nextOf intR st := by
  cases st with
  | none => exact ⟨rfl, rfl⟩
  | some l => cases hn : intR l with
    | none => simp [valOf, nextOf, smallR, hn]
    | some p => simp [valOf, hn] at h; simp [valOf, nextOf, smallR, hn, h]
theorem small_of_wide (st : Option (List UInt8)) (h : ¬ (-2147483648 ≤ valOf intR 0 st ∧ valOf intR 0 st ≤ 2147483647)) : nextOf smallR st = none := by
  cases st with
  | none => rfl
  | some l => cases hn : intR l with
    | none => simp [nextOf, smallR, hn]
    | some p =>
      have : valOf intR 0 (some l) = p.1 := by simp [valOf, hn]
      rw [this] at h
      simp [nextOf, smallR, hn, h]
set_option maxRecDepth 100000 in
set_option maxHeartbeats 1000000 in
theorem number_any (w : World) (gw gr : Nat) (E : Option (List UInt8)) (h : Wire w gw gr E) :
    Calls Try.prog 74 #[.pointer (some ⟨gw, 0, none⟩)] w fun e w' => ∃ z, e = .returned (.int .i64 z) ∧ -2147483648 ≤ z ∧ z ≤ 2147483647 ∧ Wire w' gw gr (nextOf smallR E) ∧ Writes [some gr, some gw] w w' ∧ (nextOf smallR E ≠ none → z = valOf smallR 0 E) := by
  obtain ⟨wide, st, h1, h2, hE0, hlt⟩ := h
  have hE := Lib.hid hE0
  clear hE0
  have hok := valInt_ok st
  have c0 : w.cell? ⟨gw, 0, none⟩ = some (.pointer (some ⟨gr, 0, none⟩)) := by rw [h1.cell 0]; rfl
  have hh := Lib.hid h1
  clear h1
  go_enter Try.func74, Try.ntmps74
  go_wp2_with fail
  refine (rInt_any _ gr st h2).mono ?_
  rintro e w2 ⟨rfl, hR, hM⟩
  have hh2 := Lib.hid (hM.holds hh.out (by simp; omega))
  have f1 := hh2.out.frozen 1
  have c1 : w2.cell? ⟨gw, 1, none⟩ = some (.bool wide) := by rw [hh2.out.cell 1]; rfl
  have hR := Lib.hid hR
  have hM := Lib.hid (hM.more (M' := [some gr, some gw]) (by simp))
  by_cases hs : -2147483648 ≤ valOf intR 0 st ∧ valOf intR 0 st ≤ 2147483647
  · obtain ⟨hv0, hx0⟩ := small_of_int st hs
    have hv := Lib.hid hv0
    have hx := Lib.hid hx0
    clear hv0 hx0 c1 f1
    obtain ⟨hs1, hs2⟩ := hs
    generalize valOf intR 0 st = z at hok hs1 hs2 hv ⊢
    go_wp2_with fail
    go_ret
    refine ⟨z, rfl, hs1, hs2, ⟨wide, _, hh2.out, hR.out, ?_, hlt⟩, hM.out, fun hne => ?_⟩
    · rw [hE.out]
      cases wide
      · exact hx.out
      · rfl
    · rw [hE.out] at hne ⊢
      cases wide
      · exact hv.out.symm
      · exact absurd rfl hne
  · have hx := Lib.hid (small_of_wide st hs)
    have hfin : Hid (Wire (w2.setCell ⟨gw, 1, none⟩ (.bool true)) gw gr (nextOf smallR E) ∧ Writes [some gr, some gw] w (w2.setCell ⟨gw, 1, none⟩ (.bool true)) ∧ nextOf smallR E = none) := Lib.hid (by
      have hz : nextOf smallR E = none := by
        rw [hE.out]
        cases wide
        · exact hx.out
        · rfl
      have hst := Writes.store w2 (M := [some gw]) (p := ⟨gw, 1, none⟩) (by simp) (.bool true)
      refine ⟨⟨true, _, by have := hh2.out.store 1 (.bool true); simpa using this, hR.out.keep hst (by simpa using hlt), by rw [hz]; rfl, hlt⟩, hM.out.trans (hst.more (by simp)), hz⟩)
    generalize valOf intR 0 st = z at hok hs ⊢
    by_cases ha : z < -2147483648
    · go_wp2_with fail
      go_ret
      exact ⟨0, rfl, by omega, by omega, hfin.out.1, hfin.out.2.1, fun hne => absurd hfin.out.2.2 hne⟩
    · have hb : 2147483647 < z := by omega
      go_wp2_with fail
      go_ret
      exact ⟨0, rfl, by omega, by omega, hfin.out.1, hfin.out.2.1, fun hne => absurd hfin.out.2.2 hne⟩
set_option maxRecDepth 100000 in
theorem whole_any (w : World) (gw gr : Nat) (E : Option (List UInt8)) (h : Wire w gw gr E) :
    Calls Try.prog 75 #[.pointer (some ⟨gw, 0, none⟩)] w fun e w' => e = .returned (.bool (decide (E = some []))) ∧ w' = w := by
  obtain ⟨wide, st, h1, h2, hE0, hlt⟩ := h
  have hE := Lib.hid hE0
  clear hE0
  have c0 : w.cell? ⟨gw, 0, none⟩ = some (.pointer (some ⟨gr, 0, none⟩)) := by rw [h1.cell 0]; rfl
  have c1 : w.cell? ⟨gw, 1, none⟩ = some (.bool wide) := by rw [h1.cell 1]; rfl
  clear h1
  go_enter Try.func75, Try.ntmps75
  cases wide with
  | true =>
    go_wp2_with fail
    go_ret
    exact ⟨by rw [hE.out]; rfl, rfl⟩
  | false =>
    go_wp2_with fail
    refine (done_any _ gr st h2).mono ?_
    rintro e w2 ⟨rfl, rfl⟩
    cases st with
    | none =>
      rw [show doneZ none = 20 from rfl]
      go_wp2_with fail
      go_ret
      exact ⟨by rw [hE.out]; rfl, rfl⟩
    | some l => cases l with
      | nil =>
        rw [show doneZ (some []) = 0 from rfl]
        go_wp2_with fail
        go_ret
        exact ⟨by rw [hE.out]; rfl, rfl⟩
      | cons b r =>
        rw [show doneZ (some (b :: r)) = 20 from rfl]
        go_wp2_with fail
        go_ret
        exact ⟨by rw [hE.out]; rfl, rfl⟩
end Go.Proofs.Ytimhghmnnibajaa
