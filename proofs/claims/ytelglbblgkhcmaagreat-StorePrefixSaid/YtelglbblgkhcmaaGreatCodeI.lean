/-
  The walks of package code and its laws: Done, zig; what the reader's methods take of what was written.
-/
import Derived.Test.YtelglbblgkhcmaaGreatCodeH
import Derived.Test.YtelglbblgkhcmaaGreatCodeQ
namespace Go.Proofs.YtelglbblgkhcmaaGreat
open Go.RowKit

/-- What Done answers. -/
def doneZ : Option (List UInt8) → Int
  | some [] => 0
  | _ => 20
theorem done_any (w : World) (g : Nat) (st : Option (List UInt8)) (h : Rdr w g st) :
    Calls Tryz.prog 50 #[.pointer (some ⟨g, 0, none⟩)] w fun e w' => e = .returned (.int .i64 (doneZ st)) ∧ w' = w := by
  obtain ⟨A, n, c, hh, hn, hl⟩ := h
  cases st with
  | none =>
    have c1 : w.cell? ⟨g, 1, none⟩ = some (.bool true) := by rw [hh.cell 1]; rfl
    clear hh hl
    go_enter Tryz.func50, Tryz.ntmps50
    go_wp2
    go_ret
    exact ⟨rfl, rfl⟩
  | some l =>
    have c1 : w.cell? ⟨g, 1, none⟩ = some (.bool false) := by rw [hh.cell 1]; rfl
    have c0 : w.cell? ⟨g, 0, none⟩ = some (.slice A n c) := by rw [hh.cell 0]; rfl
    obtain ⟨rfl, -, -, -⟩ := hl l rfl
    clear hh hl
    go_enter Tryz.func50, Tryz.ntmps50
    cases l with
    | nil =>
      go_wp2
      go_ret
      exact ⟨rfl, rfl⟩
    | cons b r =>
      have hp : 0 < (b :: r).length := by simp
      obtain ⟨m, hm⟩ : ∃ m, m = (b :: r).length := ⟨_, rfl⟩
      have hd : doneZ (some (b :: r)) = 20 := rfl
      rw [hd]
      rw [← hm] at c0 hp
      clear hm hn hd
      go_wp2
      go_ret
      exact ⟨rfl, rfl⟩

theorem Took.int {w w' : World} {g : Nat} {z : Int} {l : List UInt8} {e : Ending} (h : Took w g (fun z : Int => .int .i64 z) intR 0 (some (intE z ++ l)) e w') (h1 : -9223372036854775808 ≤ z) (h2 : z ≤ 9223372036854775807) :
    e = .returned (.int .i64 z) ∧ Rdr w' g (some l) ∧ Writes [some g] w w' := by
  obtain ⟨rfl, hR, hM⟩ := h
  have hb := intR_back z l h1 h2
  refine ⟨?_, ?_, hM⟩
  · simp [valOf, hb]
  · simpa [nextOf, hb] using hR
theorem Took.text {w w' : World} {g : Nat} {s l : List UInt8} {e : Ending} (h : Took w g (fun s : List UInt8 => .string (strV s)) textR [] (some (textE s ++ l)) e w') (h1 : s.length < 18446744073709551616) :
    e = .returned (.string (strV s)) ∧ Rdr w' g (some l) ∧ Writes [some g] w w' := by
  obtain ⟨rfl, hR, hM⟩ := h
  have hb := textR_back s l h1
  refine ⟨?_, ?_, hM⟩
  · simp [valOf, hb]
  · simpa [nextOf, hb] using hR
/-- Behind a failure: nothing, for good. -/
theorem Took.fail {α : Type} {w w' : World} {g : Nat} {val : α → Value} {r : List UInt8 → Option (α × List UInt8)} {zero : α} {e : Ending} (h : Took w g val r zero none e w') : e = .returned (val zero) ∧ Rdr w' g none ∧ Writes [some g] w w' := h
theorem Took.no {α : Type} {w w' : World} {g : Nat} {val : α → Value} {r : List UInt8 → Option (α × List UInt8)} {zero : α} {l : List UInt8} {e : Ending} (h : Took w g val r zero (some l) e w') (hr : r l = none) : e = .returned (val zero) ∧ Rdr w' g none ∧ Writes [some g] w w' := by
  obtain ⟨rfl, hR, hM⟩ := h
  refine ⟨?_, ?_, hM⟩
  · simp [valOf, hr]
  · simpa [nextOf, hr] using hR
theorem textR_nil : textR [] = none := rfl
end Go.Proofs.YtelglbblgkhcmaaGreat
