/-
  The walk of augurlaw2.known: the chapter's example.
-/
import Derived.Test.YtelglbblgkhcmaaGreatCodeI
namespace Go.Proofs.YtelglbblgkhcmaaGreat
open Go.RowKit

theorem strV_nil : (strV []).toList.isEmpty = true := by
  rw [show strV [] = ByteArray.empty from rfl]
  first
    | rfl
    | decide
    | (simp; done)
    | (rw [ByteArray.toList, ByteArray.toList.loop]; simp; done)
theorem known_bytes : [] ++ [(-1 : Int), 1].flatMap intE = intE (-1) ++ (intE 1 ++ []) := rfl
theorem known_str : strV (intE (-1) ++ (intE 1 ++ [])) = ⟨#[1, 2]⟩ := by
  rw [show intE (-1) = [1] by unfold intE zigN; simp [numE_small], show intE 1 = [2] by unfold intE zigN; simp [numE_small]]
  rfl
theorem known_len : (intE (-1) ++ (intE 1 ++ [])).length = 2 := by
  rw [show intE (-1) = [1] by unfold intE zigN; simp [numE_small], show intE 1 = [2] by unfold intE zigN; simp [numE_small]]
  rfl

end Go.Proofs.YtelglbblgkhcmaaGreat
