/-
  The walk of SumTells, told of its argument as it came in.
-/
import Derived.Test.YtbpmgdcfcmjoiaaSumG
import Derived.Test.YtbpmgdcfcmjoiaaArg
namespace Go.Proofs.Ytbpmgdcfcmjoiaa
open Go.RowKit

theorem tells_walk (W : World) (v0 : Value) (o0 : ArgOk 22 W v0) :
    Calls Try.prog 3 #[v0] W fun e w' => e = .returned (.bool true) ∧ Below W.heap.size W w' := by
  obtain ⟨A, n, c, ls, rfl, rfl, hn, hc, hl⟩ := o0.byteRows
  exact tells_any W A c ls (by omega) hl

end Go.Proofs.Ytbpmgdcfcmjoiaa
