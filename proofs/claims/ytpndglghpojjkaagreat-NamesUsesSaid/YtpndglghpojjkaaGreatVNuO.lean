/-
  Two closed facts of the program that a row over a slice asks.
-/
import Derived.Test.YtpndglghpojjkaaGreatPua2
set_option maxRecDepth 1000000
set_option maxHeartbeats 8000000

namespace Go.Proofs.YtpndglghpojjkaaGreat
open Go.RowKit Go.ChangeShapes Go.WideShapes Go.Deep

theorem Tryz.laidOut:laidOutB Tryz.prog=true:=by kernel_rfl
theorem sH {H:Type} {enc:TypeId×Value→H} {W:World} {t:TypeId} {v:Value} {d:DataW H} {p:List MemPlace} (h:DataW.Trod enc Tryz.prog W 0 (fun _=>true) true t v d p):∀x∈p,x.block<W.heap.size:=by
 obtain⟨m,hm⟩:=h;exact DataW.trod_lt m _ _ _ hm
end Go.Proofs.YtpndglghpojjkaaGreat
