/-
  augurlaw14.known: the constants that every law of it holds first.
-/
import Derived.Test.YtkohobkeapcpfaaPtF
import Derived.Test.YtkohobkeapcpfaaPtG
import Derived.Test.YtkohobkeapcpfaaPtH
import Derived.Test.YtkohobkeapcpfaaRelL
namespace Go.Proofs.Ytkohobkeapcpfaa
open Go.RowKit

theorem upAB : Up [[97], [98]] := by unfold Up; decide
theorem upA : Up [[97]] := by unfold Up; decide
theorem cnAB : canon [[97], [98]] = [[97], [98]] := canon_of upAB fun _ => Iff.rfl
theorem cnBA : canon [[98], [97]] = [[97], [98]] := canon_of upAB fun x => by simp [or_comm]
theorem cnBAB : canon [[98], [97], [98]] = [[97], [98]] := canon_of upAB fun x => by
  simp only [List.mem_cons, List.not_mem_nil, or_false]
  exact ⟨fun h => by rcases h with h | h | h <;> simp [h], fun h => by rcases h with h | h <;> simp [h]⟩
theorem cnA : canon [[97]] = [[97]] := canon_of upA fun _ => Iff.rfl
theorem knownText : (⟨(textP ⟨true, [[97], [98]]⟩).toArray⟩ : ByteArray) = ⟨#[123, 110, 117, 108, 108, 44, 97, 44, 98, 125]⟩ := by
  unfold textP textL
  rw [show canon (Pz.cells ⟨true, [[97], [98]]⟩) = [[97], [98]] from cnAB]
  rfl
/-- Pointers just laid into a row. -/
theorem PtsL.fresh (w : World) (t : TypeId) (L : List Pq) (vs : List Value) (hv : L.flatMap Pq.cells = vs) (h : ∀ q ∈ L, Row w w.heap.size q.at_ (q.p.cells.map encStr) ∧ q.p.cells.length ≤ q.cap) :
    PtsL (w.alloc (.cells vs.toArray t)) (w.alloc (.cells vs.toArray t)).heap.size (some ⟨w.heap.size, 0, none⟩) L := by
  subst hv
  exact ⟨Row.fresh w t _, fun q hq => ⟨((h q hq).1.below (below_new w _)).more (below_new w _).size, (h q hq).2⟩⟩

end Go.Proofs.Ytkohobkeapcpfaa
