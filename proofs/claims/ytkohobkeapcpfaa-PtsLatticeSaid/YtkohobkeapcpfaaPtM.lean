/-
  PtsLattice at any arguments.
-/
import Derived.Test.YtkohobkeapcpfaaPtLa
import Derived.Test.YtkohobkeapcpfaaPtLb
import Derived.Test.YtkohobkeapcpfaaPtLc
namespace Go.Proofs.Ytkohobkeapcpfaa
open Go.RowKit

theorem lattice_walk (w : World) (v1 v2 v3 : Value) (h1 : ArgOk 25 w v1) (h2 : ArgOk 25 w v2) (h3 : ArgOk 25 w v3) :
    Calls Try.prog 4 #[v1, v2, v3] w fun e w' => e = .returned (.bool true) ∧ Below w.heap.size w w' := by
  obtain ⟨⟨pa, Aa, ca⟩, rfl, ra, la, ma, _⟩ := h1.pts
  obtain ⟨⟨pb, Ab, cb⟩, rfl, rb, lb, mb, _⟩ := h2.pts
  obtain ⟨⟨pc, Ac, cc⟩, rfl, rc, lc, mc, _⟩ := h3.pts
  cases hac : leqS pa pc with
  | false => exact lattice_f w pa pb pc Aa Ab Ac ca cb cc ra la (Nat.le_trans la ma) rb lb (Nat.le_trans lb mb) rc lc (Nat.le_trans lc mc) hac
  | true =>
    cases hbc : leqS pb pc with
    | false => exact lattice_tf w pa pb pc Aa Ab Ac ca cb cc ra la (Nat.le_trans la ma) rb lb (Nat.le_trans lb mb) rc lc (Nat.le_trans lc mc) hac hbc
    | true => exact lattice_tt w pa pb pc Aa Ab Ac ca cb cc ra la (Nat.le_trans la ma) rb lb (Nat.le_trans lb mb) rc lc (Nat.le_trans lc mc) hac hbc
end Go.Proofs.Ytkohobkeapcpfaa
