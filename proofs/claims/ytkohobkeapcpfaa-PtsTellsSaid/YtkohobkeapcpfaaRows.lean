/-
  No cell of these rows narrows 'for every input' (looked for: loops, veiled, ifaces, maps, wideKeys, modest, calm, conditions, laid).
  DERIVED. THE GIVEN ROWS OF THIS SEAT. 4 by the template 'for every input the law returns true; each argument reads behind the call as it read before'; 0 by the template 'total and deterministic' (their statements: YtkohobkeapcpfaaTotals.lean).
  GIVEN WITH THE SEED: the statements are not yours to turn. If you find one false, say at which input.
  Laid BY PROGRAM, IN A SANDBOX (cutbox-rows.mjs): the forced cells as the released guide's own fill.sh prints them over the translation ace9064755e93d6a… (all of the seat's roots in one cut). By AI agents, Wed Nov 11 2026. No macro, syntax, notation, axiom, sorry.
-/
import Derived.Test.YtkohobkeapcpfaaChecked
import GoSem.Claim
import GoSem.ClaimJoined
import GoSem.ClaimMapViews
import Derived.JoinedTies
import Derived.KernelRfl
namespace Go.Proofs.Ytkohobkeapcpfaa
/- THE CELL 'sum', in the pinned program and in every row, IS THE sha256 OF THE DUMP (.gsa) THAT YtkohobkeapcpfaaProg.lean LOADS. Nothing in Lean hashes anything: it is a label: what it is worth is what the hold of that sum in a sandbox is worth. -/
noncomputable def Try.pinned : Pinned := { name := "ytkohobkeapcpfaa", sum := "ace9064755e93d6aa740988010e9cd9d33880cb72e31138f0845a3ba5a147d2d", checked := Try.checked }
namespace Rows
def none {H : Type} : Left H := { results := [], args := [] }

/-- 'augurlaw14.PtsTells': WHATEVER THE INPUT: true; the input reads as it did. -/
def ptsTellsSpec : ChangeSpec := { name := "ptsTells", fn := fun _ => fun
  | [d1, d2, d3] => { results := [.lit (.bool true)], args := [d1, d2, d3] }
  | _ => none }
def ptsTellsRow : OpenClaim := { program := "ytkohobkeapcpfaa", sum := "ace9064755e93d6aa740988010e9cd9d33880cb72e31138f0845a3ba5a147d2d", func := "augur/augurlaw14.PtsTells", spec := "ptsTells", inPlace := ["internal/abi.NoEscape", "internal/bytealg.MakeNoZero"], recurses := true, apart := false }
def PtsTellsSaid : Prop := ptsTellsRow.holds Try.pinned (OpenSpec.ofChange ptsTellsSpec)

/-- ITS FALSE NEIGHBOUR: 'it returns false'. Refute it at one input. -/
def ptsTellsWrong : ChangeSpec := { name := "ptsTells", fn := fun _ => fun
  | [d1, d2, d3] => { results := [.lit (.bool false)], args := [d1, d2, d3] }
  | _ => none }
def PtsTellsWrongFalsely : Prop := ptsTellsRow.holds Try.pinned (OpenSpec.ofChange ptsTellsWrong)

/-- 'augurlaw14.PtsLattice': WHATEVER THE INPUT: true; the input reads as it did. -/
def ptsLatticeSpec : ChangeSpec := { name := "ptsLattice", fn := fun _ => fun
  | [d1, d2, d3] => { results := [.lit (.bool true)], args := [d1, d2, d3] }
  | _ => none }
def ptsLatticeRow : OpenClaim := { program := "ytkohobkeapcpfaa", sum := "ace9064755e93d6aa740988010e9cd9d33880cb72e31138f0845a3ba5a147d2d", func := "augur/augurlaw14.PtsLattice", spec := "ptsLattice", inPlace := ["internal/abi.NoEscape", "internal/bytealg.MakeNoZero"], recurses := true, apart := false }
def PtsLatticeSaid : Prop := ptsLatticeRow.holds Try.pinned (OpenSpec.ofChange ptsLatticeSpec)

/-- ITS FALSE NEIGHBOUR: 'it returns false'. Refute it at one input. -/
def ptsLatticeWrong : ChangeSpec := { name := "ptsLattice", fn := fun _ => fun
  | [d1, d2, d3] => { results := [.lit (.bool false)], args := [d1, d2, d3] }
  | _ => none }
def PtsLatticeWrongFalsely : Prop := ptsLatticeRow.holds Try.pinned (OpenSpec.ofChange ptsLatticeWrong)

/-- 'augurlaw14.PtsOrder': WHATEVER THE INPUT: true; the input reads as it did. -/
def ptsOrderSpec : ChangeSpec := { name := "ptsOrder", fn := fun _ => fun
  | [d1, d2, d3] => { results := [.lit (.bool true)], args := [d1, d2, d3] }
  | _ => none }
def ptsOrderRow : OpenClaim := { program := "ytkohobkeapcpfaa", sum := "ace9064755e93d6aa740988010e9cd9d33880cb72e31138f0845a3ba5a147d2d", func := "augur/augurlaw14.PtsOrder", spec := "ptsOrder", inPlace := ["internal/abi.NoEscape", "internal/bytealg.MakeNoZero"], recurses := true, apart := false }
def PtsOrderSaid : Prop := ptsOrderRow.holds Try.pinned (OpenSpec.ofChange ptsOrderSpec)

/-- ITS FALSE NEIGHBOUR: 'it returns false'. Refute it at one input. -/
def ptsOrderWrong : ChangeSpec := { name := "ptsOrder", fn := fun _ => fun
  | [d1, d2, d3] => { results := [.lit (.bool false)], args := [d1, d2, d3] }
  | _ => none }
def PtsOrderWrongFalsely : Prop := ptsOrderRow.holds Try.pinned (OpenSpec.ofChange ptsOrderWrong)

/-- 'augurlaw14.PtsParts': WHATEVER THE INPUT: true; the input reads as it did. -/
def ptsPartsSpec : ChangeSpec := { name := "ptsParts", fn := fun _ => fun
  | [d1, d2] => { results := [.lit (.bool true)], args := [d1, d2] }
  | _ => none }
def ptsPartsRow : OpenClaim := { program := "ytkohobkeapcpfaa", sum := "ace9064755e93d6aa740988010e9cd9d33880cb72e31138f0845a3ba5a147d2d", func := "augur/augurlaw14.PtsParts", spec := "ptsParts", inPlace := ["internal/abi.NoEscape", "internal/bytealg.MakeNoZero"], recurses := true, apart := false }
def PtsPartsSaid : Prop := ptsPartsRow.holds Try.pinned (OpenSpec.ofChange ptsPartsSpec)

/-- ITS FALSE NEIGHBOUR: 'it returns false'. Refute it at one input. -/
def ptsPartsWrong : ChangeSpec := { name := "ptsParts", fn := fun _ => fun
  | [d1, d2] => { results := [.lit (.bool false)], args := [d1, d2] }
  | _ => none }
def PtsPartsWrongFalsely : Prop := ptsPartsRow.holds Try.pinned (OpenSpec.ofChange ptsPartsWrong)

/- THE SECOND FORM. 'bulk': how many values and letters a reading holds, each counted each time it is reached (what is shared counts as often as it is met; a slice's spare places count too). A statement '..UptoSaid' is the law's where the arguments, and the package variables that the reading takes, are together of bulk at most 1048576: NARROWER than '..Said'. Prove '..Said' where nothing that the law and all that it calls make is longer than what came in: it says more and counts as full. Else prove '..UptoSaid'. A law counts once. -/
mutual
def uptoBulk {H : Type} : DataW H → Nat
  | .lit (.string bytes) => bytes.length + 1
  | .lit _ => 1
  | .nil => 1
  | .ptr d => uptoBulk d + 1
  | .slice elems spare => uptoBulkAll elems + uptoBulkAll spare + 1
  | .agg parts => uptoBulkAll parts + 1
  | .iface _ d => uptoBulk d + 1
  | .map entries => uptoBulkEntries entries + 1
  | .held _ => 1
def uptoBulkAll {H : Type} : List (DataW H) → Nat
  | [] => 0
  | d :: r => uptoBulk d + uptoBulkAll r
def uptoBulkEntries {H : Type} : List (Lit × DataW H) → Nat
  | [] => 0
  | x :: r => uptoBulkEntry x + uptoBulkEntries r
def uptoBulkEntry {H : Type} : Lit × DataW H → Nat
  | (.string bytes, d) => bytes.length + uptoBulk d + 1
  | (_, d) => uptoBulk d + 1
 end
def uptoSmall : (H : Type) → List (DataW H) → Bool := fun _ ds => decide (uptoBulkAll ds ≤ 1048576)
def OpenSpec.upto (s : _root_.Go.ChangeSpec) : _root_.Go.OpenSpec := { _root_.Go.OpenSpec.ofChange s with cond := some uptoSmall }

/-- 'augurlaw14.PtsTells', WHERE WHAT IT READS IS OF BULK AT MOST 1048576: true; the input reads as it did. -/
def ptsTellsUptoRow : OpenClaim := { program := "ytkohobkeapcpfaa", sum := "ace9064755e93d6aa740988010e9cd9d33880cb72e31138f0845a3ba5a147d2d", func := "augur/augurlaw14.PtsTells", spec := "ptsTells", inPlace := ["internal/abi.NoEscape", "internal/bytealg.MakeNoZero"], recurses := true, apart := false, narrowed := true }
def PtsTellsUptoSaid : Prop := ptsTellsUptoRow.holds Try.pinned (OpenSpec.upto ptsTellsSpec)

/-- 'augurlaw14.PtsLattice', WHERE WHAT IT READS IS OF BULK AT MOST 1048576: true; the input reads as it did. -/
def ptsLatticeUptoRow : OpenClaim := { program := "ytkohobkeapcpfaa", sum := "ace9064755e93d6aa740988010e9cd9d33880cb72e31138f0845a3ba5a147d2d", func := "augur/augurlaw14.PtsLattice", spec := "ptsLattice", inPlace := ["internal/abi.NoEscape", "internal/bytealg.MakeNoZero"], recurses := true, apart := false, narrowed := true }
def PtsLatticeUptoSaid : Prop := ptsLatticeUptoRow.holds Try.pinned (OpenSpec.upto ptsLatticeSpec)

/-- 'augurlaw14.PtsOrder', WHERE WHAT IT READS IS OF BULK AT MOST 1048576: true; the input reads as it did. -/
def ptsOrderUptoRow : OpenClaim := { program := "ytkohobkeapcpfaa", sum := "ace9064755e93d6aa740988010e9cd9d33880cb72e31138f0845a3ba5a147d2d", func := "augur/augurlaw14.PtsOrder", spec := "ptsOrder", inPlace := ["internal/abi.NoEscape", "internal/bytealg.MakeNoZero"], recurses := true, apart := false, narrowed := true }
def PtsOrderUptoSaid : Prop := ptsOrderUptoRow.holds Try.pinned (OpenSpec.upto ptsOrderSpec)

/-- 'augurlaw14.PtsParts', WHERE WHAT IT READS IS OF BULK AT MOST 1048576: true; the input reads as it did. -/
def ptsPartsUptoRow : OpenClaim := { program := "ytkohobkeapcpfaa", sum := "ace9064755e93d6aa740988010e9cd9d33880cb72e31138f0845a3ba5a147d2d", func := "augur/augurlaw14.PtsParts", spec := "ptsParts", inPlace := ["internal/abi.NoEscape", "internal/bytealg.MakeNoZero"], recurses := true, apart := false, narrowed := true }
def PtsPartsUptoSaid : Prop := ptsPartsUptoRow.holds Try.pinned (OpenSpec.upto ptsPartsSpec)

end Rows
end Go.Proofs.Ytkohobkeapcpfaa
