/-
  No cell of these rows narrows 'for every input' (looked for: loops, veiled, ifaces, maps, wideKeys, modest, calm, conditions, laid).
  DERIVED. THE GIVEN ROWS OF THIS SEAT. 11 by the template 'for every input the law returns true; each argument reads behind the call as it read before'; 0 by the template 'total and deterministic' (their statements: YtimhghmnnibajaaTotals.lean).
  GIVEN WITH THE SEED: the statements are not yours to turn. If you find one false, say at which input.
  Laid BY PROGRAM, IN A SANDBOX (cutbox-rows.mjs): the forced cells as the released guide's own fill.sh prints them over the translation dcec3de100a6acd0… (all of the seat's roots in one cut). By AI agents, Wed Nov 11 2026. No macro, syntax, notation, axiom, sorry.
-/
import Derived.Test.YtimhghmnnibajaaChecked
import GoSem.Claim
import GoSem.ClaimJoined
import GoSem.ClaimMapViews
import Derived.JoinedTies
import Derived.KernelRfl
namespace Go.Proofs.Ytimhghmnnibajaa
/- THE CELL 'sum', in the pinned program and in every row, IS THE sha256 OF THE DUMP (.gsa) THAT YtimhghmnnibajaaProg.lean LOADS. Nothing in Lean hashes anything: it is a label: what it is worth is what the hold of that sum in a sandbox is worth. -/
noncomputable def Try.pinned : Pinned := { name := "ytimhghmnnibajaa", sum := "dcec3de100a6acd0d668993a7b6b7584182f1f30162a0770bfb3d7a1734966f9", checked := Try.checked }
namespace Rows
def none {H : Type} : Left H := { results := [], args := [] }

/-- 'augurlaw2.CodeInts': WHATEVER THE INPUT: true; the input reads as it did. -/
def codeIntsSpec : ChangeSpec := { name := "codeInts", fn := fun _ => fun
  | [d1, d2] => { results := [.lit (.bool true)], args := [d1, d2] }
  | _ => none }
def codeIntsRow : OpenClaim := { program := "ytimhghmnnibajaa", sum := "dcec3de100a6acd0d668993a7b6b7584182f1f30162a0770bfb3d7a1734966f9", func := "augur/augurlaw2.CodeInts", spec := "codeInts", unfollowed := true, recurses := true, apart := false }
def CodeIntsSaid : Prop := codeIntsRow.holds Try.pinned (OpenSpec.ofChange codeIntsSpec)

/-- ITS FALSE NEIGHBOUR: 'it returns false'. Refute it at one input. -/
def codeIntsWrong : ChangeSpec := { name := "codeInts", fn := fun _ => fun
  | [d1, d2] => { results := [.lit (.bool false)], args := [d1, d2] }
  | _ => none }
def CodeIntsWrongFalsely : Prop := codeIntsRow.holds Try.pinned (OpenSpec.ofChange codeIntsWrong)

/-- 'augurlaw2.CodeCuts': WHATEVER THE INPUT: true; the input reads as it did. -/
def codeCutsSpec : ChangeSpec := { name := "codeCuts", fn := fun _ => fun
  | [d1, d2] => { results := [.lit (.bool true)], args := [d1, d2] }
  | _ => none }
def codeCutsRow : OpenClaim := { program := "ytimhghmnnibajaa", sum := "dcec3de100a6acd0d668993a7b6b7584182f1f30162a0770bfb3d7a1734966f9", func := "augur/augurlaw2.CodeCuts", spec := "codeCuts", unfollowed := true, recurses := true, apart := false }
def CodeCutsSaid : Prop := codeCutsRow.holds Try.pinned (OpenSpec.ofChange codeCutsSpec)

/-- ITS FALSE NEIGHBOUR: 'it returns false'. Refute it at one input. -/
def codeCutsWrong : ChangeSpec := { name := "codeCuts", fn := fun _ => fun
  | [d1, d2] => { results := [.lit (.bool false)], args := [d1, d2] }
  | _ => none }
def CodeCutsWrongFalsely : Prop := codeCutsRow.holds Try.pinned (OpenSpec.ofChange codeCutsWrong)

/-- 'augurlaw2.CodeTogether': WHATEVER THE INPUT: true; the input reads as it did. -/
def codeTogetherSpec : ChangeSpec := { name := "codeTogether", fn := fun _ => fun
  | [d1, d2, d3, d4] => { results := [.lit (.bool true)], args := [d1, d2, d3, d4] }
  | _ => none }
def codeTogetherRow : OpenClaim := { program := "ytimhghmnnibajaa", sum := "dcec3de100a6acd0d668993a7b6b7584182f1f30162a0770bfb3d7a1734966f9", func := "augur/augurlaw2.CodeTogether", spec := "codeTogether", unfollowed := true, recurses := true, apart := false }
def CodeTogetherSaid : Prop := codeTogetherRow.holds Try.pinned (OpenSpec.ofChange codeTogetherSpec)

/-- ITS FALSE NEIGHBOUR: 'it returns false'. Refute it at one input. -/
def codeTogetherWrong : ChangeSpec := { name := "codeTogether", fn := fun _ => fun
  | [d1, d2, d3, d4] => { results := [.lit (.bool false)], args := [d1, d2, d3, d4] }
  | _ => none }
def CodeTogetherWrongFalsely : Prop := codeTogetherRow.holds Try.pinned (OpenSpec.ofChange codeTogetherWrong)

/-- 'augurlaw2.CodeWrites': WHATEVER THE INPUT: true; the input reads as it did. -/
def codeWritesSpec : ChangeSpec := { name := "codeWrites", fn := fun _ => fun
  | [d] => { results := [.lit (.bool true)], args := [d] }
  | _ => none }
def codeWritesRow : OpenClaim := { program := "ytimhghmnnibajaa", sum := "dcec3de100a6acd0d668993a7b6b7584182f1f30162a0770bfb3d7a1734966f9", func := "augur/augurlaw2.CodeWrites", spec := "codeWrites", unfollowed := true, recurses := true, apart := false }
def CodeWritesSaid : Prop := codeWritesRow.holds Try.pinned (OpenSpec.ofChange codeWritesSpec)

/-- ITS FALSE NEIGHBOUR: 'it returns false'. Refute it at one input. -/
def codeWritesWrong : ChangeSpec := { name := "codeWrites", fn := fun _ => fun
  | [d] => { results := [.lit (.bool false)], args := [d] }
  | _ => none }
def CodeWritesWrongFalsely : Prop := codeWritesRow.holds Try.pinned (OpenSpec.ofChange codeWritesWrong)

/-- 'augurlaw2.CodeReads': WHATEVER THE INPUT: true; the input reads as it did. -/
def codeReadsSpec : ChangeSpec := { name := "codeReads", fn := fun _ => fun
  | [d1, d2, d3] => { results := [.lit (.bool true)], args := [d1, d2, d3] }
  | _ => none }
def codeReadsRow : OpenClaim := { program := "ytimhghmnnibajaa", sum := "dcec3de100a6acd0d668993a7b6b7584182f1f30162a0770bfb3d7a1734966f9", func := "augur/augurlaw2.CodeReads", spec := "codeReads", unfollowed := true, recurses := true, apart := false }
def CodeReadsSaid : Prop := codeReadsRow.holds Try.pinned (OpenSpec.ofChange codeReadsSpec)

/-- ITS FALSE NEIGHBOUR: 'it returns false'. Refute it at one input. -/
def codeReadsWrong : ChangeSpec := { name := "codeReads", fn := fun _ => fun
  | [d1, d2, d3] => { results := [.lit (.bool false)], args := [d1, d2, d3] }
  | _ => none }
def CodeReadsWrongFalsely : Prop := codeReadsRow.holds Try.pinned (OpenSpec.ofChange codeReadsWrong)

/-- 'augurlaw2.CodeBack': WHATEVER THE INPUT: true; the input reads as it did. -/
def codeBackSpec : ChangeSpec := { name := "codeBack", fn := fun _ => fun
  | [d] => { results := [.lit (.bool true)], args := [d] }
  | _ => none }
def codeBackRow : OpenClaim := { program := "ytimhghmnnibajaa", sum := "dcec3de100a6acd0d668993a7b6b7584182f1f30162a0770bfb3d7a1734966f9", func := "augur/augurlaw2.CodeBack", spec := "codeBack", unfollowed := true, recurses := true, apart := false }
def CodeBackSaid : Prop := codeBackRow.holds Try.pinned (OpenSpec.ofChange codeBackSpec)

/-- ITS FALSE NEIGHBOUR: 'it returns false'. Refute it at one input. -/
def codeBackWrong : ChangeSpec := { name := "codeBack", fn := fun _ => fun
  | [d] => { results := [.lit (.bool false)], args := [d] }
  | _ => none }
def CodeBackWrongFalsely : Prop := codeBackRow.holds Try.pinned (OpenSpec.ofChange codeBackWrong)

/-- 'augurlaw24.ReqReads': WHATEVER THE INPUT: true; the input reads as it did. -/
def reqReadsSpec : ChangeSpec := { name := "reqReads", fn := fun _ => fun
  | [d1, d2, d3, d4, d5] => { results := [.lit (.bool true)], args := [d1, d2, d3, d4, d5] }
  | _ => none }
def reqReadsRow : OpenClaim := { program := "ytimhghmnnibajaa", sum := "dcec3de100a6acd0d668993a7b6b7584182f1f30162a0770bfb3d7a1734966f9", func := "augur/augurlaw24.ReqReads", spec := "reqReads", unfollowed := true, recurses := true, apart := false }
def ReqReadsSaid : Prop := reqReadsRow.holds Try.pinned (OpenSpec.ofChange reqReadsSpec)

/-- ITS FALSE NEIGHBOUR: 'it returns false'. Refute it at one input. -/
def reqReadsWrong : ChangeSpec := { name := "reqReads", fn := fun _ => fun
  | [d1, d2, d3, d4, d5] => { results := [.lit (.bool false)], args := [d1, d2, d3, d4, d5] }
  | _ => none }
def ReqReadsWrongFalsely : Prop := reqReadsRow.holds Try.pinned (OpenSpec.ofChange reqReadsWrong)

/-- 'augurlaw24.ReqWrites': WHATEVER THE INPUT: true; the input reads as it did. -/
def reqWritesSpec : ChangeSpec := { name := "reqWrites", fn := fun _ => fun
  | [d1, d2] => { results := [.lit (.bool true)], args := [d1, d2] }
  | _ => none }
def reqWritesRow : OpenClaim := { program := "ytimhghmnnibajaa", sum := "dcec3de100a6acd0d668993a7b6b7584182f1f30162a0770bfb3d7a1734966f9", func := "augur/augurlaw24.ReqWrites", spec := "reqWrites", unfollowed := true, recurses := true, apart := false }
def ReqWritesSaid : Prop := reqWritesRow.holds Try.pinned (OpenSpec.ofChange reqWritesSpec)

/-- ITS FALSE NEIGHBOUR: 'it returns false'. Refute it at one input. -/
def reqWritesWrong : ChangeSpec := { name := "reqWrites", fn := fun _ => fun
  | [d1, d2] => { results := [.lit (.bool false)], args := [d1, d2] }
  | _ => none }
def ReqWritesWrongFalsely : Prop := reqWritesRow.holds Try.pinned (OpenSpec.ofChange reqWritesWrong)

/-- 'augurlaw24.ReqGreat': WHATEVER THE INPUT: true; the input reads as it did. -/
def reqGreatSpec : ChangeSpec := { name := "reqGreat", fn := fun _ => fun
  | [d] => { results := [.lit (.bool true)], args := [d] }
  | _ => none }
def reqGreatRow : OpenClaim := { program := "ytimhghmnnibajaa", sum := "dcec3de100a6acd0d668993a7b6b7584182f1f30162a0770bfb3d7a1734966f9", func := "augur/augurlaw24.ReqGreat", spec := "reqGreat", unfollowed := true, recurses := true, apart := false }
def ReqGreatSaid : Prop := reqGreatRow.holds Try.pinned (OpenSpec.ofChange reqGreatSpec)

/-- ITS FALSE NEIGHBOUR: 'it returns false'. Refute it at one input. -/
def reqGreatWrong : ChangeSpec := { name := "reqGreat", fn := fun _ => fun
  | [d] => { results := [.lit (.bool false)], args := [d] }
  | _ => none }
def ReqGreatWrongFalsely : Prop := reqGreatRow.holds Try.pinned (OpenSpec.ofChange reqGreatWrong)

/-- 'augurlaw24.ReqCuts': WHATEVER THE INPUT: true; the input reads as it did. -/
def reqCutsSpec : ChangeSpec := { name := "reqCuts", fn := fun _ => fun
  | [d1, d2, d3, d4] => { results := [.lit (.bool true)], args := [d1, d2, d3, d4] }
  | _ => none }
def reqCutsRow : OpenClaim := { program := "ytimhghmnnibajaa", sum := "dcec3de100a6acd0d668993a7b6b7584182f1f30162a0770bfb3d7a1734966f9", func := "augur/augurlaw24.ReqCuts", spec := "reqCuts", unfollowed := true, recurses := true, apart := false }
def ReqCutsSaid : Prop := reqCutsRow.holds Try.pinned (OpenSpec.ofChange reqCutsSpec)

/-- ITS FALSE NEIGHBOUR: 'it returns false'. Refute it at one input. -/
def reqCutsWrong : ChangeSpec := { name := "reqCuts", fn := fun _ => fun
  | [d1, d2, d3, d4] => { results := [.lit (.bool false)], args := [d1, d2, d3, d4] }
  | _ => none }
def ReqCutsWrongFalsely : Prop := reqCutsRow.holds Try.pinned (OpenSpec.ofChange reqCutsWrong)

/-- 'augurlaw24.ReqKinds': WHATEVER THE INPUT: true; the input reads as it did. -/
def reqKindsSpec : ChangeSpec := { name := "reqKinds", fn := fun _ => fun
  | [d1, d2] => { results := [.lit (.bool true)], args := [d1, d2] }
  | _ => none }
def reqKindsRow : OpenClaim := { program := "ytimhghmnnibajaa", sum := "dcec3de100a6acd0d668993a7b6b7584182f1f30162a0770bfb3d7a1734966f9", func := "augur/augurlaw24.ReqKinds", spec := "reqKinds", unfollowed := true, recurses := true, apart := false }
def ReqKindsSaid : Prop := reqKindsRow.holds Try.pinned (OpenSpec.ofChange reqKindsSpec)

/-- ITS FALSE NEIGHBOUR: 'it returns false'. Refute it at one input. -/
def reqKindsWrong : ChangeSpec := { name := "reqKinds", fn := fun _ => fun
  | [d1, d2] => { results := [.lit (.bool false)], args := [d1, d2] }
  | _ => none }
def ReqKindsWrongFalsely : Prop := reqKindsRow.holds Try.pinned (OpenSpec.ofChange reqKindsWrong)

/- THE SECOND FORM. 'bulk': how many values and letters a reading holds, each counted each time it is reached (what is shared counts as often as it is met; a slice's spare places count too). A statement '..UptoSaid' is the law's where the arguments, and the package variables that the reading takes, are together of bulk at most 1048576: NARROWER than '..Said'. Prove '..Said' where nothing that the law and all that it calls make is longer than what came in: it says more and counts as full. Else prove '..UptoSaid'. A law counts once. -/
mutual
def uptoBulk {H : Type} : DataW H → Nat
  | .lit (.string bytes) => bytes.length + 1
  | .lit _ => 1
  | .nil => 1
  | .ptr d => uptoBulk d + 1
  | .slice elems spare => uptoBulkAll elems + uptoBulkAll spare + 1
  | .agg parts => uptoBulkAll parts + 1
  | .iface _ d => uptoBulk d + 1
  | .map entries => uptoBulkEntries entries + 1
  | .held _ => 1
def uptoBulkAll {H : Type} : List (DataW H) → Nat
  | [] => 0
  | d :: r => uptoBulk d + uptoBulkAll r
def uptoBulkEntries {H : Type} : List (Lit × DataW H) → Nat
  | [] => 0
  | x :: r => uptoBulkEntry x + uptoBulkEntries r
def uptoBulkEntry {H : Type} : Lit × DataW H → Nat
  | (.string bytes, d) => bytes.length + uptoBulk d + 1
  | (_, d) => uptoBulk d + 1
 end
def uptoSmall : (H : Type) → List (DataW H) → Bool := fun _ ds => decide (uptoBulkAll ds ≤ 1048576)
def OpenSpec.upto (s : _root_.Go.ChangeSpec) : _root_.Go.OpenSpec := { _root_.Go.OpenSpec.ofChange s with cond := some uptoSmall }

/-- 'augurlaw2.CodeInts', WHERE WHAT IT READS IS OF BULK AT MOST 1048576: true; the input reads as it did. -/
def codeIntsUptoRow : OpenClaim := { program := "ytimhghmnnibajaa", sum := "dcec3de100a6acd0d668993a7b6b7584182f1f30162a0770bfb3d7a1734966f9", func := "augur/augurlaw2.CodeInts", spec := "codeInts", unfollowed := true, recurses := true, apart := false, narrowed := true }
def CodeIntsUptoSaid : Prop := codeIntsUptoRow.holds Try.pinned (OpenSpec.upto codeIntsSpec)

/-- 'augurlaw2.CodeCuts', WHERE WHAT IT READS IS OF BULK AT MOST 1048576: true; the input reads as it did. -/
def codeCutsUptoRow : OpenClaim := { program := "ytimhghmnnibajaa", sum := "dcec3de100a6acd0d668993a7b6b7584182f1f30162a0770bfb3d7a1734966f9", func := "augur/augurlaw2.CodeCuts", spec := "codeCuts", unfollowed := true, recurses := true, apart := false, narrowed := true }
def CodeCutsUptoSaid : Prop := codeCutsUptoRow.holds Try.pinned (OpenSpec.upto codeCutsSpec)

/-- 'augurlaw2.CodeTogether', WHERE WHAT IT READS IS OF BULK AT MOST 1048576: true; the input reads as it did. -/
def codeTogetherUptoRow : OpenClaim := { program := "ytimhghmnnibajaa", sum := "dcec3de100a6acd0d668993a7b6b7584182f1f30162a0770bfb3d7a1734966f9", func := "augur/augurlaw2.CodeTogether", spec := "codeTogether", unfollowed := true, recurses := true, apart := false, narrowed := true }
def CodeTogetherUptoSaid : Prop := codeTogetherUptoRow.holds Try.pinned (OpenSpec.upto codeTogetherSpec)

/-- 'augurlaw2.CodeWrites', WHERE WHAT IT READS IS OF BULK AT MOST 1048576: true; the input reads as it did. -/
def codeWritesUptoRow : OpenClaim := { program := "ytimhghmnnibajaa", sum := "dcec3de100a6acd0d668993a7b6b7584182f1f30162a0770bfb3d7a1734966f9", func := "augur/augurlaw2.CodeWrites", spec := "codeWrites", unfollowed := true, recurses := true, apart := false, narrowed := true }
def CodeWritesUptoSaid : Prop := codeWritesUptoRow.holds Try.pinned (OpenSpec.upto codeWritesSpec)

/-- 'augurlaw2.CodeReads', WHERE WHAT IT READS IS OF BULK AT MOST 1048576: true; the input reads as it did. -/
def codeReadsUptoRow : OpenClaim := { program := "ytimhghmnnibajaa", sum := "dcec3de100a6acd0d668993a7b6b7584182f1f30162a0770bfb3d7a1734966f9", func := "augur/augurlaw2.CodeReads", spec := "codeReads", unfollowed := true, recurses := true, apart := false, narrowed := true }
def CodeReadsUptoSaid : Prop := codeReadsUptoRow.holds Try.pinned (OpenSpec.upto codeReadsSpec)

/-- 'augurlaw2.CodeBack', WHERE WHAT IT READS IS OF BULK AT MOST 1048576: true; the input reads as it did. -/
def codeBackUptoRow : OpenClaim := { program := "ytimhghmnnibajaa", sum := "dcec3de100a6acd0d668993a7b6b7584182f1f30162a0770bfb3d7a1734966f9", func := "augur/augurlaw2.CodeBack", spec := "codeBack", unfollowed := true, recurses := true, apart := false, narrowed := true }
def CodeBackUptoSaid : Prop := codeBackUptoRow.holds Try.pinned (OpenSpec.upto codeBackSpec)

/-- 'augurlaw24.ReqReads', WHERE WHAT IT READS IS OF BULK AT MOST 1048576: true; the input reads as it did. -/
def reqReadsUptoRow : OpenClaim := { program := "ytimhghmnnibajaa", sum := "dcec3de100a6acd0d668993a7b6b7584182f1f30162a0770bfb3d7a1734966f9", func := "augur/augurlaw24.ReqReads", spec := "reqReads", unfollowed := true, recurses := true, apart := false, narrowed := true }
def ReqReadsUptoSaid : Prop := reqReadsUptoRow.holds Try.pinned (OpenSpec.upto reqReadsSpec)

/-- 'augurlaw24.ReqWrites', WHERE WHAT IT READS IS OF BULK AT MOST 1048576: true; the input reads as it did. -/
def reqWritesUptoRow : OpenClaim := { program := "ytimhghmnnibajaa", sum := "dcec3de100a6acd0d668993a7b6b7584182f1f30162a0770bfb3d7a1734966f9", func := "augur/augurlaw24.ReqWrites", spec := "reqWrites", unfollowed := true, recurses := true, apart := false, narrowed := true }
def ReqWritesUptoSaid : Prop := reqWritesUptoRow.holds Try.pinned (OpenSpec.upto reqWritesSpec)

/-- 'augurlaw24.ReqGreat', WHERE WHAT IT READS IS OF BULK AT MOST 1048576: true; the input reads as it did. -/
def reqGreatUptoRow : OpenClaim := { program := "ytimhghmnnibajaa", sum := "dcec3de100a6acd0d668993a7b6b7584182f1f30162a0770bfb3d7a1734966f9", func := "augur/augurlaw24.ReqGreat", spec := "reqGreat", unfollowed := true, recurses := true, apart := false, narrowed := true }
def ReqGreatUptoSaid : Prop := reqGreatUptoRow.holds Try.pinned (OpenSpec.upto reqGreatSpec)

/-- 'augurlaw24.ReqCuts', WHERE WHAT IT READS IS OF BULK AT MOST 1048576: true; the input reads as it did. -/
def reqCutsUptoRow : OpenClaim := { program := "ytimhghmnnibajaa", sum := "dcec3de100a6acd0d668993a7b6b7584182f1f30162a0770bfb3d7a1734966f9", func := "augur/augurlaw24.ReqCuts", spec := "reqCuts", unfollowed := true, recurses := true, apart := false, narrowed := true }
def ReqCutsUptoSaid : Prop := reqCutsUptoRow.holds Try.pinned (OpenSpec.upto reqCutsSpec)

/-- 'augurlaw24.ReqKinds', WHERE WHAT IT READS IS OF BULK AT MOST 1048576: true; the input reads as it did. -/
def reqKindsUptoRow : OpenClaim := { program := "ytimhghmnnibajaa", sum := "dcec3de100a6acd0d668993a7b6b7584182f1f30162a0770bfb3d7a1734966f9", func := "augur/augurlaw24.ReqKinds", spec := "reqKinds", unfollowed := true, recurses := true, apart := false, narrowed := true }
def ReqKindsUptoSaid : Prop := reqKindsUptoRow.holds Try.pinned (OpenSpec.upto reqKindsSpec)

end Rows
end Go.Proofs.Ytimhghmnnibajaa
