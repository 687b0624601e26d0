/-
  No cell of these rows narrows 'for every input' (looked for: loops, veiled, ifaces, maps, wideKeys, modest, calm, conditions, laid).
  DERIVED. THE GIVEN ROWS OF THIS SEAT. 8 by the template 'for every input the law returns true; each argument reads behind the call as it read before'; 0 by the template 'total and deterministic' (their statements: YtncddkbagmelkaaTotals.lean).
  GIVEN WITH THE SEED: the statements are not yours to turn. If you find one false, say at which input.
  Laid BY PROGRAM, IN A SANDBOX (cutbox-rows.mjs): the forced cells as the released guide's own fill.sh prints them over the translation c8106abc6198457f… (all of the seat's roots in one cut). By AI agents, Wed Nov 11 2026. No macro, syntax, notation, axiom, sorry.
-/
import Derived.Test.YtncddkbagmelkaaChecked
import GoSem.Claim
import GoSem.ClaimJoined
import GoSem.ClaimMapViews
import Derived.JoinedTies
import Derived.KernelRfl
namespace Go.Proofs.Ytncddkbagmelkaa
/- THE CELL 'sum', in the pinned program and in every row, IS THE sha256 OF THE DUMP (.gsa) THAT YtncddkbagmelkaaProg.lean LOADS. Nothing in Lean hashes anything: it is a label: what it is worth is what the hold of that sum in a sandbox is worth. -/
noncomputable def Try.pinned : Pinned := { name := "ytncddkbagmelkaa", sum := "c8106abc6198457f4e9fc49a797cfd262e64be4e902eedc7c0d995e928a878a1", checked := Try.checked }
namespace Rows
def none {H : Type} : Left H := { results := [], args := [] }

/-- 'augurlaw4.WalForeign': WHATEVER THE INPUT: true; the input reads as it did. -/
def walForeignSpec : ChangeSpec := { name := "walForeign", fn := fun _ => fun
  | [d1, d2, d3] => { results := [.lit (.bool true)], args := [d1, d2, d3] }
  | _ => none }
def walForeignRow : OpenClaim := { program := "ytncddkbagmelkaa", sum := "c8106abc6198457f4e9fc49a797cfd262e64be4e902eedc7c0d995e928a878a1", func := "augur/augurlaw4.WalForeign", spec := "walForeign", unfollowed := true, recurses := true, apart := false }
def WalForeignSaid : Prop := walForeignRow.holds Try.pinned (OpenSpec.ofChange walForeignSpec)

/-- ITS FALSE NEIGHBOUR: 'it returns false'. Refute it at one input. -/
def walForeignWrong : ChangeSpec := { name := "walForeign", fn := fun _ => fun
  | [d1, d2, d3] => { results := [.lit (.bool false)], args := [d1, d2, d3] }
  | _ => none }
def WalForeignWrongFalsely : Prop := walForeignRow.holds Try.pinned (OpenSpec.ofChange walForeignWrong)

/-- 'augurlaw4.WalTogether': WHATEVER THE INPUT: true; the input reads as it did. -/
def walTogetherSpec : ChangeSpec := { name := "walTogether", fn := fun _ => fun
  | [d1, d2] => { results := [.lit (.bool true)], args := [d1, d2] }
  | _ => none }
def walTogetherRow : OpenClaim := { program := "ytncddkbagmelkaa", sum := "c8106abc6198457f4e9fc49a797cfd262e64be4e902eedc7c0d995e928a878a1", func := "augur/augurlaw4.WalTogether", spec := "walTogether", unfollowed := true, recurses := true, apart := false }
def WalTogetherSaid : Prop := walTogetherRow.holds Try.pinned (OpenSpec.ofChange walTogetherSpec)

/-- ITS FALSE NEIGHBOUR: 'it returns false'. Refute it at one input. -/
def walTogetherWrong : ChangeSpec := { name := "walTogether", fn := fun _ => fun
  | [d1, d2] => { results := [.lit (.bool false)], args := [d1, d2] }
  | _ => none }
def WalTogetherWrongFalsely : Prop := walTogetherRow.holds Try.pinned (OpenSpec.ofChange walTogetherWrong)

/-- 'augurlaw4.WalResets': WHATEVER THE INPUT: true; the input reads as it did. -/
def walResetsSpec : ChangeSpec := { name := "walResets", fn := fun _ => fun
  | [d1, d2] => { results := [.lit (.bool true)], args := [d1, d2] }
  | _ => none }
def walResetsRow : OpenClaim := { program := "ytncddkbagmelkaa", sum := "c8106abc6198457f4e9fc49a797cfd262e64be4e902eedc7c0d995e928a878a1", func := "augur/augurlaw4.WalResets", spec := "walResets", unfollowed := true, recurses := true, apart := false }
def WalResetsSaid : Prop := walResetsRow.holds Try.pinned (OpenSpec.ofChange walResetsSpec)

/-- ITS FALSE NEIGHBOUR: 'it returns false'. Refute it at one input. -/
def walResetsWrong : ChangeSpec := { name := "walResets", fn := fun _ => fun
  | [d1, d2] => { results := [.lit (.bool false)], args := [d1, d2] }
  | _ => none }
def WalResetsWrongFalsely : Prop := walResetsRow.holds Try.pinned (OpenSpec.ofChange walResetsWrong)

/-- 'augurlaw4.WalKeeps': WHATEVER THE INPUT: true; the input reads as it did. -/
def walKeepsSpec : ChangeSpec := { name := "walKeeps", fn := fun _ => fun
  | [d1, d2] => { results := [.lit (.bool true)], args := [d1, d2] }
  | _ => none }
def walKeepsRow : OpenClaim := { program := "ytncddkbagmelkaa", sum := "c8106abc6198457f4e9fc49a797cfd262e64be4e902eedc7c0d995e928a878a1", func := "augur/augurlaw4.WalKeeps", spec := "walKeeps", unfollowed := true, recurses := true, apart := false }
def WalKeepsSaid : Prop := walKeepsRow.holds Try.pinned (OpenSpec.ofChange walKeepsSpec)

/-- ITS FALSE NEIGHBOUR: 'it returns false'. Refute it at one input. -/
def walKeepsWrong : ChangeSpec := { name := "walKeeps", fn := fun _ => fun
  | [d1, d2] => { results := [.lit (.bool false)], args := [d1, d2] }
  | _ => none }
def WalKeepsWrongFalsely : Prop := walKeepsRow.holds Try.pinned (OpenSpec.ofChange walKeepsWrong)

/-- 'augurlaw3.DiskBounds': WHATEVER THE INPUT: true; the input reads as it did. -/
def diskBoundsSpec : ChangeSpec := { name := "diskBounds", fn := fun _ => fun
  | [d1, d2] => { results := [.lit (.bool true)], args := [d1, d2] }
  | _ => none }
def diskBoundsRow : OpenClaim := { program := "ytncddkbagmelkaa", sum := "c8106abc6198457f4e9fc49a797cfd262e64be4e902eedc7c0d995e928a878a1", func := "augur/augurlaw3.DiskBounds", spec := "diskBounds", unfollowed := true, recurses := true, apart := false }
def DiskBoundsSaid : Prop := diskBoundsRow.holds Try.pinned (OpenSpec.ofChange diskBoundsSpec)

/-- ITS FALSE NEIGHBOUR: 'it returns false'. Refute it at one input. -/
def diskBoundsWrong : ChangeSpec := { name := "diskBounds", fn := fun _ => fun
  | [d1, d2] => { results := [.lit (.bool false)], args := [d1, d2] }
  | _ => none }
def DiskBoundsWrongFalsely : Prop := diskBoundsRow.holds Try.pinned (OpenSpec.ofChange diskBoundsWrong)

/-- 'augurlaw3.DiskCopies': WHATEVER THE INPUT: true; the input reads as it did. -/
def diskCopiesSpec : ChangeSpec := { name := "diskCopies", fn := fun _ => fun
  | [d1, d2] => { results := [.lit (.bool true)], args := [d1, d2] }
  | _ => none }
def diskCopiesRow : OpenClaim := { program := "ytncddkbagmelkaa", sum := "c8106abc6198457f4e9fc49a797cfd262e64be4e902eedc7c0d995e928a878a1", func := "augur/augurlaw3.DiskCopies", spec := "diskCopies", inPlace := ["maps.clone"], unfollowed := true, recurses := true, apart := false }
def DiskCopiesSaid : Prop := diskCopiesRow.holds Try.pinned (OpenSpec.ofChange diskCopiesSpec)

/-- ITS FALSE NEIGHBOUR: 'it returns false'. Refute it at one input. -/
def diskCopiesWrong : ChangeSpec := { name := "diskCopies", fn := fun _ => fun
  | [d1, d2] => { results := [.lit (.bool false)], args := [d1, d2] }
  | _ => none }
def DiskCopiesWrongFalsely : Prop := diskCopiesRow.holds Try.pinned (OpenSpec.ofChange diskCopiesWrong)

/-- 'augurlaw4.WalTwice': WHATEVER THE INPUT: true; the input reads as it did. -/
def walTwiceSpec : ChangeSpec := { name := "walTwice", fn := fun _ => fun
  | [d1, d2, d3, d4, d5, d6] => { results := [.lit (.bool true)], args := [d1, d2, d3, d4, d5, d6] }
  | _ => none }
def walTwiceRow : OpenClaim := { program := "ytncddkbagmelkaa", sum := "c8106abc6198457f4e9fc49a797cfd262e64be4e902eedc7c0d995e928a878a1", func := "augur/augurlaw4.WalTwice", spec := "walTwice", unfollowed := true, recurses := true, apart := false }
def WalTwiceSaid : Prop := walTwiceRow.holds Try.pinned (OpenSpec.ofChange walTwiceSpec)

/-- ITS FALSE NEIGHBOUR: 'it returns false'. Refute it at one input. -/
def walTwiceWrong : ChangeSpec := { name := "walTwice", fn := fun _ => fun
  | [d1, d2, d3, d4, d5, d6] => { results := [.lit (.bool false)], args := [d1, d2, d3, d4, d5, d6] }
  | _ => none }
def WalTwiceWrongFalsely : Prop := walTwiceRow.holds Try.pinned (OpenSpec.ofChange walTwiceWrong)

/-- 'augurlaw4.WalFalls': WHATEVER THE INPUT: true; the input reads as it did. -/
def walFallsSpec : ChangeSpec := { name := "walFalls", fn := fun _ => fun
  | [d1, d2, d3, d4] => { results := [.lit (.bool true)], args := [d1, d2, d3, d4] }
  | _ => none }
def walFallsRow : OpenClaim := { program := "ytncddkbagmelkaa", sum := "c8106abc6198457f4e9fc49a797cfd262e64be4e902eedc7c0d995e928a878a1", func := "augur/augurlaw4.WalFalls", spec := "walFalls", unfollowed := true, recurses := true, apart := false }
def WalFallsSaid : Prop := walFallsRow.holds Try.pinned (OpenSpec.ofChange walFallsSpec)

/-- ITS FALSE NEIGHBOUR: 'it returns false'. Refute it at one input. -/
def walFallsWrong : ChangeSpec := { name := "walFalls", fn := fun _ => fun
  | [d1, d2, d3, d4] => { results := [.lit (.bool false)], args := [d1, d2, d3, d4] }
  | _ => none }
def WalFallsWrongFalsely : Prop := walFallsRow.holds Try.pinned (OpenSpec.ofChange walFallsWrong)

/- THE SECOND FORM. 'bulk': how many values and letters a reading holds, each counted each time it is reached (what is shared counts as often as it is met; a slice's spare places count too). A statement '..UptoSaid' is the law's where the arguments, and the package variables that the reading takes, are together of bulk at most 1048576: NARROWER than '..Said'. Prove '..Said' where nothing that the law and all that it calls make is longer than what came in: it says more and counts as full. Else prove '..UptoSaid'. A law counts once. -/
mutual
def uptoBulk {H : Type} : DataW H → Nat
  | .lit (.string bytes) => bytes.length + 1
  | .lit _ => 1
  | .nil => 1
  | .ptr d => uptoBulk d + 1
  | .slice elems spare => uptoBulkAll elems + uptoBulkAll spare + 1
  | .agg parts => uptoBulkAll parts + 1
  | .iface _ d => uptoBulk d + 1
  | .map entries => uptoBulkEntries entries + 1
  | .held _ => 1
def uptoBulkAll {H : Type} : List (DataW H) → Nat
  | [] => 0
  | d :: r => uptoBulk d + uptoBulkAll r
def uptoBulkEntries {H : Type} : List (Lit × DataW H) → Nat
  | [] => 0
  | x :: r => uptoBulkEntry x + uptoBulkEntries r
def uptoBulkEntry {H : Type} : Lit × DataW H → Nat
  | (.string bytes, d) => bytes.length + uptoBulk d + 1
  | (_, d) => uptoBulk d + 1
 end
def uptoSmall : (H : Type) → List (DataW H) → Bool := fun _ ds => decide (uptoBulkAll ds ≤ 1048576)
def OpenSpec.upto (s : _root_.Go.ChangeSpec) : _root_.Go.OpenSpec := { _root_.Go.OpenSpec.ofChange s with cond := some uptoSmall }

/-- 'augurlaw4.WalForeign', WHERE WHAT IT READS IS OF BULK AT MOST 1048576: true; the input reads as it did. -/
def walForeignUptoRow : OpenClaim := { program := "ytncddkbagmelkaa", sum := "c8106abc6198457f4e9fc49a797cfd262e64be4e902eedc7c0d995e928a878a1", func := "augur/augurlaw4.WalForeign", spec := "walForeign", unfollowed := true, recurses := true, apart := false, narrowed := true }
def WalForeignUptoSaid : Prop := walForeignUptoRow.holds Try.pinned (OpenSpec.upto walForeignSpec)

/-- 'augurlaw4.WalTogether', WHERE WHAT IT READS IS OF BULK AT MOST 1048576: true; the input reads as it did. -/
def walTogetherUptoRow : OpenClaim := { program := "ytncddkbagmelkaa", sum := "c8106abc6198457f4e9fc49a797cfd262e64be4e902eedc7c0d995e928a878a1", func := "augur/augurlaw4.WalTogether", spec := "walTogether", unfollowed := true, recurses := true, apart := false, narrowed := true }
def WalTogetherUptoSaid : Prop := walTogetherUptoRow.holds Try.pinned (OpenSpec.upto walTogetherSpec)

/-- 'augurlaw4.WalResets', WHERE WHAT IT READS IS OF BULK AT MOST 1048576: true; the input reads as it did. -/
def walResetsUptoRow : OpenClaim := { program := "ytncddkbagmelkaa", sum := "c8106abc6198457f4e9fc49a797cfd262e64be4e902eedc7c0d995e928a878a1", func := "augur/augurlaw4.WalResets", spec := "walResets", unfollowed := true, recurses := true, apart := false, narrowed := true }
def WalResetsUptoSaid : Prop := walResetsUptoRow.holds Try.pinned (OpenSpec.upto walResetsSpec)

/-- 'augurlaw4.WalKeeps', WHERE WHAT IT READS IS OF BULK AT MOST 1048576: true; the input reads as it did. -/
def walKeepsUptoRow : OpenClaim := { program := "ytncddkbagmelkaa", sum := "c8106abc6198457f4e9fc49a797cfd262e64be4e902eedc7c0d995e928a878a1", func := "augur/augurlaw4.WalKeeps", spec := "walKeeps", unfollowed := true, recurses := true, apart := false, narrowed := true }
def WalKeepsUptoSaid : Prop := walKeepsUptoRow.holds Try.pinned (OpenSpec.upto walKeepsSpec)

/-- 'augurlaw3.DiskBounds', WHERE WHAT IT READS IS OF BULK AT MOST 1048576: true; the input reads as it did. -/
def diskBoundsUptoRow : OpenClaim := { program := "ytncddkbagmelkaa", sum := "c8106abc6198457f4e9fc49a797cfd262e64be4e902eedc7c0d995e928a878a1", func := "augur/augurlaw3.DiskBounds", spec := "diskBounds", unfollowed := true, recurses := true, apart := false, narrowed := true }
def DiskBoundsUptoSaid : Prop := diskBoundsUptoRow.holds Try.pinned (OpenSpec.upto diskBoundsSpec)

/-- 'augurlaw3.DiskCopies', WHERE WHAT IT READS IS OF BULK AT MOST 1048576: true; the input reads as it did. -/
def diskCopiesUptoRow : OpenClaim := { program := "ytncddkbagmelkaa", sum := "c8106abc6198457f4e9fc49a797cfd262e64be4e902eedc7c0d995e928a878a1", func := "augur/augurlaw3.DiskCopies", spec := "diskCopies", inPlace := ["maps.clone"], unfollowed := true, recurses := true, apart := false, narrowed := true }
def DiskCopiesUptoSaid : Prop := diskCopiesUptoRow.holds Try.pinned (OpenSpec.upto diskCopiesSpec)

/-- 'augurlaw4.WalTwice', WHERE WHAT IT READS IS OF BULK AT MOST 1048576: true; the input reads as it did. -/
def walTwiceUptoRow : OpenClaim := { program := "ytncddkbagmelkaa", sum := "c8106abc6198457f4e9fc49a797cfd262e64be4e902eedc7c0d995e928a878a1", func := "augur/augurlaw4.WalTwice", spec := "walTwice", unfollowed := true, recurses := true, apart := false, narrowed := true }
def WalTwiceUptoSaid : Prop := walTwiceUptoRow.holds Try.pinned (OpenSpec.upto walTwiceSpec)

/-- 'augurlaw4.WalFalls', WHERE WHAT IT READS IS OF BULK AT MOST 1048576: true; the input reads as it did. -/
def walFallsUptoRow : OpenClaim := { program := "ytncddkbagmelkaa", sum := "c8106abc6198457f4e9fc49a797cfd262e64be4e902eedc7c0d995e928a878a1", func := "augur/augurlaw4.WalFalls", spec := "walFalls", unfollowed := true, recurses := true, apart := false, narrowed := true }
def WalFallsUptoSaid : Prop := walFallsUptoRow.holds Try.pinned (OpenSpec.upto walFallsSpec)

end Rows
end Go.Proofs.Ytncddkbagmelkaa
