/-
  No cell of these rows narrows 'for every input' (looked for: loops, veiled, ifaces, maps, wideKeys, modest, calm, conditions, laid).
  DERIVED. THE GIVEN ROWS OF THIS SEAT. 6 by the template 'for every input the law returns true; each argument reads behind the call as it read before'; 0 by the template 'total and deterministic' (their statements: YtelglbblgkhcmaaGreatTotals.lean).
  GIVEN WITH THE SEED: the statements are not yours to turn. If you find one false, say at which input.
  Laid BY PROGRAM, IN A SANDBOX (cutbox-rows.mjs): the forced cells as the released guide's own fill.sh prints them over the translation e2559e6df1ed01bd… (all of the seat's roots in one cut). By AI agents, Wed Nov 11 2026. No macro, syntax, notation, axiom, sorry.
-/
import Derived.Test.YtelglbblgkhcmaaGreatChecked
import GoSem.Claim
import GoSem.ClaimJoined
import GoSem.ClaimMapViews
import Derived.JoinedTies
import Derived.KernelRfl
namespace Go.Proofs.YtelglbblgkhcmaaGreat
/- THE CELL 'sum', in the pinned program and in every row, IS THE sha256 OF THE DUMP (.gsa) THAT YtelglbblgkhcmaaGreatProg.lean LOADS. Nothing in Lean hashes anything: it is a label: what it is worth is what the hold of that sum in a sandbox is worth. -/
noncomputable def Tryz.pinned : Pinned := { name := "ytelglbblgkhcmaagreat", sum := "e2559e6df1ed01bdc53c24755030c326a77d93306ae5165ebaa0728a854a1929", checked := Tryz.checked }
namespace Rows
def none {H : Type} : Left H := { results := [], args := [] }

/-- 'augurlaw5.StoreBatch': WHATEVER THE INPUT: true; the input reads as it did. -/
def storeBatchSpec : ChangeSpec := { name := "storeBatch", fn := fun _ => fun
  | [d] => { results := [.lit (.bool true)], args := [d] }
  | _ => none }
def storeBatchRow : OpenClaim := { program := "ytelglbblgkhcmaagreat", sum := "e2559e6df1ed01bdc53c24755030c326a77d93306ae5165ebaa0728a854a1929", func := "augur/augurlaw5.StoreBatch", spec := "storeBatch", inPlace := ["maps.clone"], unfollowed := true, recurses := true, apart := false }
def StoreBatchSaid : Prop := storeBatchRow.holds Tryz.pinned (OpenSpec.ofChange storeBatchSpec)

/-- ITS FALSE NEIGHBOUR: 'it returns false'. Refute it at one input. -/
def storeBatchWrong : ChangeSpec := { name := "storeBatch", fn := fun _ => fun
  | [d] => { results := [.lit (.bool false)], args := [d] }
  | _ => none }
def StoreBatchWrongFalsely : Prop := storeBatchRow.holds Tryz.pinned (OpenSpec.ofChange storeBatchWrong)

/-- 'augurlaw5.StoreRounds': WHATEVER THE INPUT: true; the input reads as it did. -/
def storeRoundsSpec : ChangeSpec := { name := "storeRounds", fn := fun _ => fun
  | [d1, d2] => { results := [.lit (.bool true)], args := [d1, d2] }
  | _ => none }
def storeRoundsRow : OpenClaim := { program := "ytelglbblgkhcmaagreat", sum := "e2559e6df1ed01bdc53c24755030c326a77d93306ae5165ebaa0728a854a1929", func := "augur/augurlaw5.StoreRounds", spec := "storeRounds", inPlace := ["maps.clone"], unfollowed := true, recurses := true, apart := false }
def StoreRoundsSaid : Prop := storeRoundsRow.holds Tryz.pinned (OpenSpec.ofChange storeRoundsSpec)

/-- ITS FALSE NEIGHBOUR: 'it returns false'. Refute it at one input. -/
def storeRoundsWrong : ChangeSpec := { name := "storeRounds", fn := fun _ => fun
  | [d1, d2] => { results := [.lit (.bool false)], args := [d1, d2] }
  | _ => none }
def StoreRoundsWrongFalsely : Prop := storeRoundsRow.holds Tryz.pinned (OpenSpec.ofChange storeRoundsWrong)

/-- 'augurlaw5.StorePrefix': WHATEVER THE INPUT: true; the input reads as it did. -/
def storePrefixSpec : ChangeSpec := { name := "storePrefix", fn := fun _ => fun
  | [d1, d2] => { results := [.lit (.bool true)], args := [d1, d2] }
  | _ => none }
def storePrefixRow : OpenClaim := { program := "ytelglbblgkhcmaagreat", sum := "e2559e6df1ed01bdc53c24755030c326a77d93306ae5165ebaa0728a854a1929", func := "augur/augurlaw5.StorePrefix", spec := "storePrefix", inPlace := ["maps.clone"], unfollowed := true, recurses := true, apart := false }
def StorePrefixSaid : Prop := storePrefixRow.holds Tryz.pinned (OpenSpec.ofChange storePrefixSpec)

/-- ITS FALSE NEIGHBOUR: 'it returns false'. Refute it at one input. -/
def storePrefixWrong : ChangeSpec := { name := "storePrefix", fn := fun _ => fun
  | [d1, d2] => { results := [.lit (.bool false)], args := [d1, d2] }
  | _ => none }
def StorePrefixWrongFalsely : Prop := storePrefixRow.holds Tryz.pinned (OpenSpec.ofChange storePrefixWrong)

/-- 'augurlaw5.StorePlays': WHATEVER THE INPUT: true; the input reads as it did. -/
def storePlaysSpec : ChangeSpec := { name := "storePlays", fn := fun _ => fun
  | [d] => { results := [.lit (.bool true)], args := [d] }
  | _ => none }
def storePlaysRow : OpenClaim := { program := "ytelglbblgkhcmaagreat", sum := "e2559e6df1ed01bdc53c24755030c326a77d93306ae5165ebaa0728a854a1929", func := "augur/augurlaw5.StorePlays", spec := "storePlays", inPlace := ["maps.clone"], unfollowed := true, recurses := true, apart := false }
def StorePlaysSaid : Prop := storePlaysRow.holds Tryz.pinned (OpenSpec.ofChange storePlaysSpec)

/-- ITS FALSE NEIGHBOUR: 'it returns false'. Refute it at one input. -/
def storePlaysWrong : ChangeSpec := { name := "storePlays", fn := fun _ => fun
  | [d] => { results := [.lit (.bool false)], args := [d] }
  | _ => none }
def StorePlaysWrongFalsely : Prop := storePlaysRow.holds Tryz.pinned (OpenSpec.ofChange storePlaysWrong)

/-- 'augurlaw5.StoreDown': WHATEVER THE INPUT: true; the input reads as it did. -/
def storeDownSpec : ChangeSpec := { name := "storeDown", fn := fun _ => fun
  | [d1, d2, d3, d4] => { results := [.lit (.bool true)], args := [d1, d2, d3, d4] }
  | _ => none }
def storeDownRow : OpenClaim := { program := "ytelglbblgkhcmaagreat", sum := "e2559e6df1ed01bdc53c24755030c326a77d93306ae5165ebaa0728a854a1929", func := "augur/augurlaw5.StoreDown", spec := "storeDown", inPlace := ["maps.clone"], unfollowed := true, recurses := true, apart := false }
def StoreDownSaid : Prop := storeDownRow.holds Tryz.pinned (OpenSpec.ofChange storeDownSpec)

/-- ITS FALSE NEIGHBOUR: 'it returns false'. Refute it at one input. -/
def storeDownWrong : ChangeSpec := { name := "storeDown", fn := fun _ => fun
  | [d1, d2, d3, d4] => { results := [.lit (.bool false)], args := [d1, d2, d3, d4] }
  | _ => none }
def StoreDownWrongFalsely : Prop := storeDownRow.holds Tryz.pinned (OpenSpec.ofChange storeDownWrong)

/-- 'augurlaw5.StoreFalls': WHATEVER THE INPUT: true; the input reads as it did. -/
def storeFallsSpec : ChangeSpec := { name := "storeFalls", fn := fun _ => fun
  | [d1, d2, d3, d4, d5] => { results := [.lit (.bool true)], args := [d1, d2, d3, d4, d5] }
  | _ => none }
def storeFallsRow : OpenClaim := { program := "ytelglbblgkhcmaagreat", sum := "e2559e6df1ed01bdc53c24755030c326a77d93306ae5165ebaa0728a854a1929", func := "augur/augurlaw5.StoreFalls", spec := "storeFalls", inPlace := ["maps.clone"], unfollowed := true, recurses := true, apart := false }
def StoreFallsSaid : Prop := storeFallsRow.holds Tryz.pinned (OpenSpec.ofChange storeFallsSpec)

/-- ITS FALSE NEIGHBOUR: 'it returns false'. Refute it at one input. -/
def storeFallsWrong : ChangeSpec := { name := "storeFalls", fn := fun _ => fun
  | [d1, d2, d3, d4, d5] => { results := [.lit (.bool false)], args := [d1, d2, d3, d4, d5] }
  | _ => none }
def StoreFallsWrongFalsely : Prop := storeFallsRow.holds Tryz.pinned (OpenSpec.ofChange storeFallsWrong)

/- THE SECOND FORM. 'bulk': how many values and letters a reading holds, each counted each time it is reached (what is shared counts as often as it is met; a slice's spare places count too). A statement '..UptoSaid' is the law's where the arguments, and the package variables that the reading takes, are together of bulk at most 1048576: NARROWER than '..Said'. Prove '..Said' where nothing that the law and all that it calls make is longer than what came in: it says more and counts as full. Else prove '..UptoSaid'. A law counts once. -/
mutual
def uptoBulk {H : Type} : DataW H → Nat
  | .lit (.string bytes) => bytes.length + 1
  | .lit _ => 1
  | .nil => 1
  | .ptr d => uptoBulk d + 1
  | .slice elems spare => uptoBulkAll elems + uptoBulkAll spare + 1
  | .agg parts => uptoBulkAll parts + 1
  | .iface _ d => uptoBulk d + 1
  | .map entries => uptoBulkEntries entries + 1
  | .held _ => 1
def uptoBulkAll {H : Type} : List (DataW H) → Nat
  | [] => 0
  | d :: r => uptoBulk d + uptoBulkAll r
def uptoBulkEntries {H : Type} : List (Lit × DataW H) → Nat
  | [] => 0
  | x :: r => uptoBulkEntry x + uptoBulkEntries r
def uptoBulkEntry {H : Type} : Lit × DataW H → Nat
  | (.string bytes, d) => bytes.length + uptoBulk d + 1
  | (_, d) => uptoBulk d + 1
 end
def uptoSmall : (H : Type) → List (DataW H) → Bool := fun _ ds => decide (uptoBulkAll ds ≤ 1048576)
def OpenSpec.upto (s : _root_.Go.ChangeSpec) : _root_.Go.OpenSpec := { _root_.Go.OpenSpec.ofChange s with cond := some uptoSmall }

/-- 'augurlaw5.StoreBatch', WHERE WHAT IT READS IS OF BULK AT MOST 1048576: true; the input reads as it did. -/
def storeBatchUptoRow : OpenClaim := { program := "ytelglbblgkhcmaagreat", sum := "e2559e6df1ed01bdc53c24755030c326a77d93306ae5165ebaa0728a854a1929", func := "augur/augurlaw5.StoreBatch", spec := "storeBatch", inPlace := ["maps.clone"], unfollowed := true, recurses := true, apart := false, narrowed := true }
def StoreBatchUptoSaid : Prop := storeBatchUptoRow.holds Tryz.pinned (OpenSpec.upto storeBatchSpec)

/-- 'augurlaw5.StoreRounds', WHERE WHAT IT READS IS OF BULK AT MOST 1048576: true; the input reads as it did. -/
def storeRoundsUptoRow : OpenClaim := { program := "ytelglbblgkhcmaagreat", sum := "e2559e6df1ed01bdc53c24755030c326a77d93306ae5165ebaa0728a854a1929", func := "augur/augurlaw5.StoreRounds", spec := "storeRounds", inPlace := ["maps.clone"], unfollowed := true, recurses := true, apart := false, narrowed := true }
def StoreRoundsUptoSaid : Prop := storeRoundsUptoRow.holds Tryz.pinned (OpenSpec.upto storeRoundsSpec)

/-- 'augurlaw5.StorePrefix', WHERE WHAT IT READS IS OF BULK AT MOST 1048576: true; the input reads as it did. -/
def storePrefixUptoRow : OpenClaim := { program := "ytelglbblgkhcmaagreat", sum := "e2559e6df1ed01bdc53c24755030c326a77d93306ae5165ebaa0728a854a1929", func := "augur/augurlaw5.StorePrefix", spec := "storePrefix", inPlace := ["maps.clone"], unfollowed := true, recurses := true, apart := false, narrowed := true }
def StorePrefixUptoSaid : Prop := storePrefixUptoRow.holds Tryz.pinned (OpenSpec.upto storePrefixSpec)

/-- 'augurlaw5.StorePlays', WHERE WHAT IT READS IS OF BULK AT MOST 1048576: true; the input reads as it did. -/
def storePlaysUptoRow : OpenClaim := { program := "ytelglbblgkhcmaagreat", sum := "e2559e6df1ed01bdc53c24755030c326a77d93306ae5165ebaa0728a854a1929", func := "augur/augurlaw5.StorePlays", spec := "storePlays", inPlace := ["maps.clone"], unfollowed := true, recurses := true, apart := false, narrowed := true }
def StorePlaysUptoSaid : Prop := storePlaysUptoRow.holds Tryz.pinned (OpenSpec.upto storePlaysSpec)

/-- 'augurlaw5.StoreDown', WHERE WHAT IT READS IS OF BULK AT MOST 1048576: true; the input reads as it did. -/
def storeDownUptoRow : OpenClaim := { program := "ytelglbblgkhcmaagreat", sum := "e2559e6df1ed01bdc53c24755030c326a77d93306ae5165ebaa0728a854a1929", func := "augur/augurlaw5.StoreDown", spec := "storeDown", inPlace := ["maps.clone"], unfollowed := true, recurses := true, apart := false, narrowed := true }
def StoreDownUptoSaid : Prop := storeDownUptoRow.holds Tryz.pinned (OpenSpec.upto storeDownSpec)

/-- 'augurlaw5.StoreFalls', WHERE WHAT IT READS IS OF BULK AT MOST 1048576: true; the input reads as it did. -/
def storeFallsUptoRow : OpenClaim := { program := "ytelglbblgkhcmaagreat", sum := "e2559e6df1ed01bdc53c24755030c326a77d93306ae5165ebaa0728a854a1929", func := "augur/augurlaw5.StoreFalls", spec := "storeFalls", inPlace := ["maps.clone"], unfollowed := true, recurses := true, apart := false, narrowed := true }
def StoreFallsUptoSaid : Prop := storeFallsUptoRow.holds Tryz.pinned (OpenSpec.upto storeFallsSpec)

end Rows
end Go.Proofs.YtelglbblgkhcmaaGreat
