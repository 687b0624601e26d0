/-
  No cell of these rows narrows 'for every input' (looked for: loops, veiled, ifaces, maps, wideKeys, modest, calm, conditions, laid).
  DERIVED. THE GIVEN ROWS OF THIS SEAT. 5 by the template 'for every input the law returns true; each argument reads behind the call as it read before'; 0 by the template 'total and deterministic' (their statements: YtpndglghpojjkaaGreatTotals.lean).
  GIVEN WITH THE SEED: the statements are not yours to turn. If you find one false, say at which input.
  Laid BY PROGRAM, IN A SANDBOX (cutbox-rows.mjs): the forced cells as the released guide's own fill.sh prints them over the translation 36a009a89ed9c8a0… (all of the seat's roots in one cut). By AI agents, Wed Nov 11 2026. No macro, syntax, notation, axiom, sorry.
-/
import Derived.Test.YtpndglghpojjkaaGreatChecked
import GoSem.Claim
import GoSem.ClaimJoined
import GoSem.ClaimMapViews
import Derived.JoinedTies
import Derived.KernelRfl
namespace Go.Proofs.YtpndglghpojjkaaGreat
/- THE CELL 'sum', in the pinned program and in every row, IS THE sha256 OF THE DUMP (.gsa) THAT YtpndglghpojjkaaGreatProg.lean LOADS. Nothing in Lean hashes anything: it is a label: what it is worth is what the hold of that sum in a sandbox is worth. -/
noncomputable def Tryz.pinned : Pinned := { name := "ytpndglghpojjkaagreat", sum := "36a009a89ed9c8a0a2e48a1e7647214c89ac1eafc7783cfe8db4176931f52661", checked := Tryz.checked }
namespace Rows
def none {H : Type} : Left H := { results := [], args := [] }

/-- 'augurlaw9.NamesResolve': WHATEVER THE INPUT: true; the input reads as it did. -/
def namesResolveSpec : ChangeSpec := { name := "namesResolve", fn := fun _ => fun
  | [d1, d2] => { results := [.lit (.bool true)], args := [d1, d2] }
  | _ => none }
def namesResolveRow : OpenClaim := { program := "ytpndglghpojjkaagreat", sum := "36a009a89ed9c8a0a2e48a1e7647214c89ac1eafc7783cfe8db4176931f52661", func := "augur/augurlaw9.NamesResolve", spec := "namesResolve", unfollowed := true, recurses := true, apart := false }
def NamesResolveSaid : Prop := namesResolveRow.holds Tryz.pinned (OpenSpec.ofChange namesResolveSpec)

/-- ITS FALSE NEIGHBOUR: 'it returns false'. Refute it at one input. -/
def namesResolveWrong : ChangeSpec := { name := "namesResolve", fn := fun _ => fun
  | [d1, d2] => { results := [.lit (.bool false)], args := [d1, d2] }
  | _ => none }
def NamesResolveWrongFalsely : Prop := namesResolveRow.holds Tryz.pinned (OpenSpec.ofChange namesResolveWrong)

/-- 'augurlaw9.NamesKinds': WHATEVER THE INPUT: true; the input reads as it did. -/
def namesKindsSpec : ChangeSpec := { name := "namesKinds", fn := fun _ => fun
  | [d1, d2, d3] => { results := [.lit (.bool true)], args := [d1, d2, d3] }
  | _ => none }
def namesKindsRow : OpenClaim := { program := "ytpndglghpojjkaagreat", sum := "36a009a89ed9c8a0a2e48a1e7647214c89ac1eafc7783cfe8db4176931f52661", func := "augur/augurlaw9.NamesKinds", spec := "namesKinds", unfollowed := true, recurses := true, apart := false }
def NamesKindsSaid : Prop := namesKindsRow.holds Tryz.pinned (OpenSpec.ofChange namesKindsSpec)

/-- ITS FALSE NEIGHBOUR: 'it returns false'. Refute it at one input. -/
def namesKindsWrong : ChangeSpec := { name := "namesKinds", fn := fun _ => fun
  | [d1, d2, d3] => { results := [.lit (.bool false)], args := [d1, d2, d3] }
  | _ => none }
def NamesKindsWrongFalsely : Prop := namesKindsRow.holds Tryz.pinned (OpenSpec.ofChange namesKindsWrong)

/-- 'augurlaw9.NamesUses': WHATEVER THE INPUT: true; the input reads as it did. -/
def namesUsesSpec : ChangeSpec := { name := "namesUses", fn := fun _ => fun
  | [d1, d2] => { results := [.lit (.bool true)], args := [d1, d2] }
  | _ => none }
def namesUsesRow : OpenClaim := { program := "ytpndglghpojjkaagreat", sum := "36a009a89ed9c8a0a2e48a1e7647214c89ac1eafc7783cfe8db4176931f52661", func := "augur/augurlaw9.NamesUses", spec := "namesUses", unfollowed := true, recurses := true, apart := false }
def NamesUsesSaid : Prop := namesUsesRow.holds Tryz.pinned (OpenSpec.ofChange namesUsesSpec)

/-- ITS FALSE NEIGHBOUR: 'it returns false'. Refute it at one input. -/
def namesUsesWrong : ChangeSpec := { name := "namesUses", fn := fun _ => fun
  | [d1, d2] => { results := [.lit (.bool false)], args := [d1, d2] }
  | _ => none }
def NamesUsesWrongFalsely : Prop := namesUsesRow.holds Tryz.pinned (OpenSpec.ofChange namesUsesWrong)

/-- 'augurlaw9.NamesShadow': WHATEVER THE INPUT: true; the input reads as it did. -/
def namesShadowSpec : ChangeSpec := { name := "namesShadow", fn := fun _ => fun
  | [d1, d2, d3] => { results := [.lit (.bool true)], args := [d1, d2, d3] }
  | _ => none }
def namesShadowRow : OpenClaim := { program := "ytpndglghpojjkaagreat", sum := "36a009a89ed9c8a0a2e48a1e7647214c89ac1eafc7783cfe8db4176931f52661", func := "augur/augurlaw9.NamesShadow", spec := "namesShadow", unfollowed := true, recurses := true, apart := false }
def NamesShadowSaid : Prop := namesShadowRow.holds Tryz.pinned (OpenSpec.ofChange namesShadowSpec)

/-- ITS FALSE NEIGHBOUR: 'it returns false'. Refute it at one input. -/
def namesShadowWrong : ChangeSpec := { name := "namesShadow", fn := fun _ => fun
  | [d1, d2, d3] => { results := [.lit (.bool false)], args := [d1, d2, d3] }
  | _ => none }
def NamesShadowWrongFalsely : Prop := namesShadowRow.holds Tryz.pinned (OpenSpec.ofChange namesShadowWrong)

/-- 'augurlaw15.MemEntry': WHATEVER THE INPUT: true; the input reads as it did. -/
def memEntrySpec : ChangeSpec := { name := "memEntry", fn := fun _ => fun
  | [d1, d2, d3] => { results := [.lit (.bool true)], args := [d1, d2, d3] }
  | _ => none }
def memEntryRow : OpenClaim := { program := "ytpndglghpojjkaagreat", sum := "36a009a89ed9c8a0a2e48a1e7647214c89ac1eafc7783cfe8db4176931f52661", func := "augur/augurlaw15.MemEntry", spec := "memEntry", inPlace := ["internal/bytealg.abigen_runtime_cmpstring", "slices.overlaps[augur/api.Named]"], unfollowed := true, recurses := true, apart := false }
def MemEntrySaid : Prop := memEntryRow.holds Tryz.pinned (OpenSpec.ofChange memEntrySpec)

/-- ITS FALSE NEIGHBOUR: 'it returns false'. Refute it at one input. -/
def memEntryWrong : ChangeSpec := { name := "memEntry", fn := fun _ => fun
  | [d1, d2, d3] => { results := [.lit (.bool false)], args := [d1, d2, d3] }
  | _ => none }
def MemEntryWrongFalsely : Prop := memEntryRow.holds Tryz.pinned (OpenSpec.ofChange memEntryWrong)

/- THE SECOND FORM. 'bulk': how many values and letters a reading holds, each counted each time it is reached (what is shared counts as often as it is met; a slice's spare places count too). A statement '..UptoSaid' is the law's where the arguments, and the package variables that the reading takes, are together of bulk at most 1048576: NARROWER than '..Said'. Prove '..Said' where nothing that the law and all that it calls make is longer than what came in: it says more and counts as full. Else prove '..UptoSaid'. A law counts once. -/
mutual
def uptoBulk {H : Type} : DataW H → Nat
  | .lit (.string bytes) => bytes.length + 1
  | .lit _ => 1
  | .nil => 1
  | .ptr d => uptoBulk d + 1
  | .slice elems spare => uptoBulkAll elems + uptoBulkAll spare + 1
  | .agg parts => uptoBulkAll parts + 1
  | .iface _ d => uptoBulk d + 1
  | .map entries => uptoBulkEntries entries + 1
  | .held _ => 1
def uptoBulkAll {H : Type} : List (DataW H) → Nat
  | [] => 0
  | d :: r => uptoBulk d + uptoBulkAll r
def uptoBulkEntries {H : Type} : List (Lit × DataW H) → Nat
  | [] => 0
  | x :: r => uptoBulkEntry x + uptoBulkEntries r
def uptoBulkEntry {H : Type} : Lit × DataW H → Nat
  | (.string bytes, d) => bytes.length + uptoBulk d + 1
  | (_, d) => uptoBulk d + 1
 end
def uptoSmall : (H : Type) → List (DataW H) → Bool := fun _ ds => decide (uptoBulkAll ds ≤ 1048576)
def OpenSpec.upto (s : _root_.Go.ChangeSpec) : _root_.Go.OpenSpec := { _root_.Go.OpenSpec.ofChange s with cond := some uptoSmall }

/-- 'augurlaw9.NamesResolve', WHERE WHAT IT READS IS OF BULK AT MOST 1048576: true; the input reads as it did. -/
def namesResolveUptoRow : OpenClaim := { program := "ytpndglghpojjkaagreat", sum := "36a009a89ed9c8a0a2e48a1e7647214c89ac1eafc7783cfe8db4176931f52661", func := "augur/augurlaw9.NamesResolve", spec := "namesResolve", unfollowed := true, recurses := true, apart := false, narrowed := true }
def NamesResolveUptoSaid : Prop := namesResolveUptoRow.holds Tryz.pinned (OpenSpec.upto namesResolveSpec)

/-- 'augurlaw9.NamesKinds', WHERE WHAT IT READS IS OF BULK AT MOST 1048576: true; the input reads as it did. -/
def namesKindsUptoRow : OpenClaim := { program := "ytpndglghpojjkaagreat", sum := "36a009a89ed9c8a0a2e48a1e7647214c89ac1eafc7783cfe8db4176931f52661", func := "augur/augurlaw9.NamesKinds", spec := "namesKinds", unfollowed := true, recurses := true, apart := false, narrowed := true }
def NamesKindsUptoSaid : Prop := namesKindsUptoRow.holds Tryz.pinned (OpenSpec.upto namesKindsSpec)

/-- 'augurlaw9.NamesUses', WHERE WHAT IT READS IS OF BULK AT MOST 1048576: true; the input reads as it did. -/
def namesUsesUptoRow : OpenClaim := { program := "ytpndglghpojjkaagreat", sum := "36a009a89ed9c8a0a2e48a1e7647214c89ac1eafc7783cfe8db4176931f52661", func := "augur/augurlaw9.NamesUses", spec := "namesUses", unfollowed := true, recurses := true, apart := false, narrowed := true }
def NamesUsesUptoSaid : Prop := namesUsesUptoRow.holds Tryz.pinned (OpenSpec.upto namesUsesSpec)

/-- 'augurlaw9.NamesShadow', WHERE WHAT IT READS IS OF BULK AT MOST 1048576: true; the input reads as it did. -/
def namesShadowUptoRow : OpenClaim := { program := "ytpndglghpojjkaagreat", sum := "36a009a89ed9c8a0a2e48a1e7647214c89ac1eafc7783cfe8db4176931f52661", func := "augur/augurlaw9.NamesShadow", spec := "namesShadow", unfollowed := true, recurses := true, apart := false, narrowed := true }
def NamesShadowUptoSaid : Prop := namesShadowUptoRow.holds Tryz.pinned (OpenSpec.upto namesShadowSpec)

/-- 'augurlaw15.MemEntry', WHERE WHAT IT READS IS OF BULK AT MOST 1048576: true; the input reads as it did. -/
def memEntryUptoRow : OpenClaim := { program := "ytpndglghpojjkaagreat", sum := "36a009a89ed9c8a0a2e48a1e7647214c89ac1eafc7783cfe8db4176931f52661", func := "augur/augurlaw15.MemEntry", spec := "memEntry", inPlace := ["internal/bytealg.abigen_runtime_cmpstring", "slices.overlaps[augur/api.Named]"], unfollowed := true, recurses := true, apart := false, narrowed := true }
def MemEntryUptoSaid : Prop := memEntryUptoRow.holds Tryz.pinned (OpenSpec.upto memEntrySpec)

end Rows
end Go.Proofs.YtpndglghpojjkaaGreat
