/-
  No cell of these rows narrows 'for every input' (looked for: loops, veiled, ifaces, maps, wideKeys, modest, calm, conditions, laid).
  DERIVED. THE GIVEN ROWS OF THIS SEAT. 12 by the template 'for every input the law returns true; each argument reads behind the call as it read before'; 0 by the template 'total and deterministic' (their statements: YtjdpnoboedjfhaaTotals.lean).
  GIVEN WITH THE SEED: the statements are not yours to turn. If you find one false, say at which input.
  Laid BY PROGRAM, IN A SANDBOX (cutbox-rows.mjs): the forced cells as the released guide's own fill.sh prints them over the translation f2a813c07b1e8242… (all of the seat's roots in one cut). By AI agents, Wed Nov 11 2026. No macro, syntax, notation, axiom, sorry.
-/
import Derived.Test.YtjdpnoboedjfhaaChecked
import GoSem.Claim
import GoSem.ClaimJoined
import GoSem.ClaimMapViews
import Derived.JoinedTies
import Derived.KernelRfl
namespace Go.Proofs.Ytjdpnoboedjfhaa
/- THE CELL 'sum', in the pinned program and in every row, IS THE sha256 OF THE DUMP (.gsa) THAT YtjdpnoboedjfhaaProg.lean LOADS. Nothing in Lean hashes anything: it is a label: what it is worth is what the hold of that sum in a sandbox is worth. -/
noncomputable def Try.pinned : Pinned := { name := "ytjdpnoboedjfhaa", sum := "f2a813c07b1e82428f647eff0bea495ba4eb553975db146a43a2f5094b53a018", checked := Try.checked }
namespace Rows
def none {H : Type} : Left H := { results := [], args := [] }

/-- 'laws.FnExactIsWrite': WHATEVER THE INPUT: true; the input reads as it did. -/
def fnExactIsWriteSpec : ChangeSpec := { name := "fnExactIsWrite", fn := fun _ => fun
  | [d] => { results := [.lit (.bool true)], args := [d] }
  | _ => none }
def fnExactIsWriteRow : OpenClaim := { program := "ytjdpnoboedjfhaa", sum := "f2a813c07b1e82428f647eff0bea495ba4eb553975db146a43a2f5094b53a018", func := "loop.example/g00583/laws.FnExactIsWrite", spec := "fnExactIsWrite", apart := false }
def FnExactIsWriteSaid : Prop := fnExactIsWriteRow.holds Try.pinned (OpenSpec.ofChange fnExactIsWriteSpec)

/-- ITS FALSE NEIGHBOUR: 'it returns false'. Refute it at one input. -/
def fnExactIsWriteWrong : ChangeSpec := { name := "fnExactIsWrite", fn := fun _ => fun
  | [d] => { results := [.lit (.bool false)], args := [d] }
  | _ => none }
def FnExactIsWriteWrongFalsely : Prop := fnExactIsWriteRow.holds Try.pinned (OpenSpec.ofChange fnExactIsWriteWrong)

/-- 'laws.FnExactConflicts': WHATEVER THE INPUT: true; the input reads as it did. -/
def fnExactConflictsSpec : ChangeSpec := { name := "fnExactConflicts", fn := fun _ => fun
  | [d1, d2] => { results := [.lit (.bool true)], args := [d1, d2] }
  | _ => none }
def fnExactConflictsRow : OpenClaim := { program := "ytjdpnoboedjfhaa", sum := "f2a813c07b1e82428f647eff0bea495ba4eb553975db146a43a2f5094b53a018", func := "loop.example/g00583/laws.FnExactConflicts", spec := "fnExactConflicts", apart := false }
def FnExactConflictsSaid : Prop := fnExactConflictsRow.holds Try.pinned (OpenSpec.ofChange fnExactConflictsSpec)

/-- ITS FALSE NEIGHBOUR: 'it returns false'. Refute it at one input. -/
def fnExactConflictsWrong : ChangeSpec := { name := "fnExactConflicts", fn := fun _ => fun
  | [d1, d2] => { results := [.lit (.bool false)], args := [d1, d2] }
  | _ => none }
def FnExactConflictsWrongFalsely : Prop := fnExactConflictsRow.holds Try.pinned (OpenSpec.ofChange fnExactConflictsWrong)

/-- 'laws.FnExactIsOp': WHATEVER THE INPUT: true; the input reads as it did. -/
def fnExactIsOpSpec : ChangeSpec := { name := "fnExactIsOp", fn := fun _ => fun
  | [d] => { results := [.lit (.bool true)], args := [d] }
  | _ => none }
def fnExactIsOpRow : OpenClaim := { program := "ytjdpnoboedjfhaa", sum := "f2a813c07b1e82428f647eff0bea495ba4eb553975db146a43a2f5094b53a018", func := "loop.example/g00583/laws.FnExactIsOp", spec := "fnExactIsOp", apart := false }
def FnExactIsOpSaid : Prop := fnExactIsOpRow.holds Try.pinned (OpenSpec.ofChange fnExactIsOpSpec)

/-- ITS FALSE NEIGHBOUR: 'it returns false'. Refute it at one input. -/
def fnExactIsOpWrong : ChangeSpec := { name := "fnExactIsOp", fn := fun _ => fun
  | [d] => { results := [.lit (.bool false)], args := [d] }
  | _ => none }
def FnExactIsOpWrongFalsely : Prop := fnExactIsOpRow.holds Try.pinned (OpenSpec.ofChange fnExactIsOpWrong)

/-- 'laws.FnExactEqualOps': WHATEVER THE INPUT: true; the input reads as it did. -/
def fnExactEqualOpsSpec : ChangeSpec := { name := "fnExactEqualOps", fn := fun _ => fun
  | [d1, d2] => { results := [.lit (.bool true)], args := [d1, d2] }
  | _ => none }
def fnExactEqualOpsRow : OpenClaim := { program := "ytjdpnoboedjfhaa", sum := "f2a813c07b1e82428f647eff0bea495ba4eb553975db146a43a2f5094b53a018", func := "loop.example/g00583/laws.FnExactEqualOps", spec := "fnExactEqualOps", unfollowed := true, recurses := true, apart := false }
def FnExactEqualOpsSaid : Prop := fnExactEqualOpsRow.holds Try.pinned (OpenSpec.ofChange fnExactEqualOpsSpec)

/-- ITS FALSE NEIGHBOUR: 'it returns false'. Refute it at one input. -/
def fnExactEqualOpsWrong : ChangeSpec := { name := "fnExactEqualOps", fn := fun _ => fun
  | [d1, d2] => { results := [.lit (.bool false)], args := [d1, d2] }
  | _ => none }
def FnExactEqualOpsWrongFalsely : Prop := fnExactEqualOpsRow.holds Try.pinned (OpenSpec.ofChange fnExactEqualOpsWrong)

/-- 'laws.FnExactCountWith': WHATEVER THE INPUT: true; the input reads as it did. -/
def fnExactCountWithSpec : ChangeSpec := { name := "fnExactCountWith", fn := fun _ => fun
  | [d1, d2, d3] => { results := [.lit (.bool true)], args := [d1, d2, d3] }
  | _ => none }
def fnExactCountWithRow : OpenClaim := { program := "ytjdpnoboedjfhaa", sum := "f2a813c07b1e82428f647eff0bea495ba4eb553975db146a43a2f5094b53a018", func := "loop.example/g00583/laws.FnExactCountWith", spec := "fnExactCountWith", unfollowed := true, recurses := true, apart := false }
def FnExactCountWithSaid : Prop := fnExactCountWithRow.holds Try.pinned (OpenSpec.ofChange fnExactCountWithSpec)

/-- ITS FALSE NEIGHBOUR: 'it returns false'. Refute it at one input. -/
def fnExactCountWithWrong : ChangeSpec := { name := "fnExactCountWith", fn := fun _ => fun
  | [d1, d2, d3] => { results := [.lit (.bool false)], args := [d1, d2, d3] }
  | _ => none }
def FnExactCountWithWrongFalsely : Prop := fnExactCountWithRow.holds Try.pinned (OpenSpec.ofChange fnExactCountWithWrong)

/-- 'laws.FnExactItemsWith': WHATEVER THE INPUT: true; the input reads as it did. -/
def fnExactItemsWithSpec : ChangeSpec := { name := "fnExactItemsWith", fn := fun _ => fun
  | [d1, d2, d3] => { results := [.lit (.bool true)], args := [d1, d2, d3] }
  | _ => none }
def fnExactItemsWithRow : OpenClaim := { program := "ytjdpnoboedjfhaa", sum := "f2a813c07b1e82428f647eff0bea495ba4eb553975db146a43a2f5094b53a018", func := "loop.example/g00583/laws.FnExactItemsWith", spec := "fnExactItemsWith", unfollowed := true, recurses := true, apart := false }
def FnExactItemsWithSaid : Prop := fnExactItemsWithRow.holds Try.pinned (OpenSpec.ofChange fnExactItemsWithSpec)

/-- ITS FALSE NEIGHBOUR: 'it returns false'. Refute it at one input. -/
def fnExactItemsWithWrong : ChangeSpec := { name := "fnExactItemsWith", fn := fun _ => fun
  | [d1, d2, d3] => { results := [.lit (.bool false)], args := [d1, d2, d3] }
  | _ => none }
def FnExactItemsWithWrongFalsely : Prop := fnExactItemsWithRow.holds Try.pinned (OpenSpec.ofChange fnExactItemsWithWrong)

/-- 'laws.FnExactFindStore': WHATEVER THE INPUT: true; the input reads as it did. -/
def fnExactFindStoreSpec : ChangeSpec := { name := "fnExactFindStore", fn := fun _ => fun
  | [d1, d2] => { results := [.lit (.bool true)], args := [d1, d2] }
  | _ => none }
def fnExactFindStoreRow : OpenClaim := { program := "ytjdpnoboedjfhaa", sum := "f2a813c07b1e82428f647eff0bea495ba4eb553975db146a43a2f5094b53a018", func := "loop.example/g00583/laws.FnExactFindStore", spec := "fnExactFindStore", unfollowed := true, recurses := true, apart := false }
def FnExactFindStoreSaid : Prop := fnExactFindStoreRow.holds Try.pinned (OpenSpec.ofChange fnExactFindStoreSpec)

/-- ITS FALSE NEIGHBOUR: 'it returns false'. Refute it at one input. -/
def fnExactFindStoreWrong : ChangeSpec := { name := "fnExactFindStore", fn := fun _ => fun
  | [d1, d2] => { results := [.lit (.bool false)], args := [d1, d2] }
  | _ => none }
def FnExactFindStoreWrongFalsely : Prop := fnExactFindStoreRow.holds Try.pinned (OpenSpec.ofChange fnExactFindStoreWrong)

/-- 'laws.FnExactEqualDatabases': WHATEVER THE INPUT: true; the input reads as it did. -/
def fnExactEqualDatabasesSpec : ChangeSpec := { name := "fnExactEqualDatabases", fn := fun _ => fun
  | [d1, d2] => { results := [.lit (.bool true)], args := [d1, d2] }
  | _ => none }
def fnExactEqualDatabasesRow : OpenClaim := { program := "ytjdpnoboedjfhaa", sum := "f2a813c07b1e82428f647eff0bea495ba4eb553975db146a43a2f5094b53a018", func := "loop.example/g00583/laws.FnExactEqualDatabases", spec := "fnExactEqualDatabases", unfollowed := true, recurses := true, apart := false }
def FnExactEqualDatabasesSaid : Prop := fnExactEqualDatabasesRow.holds Try.pinned (OpenSpec.ofChange fnExactEqualDatabasesSpec)

/-- ITS FALSE NEIGHBOUR: 'it returns false'. Refute it at one input. -/
def fnExactEqualDatabasesWrong : ChangeSpec := { name := "fnExactEqualDatabases", fn := fun _ => fun
  | [d1, d2] => { results := [.lit (.bool false)], args := [d1, d2] }
  | _ => none }
def FnExactEqualDatabasesWrongFalsely : Prop := fnExactEqualDatabasesRow.holds Try.pinned (OpenSpec.ofChange fnExactEqualDatabasesWrong)

/-- 'laws.FnExactCanStart': WHATEVER THE INPUT: true; the input reads as it did. -/
def fnExactCanStartSpec : ChangeSpec := { name := "fnExactCanStart", fn := fun _ => fun
  | [d1, d2] => { results := [.lit (.bool true)], args := [d1, d2] }
  | _ => none }
def fnExactCanStartRow : OpenClaim := { program := "ytjdpnoboedjfhaa", sum := "f2a813c07b1e82428f647eff0bea495ba4eb553975db146a43a2f5094b53a018", func := "loop.example/g00583/laws.FnExactCanStart", spec := "fnExactCanStart", apart := false }
def FnExactCanStartSaid : Prop := fnExactCanStartRow.holds Try.pinned (OpenSpec.ofChange fnExactCanStartSpec)

/-- ITS FALSE NEIGHBOUR: 'it returns false'. Refute it at one input. -/
def fnExactCanStartWrong : ChangeSpec := { name := "fnExactCanStart", fn := fun _ => fun
  | [d1, d2] => { results := [.lit (.bool false)], args := [d1, d2] }
  | _ => none }
def FnExactCanStartWrongFalsely : Prop := fnExactCanStartRow.holds Try.pinned (OpenSpec.ofChange fnExactCanStartWrong)

/-- 'laws.FnExactEqualDisks': WHATEVER THE INPUT: true; the input reads as it did. -/
def fnExactEqualDisksSpec : ChangeSpec := { name := "fnExactEqualDisks", fn := fun _ => fun
  | [d1, d2] => { results := [.lit (.bool true)], args := [d1, d2] }
  | _ => none }
def fnExactEqualDisksRow : OpenClaim := { program := "ytjdpnoboedjfhaa", sum := "f2a813c07b1e82428f647eff0bea495ba4eb553975db146a43a2f5094b53a018", func := "loop.example/g00583/laws.FnExactEqualDisks", spec := "fnExactEqualDisks", unfollowed := true, recurses := true, apart := false }
def FnExactEqualDisksSaid : Prop := fnExactEqualDisksRow.holds Try.pinned (OpenSpec.ofChange fnExactEqualDisksSpec)

/-- ITS FALSE NEIGHBOUR: 'it returns false'. Refute it at one input. -/
def fnExactEqualDisksWrong : ChangeSpec := { name := "fnExactEqualDisks", fn := fun _ => fun
  | [d1, d2] => { results := [.lit (.bool false)], args := [d1, d2] }
  | _ => none }
def FnExactEqualDisksWrongFalsely : Prop := fnExactEqualDisksRow.holds Try.pinned (OpenSpec.ofChange fnExactEqualDisksWrong)

/-- 'laws.FnExactEqualQueues': WHATEVER THE INPUT: true; the input reads as it did. -/
def fnExactEqualQueuesSpec : ChangeSpec := { name := "fnExactEqualQueues", fn := fun _ => fun
  | [d1, d2] => { results := [.lit (.bool true)], args := [d1, d2] }
  | _ => none }
def fnExactEqualQueuesRow : OpenClaim := { program := "ytjdpnoboedjfhaa", sum := "f2a813c07b1e82428f647eff0bea495ba4eb553975db146a43a2f5094b53a018", func := "loop.example/g00583/laws.FnExactEqualQueues", spec := "fnExactEqualQueues", unfollowed := true, recurses := true, apart := false }
def FnExactEqualQueuesSaid : Prop := fnExactEqualQueuesRow.holds Try.pinned (OpenSpec.ofChange fnExactEqualQueuesSpec)

/-- ITS FALSE NEIGHBOUR: 'it returns false'. Refute it at one input. -/
def fnExactEqualQueuesWrong : ChangeSpec := { name := "fnExactEqualQueues", fn := fun _ => fun
  | [d1, d2] => { results := [.lit (.bool false)], args := [d1, d2] }
  | _ => none }
def FnExactEqualQueuesWrongFalsely : Prop := fnExactEqualQueuesRow.holds Try.pinned (OpenSpec.ofChange fnExactEqualQueuesWrong)

/-- 'laws.FnExactSizeDatabase': WHATEVER THE INPUT: true; the input reads as it did. -/
def fnExactSizeDatabaseSpec : ChangeSpec := { name := "fnExactSizeDatabase", fn := fun _ => fun
  | [d] => { results := [.lit (.bool true)], args := [d] }
  | _ => none }
def fnExactSizeDatabaseRow : OpenClaim := { program := "ytjdpnoboedjfhaa", sum := "f2a813c07b1e82428f647eff0bea495ba4eb553975db146a43a2f5094b53a018", func := "loop.example/g00583/laws.FnExactSizeDatabase", spec := "fnExactSizeDatabase", apart := false }
def FnExactSizeDatabaseSaid : Prop := fnExactSizeDatabaseRow.holds Try.pinned (OpenSpec.ofChange fnExactSizeDatabaseSpec)

/-- ITS FALSE NEIGHBOUR: 'it returns false'. Refute it at one input. -/
def fnExactSizeDatabaseWrong : ChangeSpec := { name := "fnExactSizeDatabase", fn := fun _ => fun
  | [d] => { results := [.lit (.bool false)], args := [d] }
  | _ => none }
def FnExactSizeDatabaseWrongFalsely : Prop := fnExactSizeDatabaseRow.holds Try.pinned (OpenSpec.ofChange fnExactSizeDatabaseWrong)

/- THE SECOND FORM. 'bulk': how many values and letters a reading holds, each counted each time it is reached (what is shared counts as often as it is met; a slice's spare places count too). A statement '..UptoSaid' is the law's where the arguments, and the package variables that the reading takes, are together of bulk at most 1048576: NARROWER than '..Said'. Prove '..Said' where nothing that the law and all that it calls make is longer than what came in: it says more and counts as full. Else prove '..UptoSaid'. A law counts once. -/
mutual
def uptoBulk {H : Type} : DataW H → Nat
  | .lit (.string bytes) => bytes.length + 1
  | .lit _ => 1
  | .nil => 1
  | .ptr d => uptoBulk d + 1
  | .slice elems spare => uptoBulkAll elems + uptoBulkAll spare + 1
  | .agg parts => uptoBulkAll parts + 1
  | .iface _ d => uptoBulk d + 1
  | .map entries => uptoBulkEntries entries + 1
  | .held _ => 1
def uptoBulkAll {H : Type} : List (DataW H) → Nat
  | [] => 0
  | d :: r => uptoBulk d + uptoBulkAll r
def uptoBulkEntries {H : Type} : List (Lit × DataW H) → Nat
  | [] => 0
  | x :: r => uptoBulkEntry x + uptoBulkEntries r
def uptoBulkEntry {H : Type} : Lit × DataW H → Nat
  | (.string bytes, d) => bytes.length + uptoBulk d + 1
  | (_, d) => uptoBulk d + 1
 end
def uptoSmall : (H : Type) → List (DataW H) → Bool := fun _ ds => decide (uptoBulkAll ds ≤ 1048576)
def OpenSpec.upto (s : _root_.Go.ChangeSpec) : _root_.Go.OpenSpec := { _root_.Go.OpenSpec.ofChange s with cond := some uptoSmall }

/-- 'laws.FnExactIsWrite', WHERE WHAT IT READS IS OF BULK AT MOST 1048576: true; the input reads as it did. -/
def fnExactIsWriteUptoRow : OpenClaim := { program := "ytjdpnoboedjfhaa", sum := "f2a813c07b1e82428f647eff0bea495ba4eb553975db146a43a2f5094b53a018", func := "loop.example/g00583/laws.FnExactIsWrite", spec := "fnExactIsWrite", apart := false, narrowed := true }
def FnExactIsWriteUptoSaid : Prop := fnExactIsWriteUptoRow.holds Try.pinned (OpenSpec.upto fnExactIsWriteSpec)

/-- 'laws.FnExactConflicts', WHERE WHAT IT READS IS OF BULK AT MOST 1048576: true; the input reads as it did. -/
def fnExactConflictsUptoRow : OpenClaim := { program := "ytjdpnoboedjfhaa", sum := "f2a813c07b1e82428f647eff0bea495ba4eb553975db146a43a2f5094b53a018", func := "loop.example/g00583/laws.FnExactConflicts", spec := "fnExactConflicts", apart := false, narrowed := true }
def FnExactConflictsUptoSaid : Prop := fnExactConflictsUptoRow.holds Try.pinned (OpenSpec.upto fnExactConflictsSpec)

/-- 'laws.FnExactIsOp', WHERE WHAT IT READS IS OF BULK AT MOST 1048576: true; the input reads as it did. -/
def fnExactIsOpUptoRow : OpenClaim := { program := "ytjdpnoboedjfhaa", sum := "f2a813c07b1e82428f647eff0bea495ba4eb553975db146a43a2f5094b53a018", func := "loop.example/g00583/laws.FnExactIsOp", spec := "fnExactIsOp", apart := false, narrowed := true }
def FnExactIsOpUptoSaid : Prop := fnExactIsOpUptoRow.holds Try.pinned (OpenSpec.upto fnExactIsOpSpec)

/-- 'laws.FnExactEqualOps', WHERE WHAT IT READS IS OF BULK AT MOST 1048576: true; the input reads as it did. -/
def fnExactEqualOpsUptoRow : OpenClaim := { program := "ytjdpnoboedjfhaa", sum := "f2a813c07b1e82428f647eff0bea495ba4eb553975db146a43a2f5094b53a018", func := "loop.example/g00583/laws.FnExactEqualOps", spec := "fnExactEqualOps", unfollowed := true, recurses := true, apart := false, narrowed := true }
def FnExactEqualOpsUptoSaid : Prop := fnExactEqualOpsUptoRow.holds Try.pinned (OpenSpec.upto fnExactEqualOpsSpec)

/-- 'laws.FnExactCountWith', WHERE WHAT IT READS IS OF BULK AT MOST 1048576: true; the input reads as it did. -/
def fnExactCountWithUptoRow : OpenClaim := { program := "ytjdpnoboedjfhaa", sum := "f2a813c07b1e82428f647eff0bea495ba4eb553975db146a43a2f5094b53a018", func := "loop.example/g00583/laws.FnExactCountWith", spec := "fnExactCountWith", unfollowed := true, recurses := true, apart := false, narrowed := true }
def FnExactCountWithUptoSaid : Prop := fnExactCountWithUptoRow.holds Try.pinned (OpenSpec.upto fnExactCountWithSpec)

/-- 'laws.FnExactItemsWith', WHERE WHAT IT READS IS OF BULK AT MOST 1048576: true; the input reads as it did. -/
def fnExactItemsWithUptoRow : OpenClaim := { program := "ytjdpnoboedjfhaa", sum := "f2a813c07b1e82428f647eff0bea495ba4eb553975db146a43a2f5094b53a018", func := "loop.example/g00583/laws.FnExactItemsWith", spec := "fnExactItemsWith", unfollowed := true, recurses := true, apart := false, narrowed := true }
def FnExactItemsWithUptoSaid : Prop := fnExactItemsWithUptoRow.holds Try.pinned (OpenSpec.upto fnExactItemsWithSpec)

/-- 'laws.FnExactFindStore', WHERE WHAT IT READS IS OF BULK AT MOST 1048576: true; the input reads as it did. -/
def fnExactFindStoreUptoRow : OpenClaim := { program := "ytjdpnoboedjfhaa", sum := "f2a813c07b1e82428f647eff0bea495ba4eb553975db146a43a2f5094b53a018", func := "loop.example/g00583/laws.FnExactFindStore", spec := "fnExactFindStore", unfollowed := true, recurses := true, apart := false, narrowed := true }
def FnExactFindStoreUptoSaid : Prop := fnExactFindStoreUptoRow.holds Try.pinned (OpenSpec.upto fnExactFindStoreSpec)

/-- 'laws.FnExactEqualDatabases', WHERE WHAT IT READS IS OF BULK AT MOST 1048576: true; the input reads as it did. -/
def fnExactEqualDatabasesUptoRow : OpenClaim := { program := "ytjdpnoboedjfhaa", sum := "f2a813c07b1e82428f647eff0bea495ba4eb553975db146a43a2f5094b53a018", func := "loop.example/g00583/laws.FnExactEqualDatabases", spec := "fnExactEqualDatabases", unfollowed := true, recurses := true, apart := false, narrowed := true }
def FnExactEqualDatabasesUptoSaid : Prop := fnExactEqualDatabasesUptoRow.holds Try.pinned (OpenSpec.upto fnExactEqualDatabasesSpec)

/-- 'laws.FnExactCanStart', WHERE WHAT IT READS IS OF BULK AT MOST 1048576: true; the input reads as it did. -/
def fnExactCanStartUptoRow : OpenClaim := { program := "ytjdpnoboedjfhaa", sum := "f2a813c07b1e82428f647eff0bea495ba4eb553975db146a43a2f5094b53a018", func := "loop.example/g00583/laws.FnExactCanStart", spec := "fnExactCanStart", apart := false, narrowed := true }
def FnExactCanStartUptoSaid : Prop := fnExactCanStartUptoRow.holds Try.pinned (OpenSpec.upto fnExactCanStartSpec)

/-- 'laws.FnExactEqualDisks', WHERE WHAT IT READS IS OF BULK AT MOST 1048576: true; the input reads as it did. -/
def fnExactEqualDisksUptoRow : OpenClaim := { program := "ytjdpnoboedjfhaa", sum := "f2a813c07b1e82428f647eff0bea495ba4eb553975db146a43a2f5094b53a018", func := "loop.example/g00583/laws.FnExactEqualDisks", spec := "fnExactEqualDisks", unfollowed := true, recurses := true, apart := false, narrowed := true }
def FnExactEqualDisksUptoSaid : Prop := fnExactEqualDisksUptoRow.holds Try.pinned (OpenSpec.upto fnExactEqualDisksSpec)

/-- 'laws.FnExactEqualQueues', WHERE WHAT IT READS IS OF BULK AT MOST 1048576: true; the input reads as it did. -/
def fnExactEqualQueuesUptoRow : OpenClaim := { program := "ytjdpnoboedjfhaa", sum := "f2a813c07b1e82428f647eff0bea495ba4eb553975db146a43a2f5094b53a018", func := "loop.example/g00583/laws.FnExactEqualQueues", spec := "fnExactEqualQueues", unfollowed := true, recurses := true, apart := false, narrowed := true }
def FnExactEqualQueuesUptoSaid : Prop := fnExactEqualQueuesUptoRow.holds Try.pinned (OpenSpec.upto fnExactEqualQueuesSpec)

/-- 'laws.FnExactSizeDatabase', WHERE WHAT IT READS IS OF BULK AT MOST 1048576: true; the input reads as it did. -/
def fnExactSizeDatabaseUptoRow : OpenClaim := { program := "ytjdpnoboedjfhaa", sum := "f2a813c07b1e82428f647eff0bea495ba4eb553975db146a43a2f5094b53a018", func := "loop.example/g00583/laws.FnExactSizeDatabase", spec := "fnExactSizeDatabase", apart := false, narrowed := true }
def FnExactSizeDatabaseUptoSaid : Prop := fnExactSizeDatabaseUptoRow.holds Try.pinned (OpenSpec.upto fnExactSizeDatabaseSpec)

end Rows
end Go.Proofs.Ytjdpnoboedjfhaa
