/-
  No cell of these rows narrows 'for every input' (looked for: loops, veiled, ifaces, maps, wideKeys, modest, calm, conditions, laid).
  DERIVED. THE GIVEN ROWS OF THIS SEAT. 4 by the template 'for every input the law returns true; each argument reads behind the call as it read before'; 0 by the template 'total and deterministic' (their statements: YtmnimdnmedldgaaTotals.lean).
  GIVEN WITH THE SEED: the statements are not yours to turn. If you find one false, say at which input.
  Laid BY PROGRAM, IN A SANDBOX (cutbox-rows.mjs): the forced cells as the released guide's own fill.sh prints them over the translation 7d324aa407b94c3f… (all of the seat's roots in one cut). By AI agents, Wed Nov 11 2026. No macro, syntax, notation, axiom, sorry.
-/
import Derived.Test.YtmnimdnmedldgaaChecked
import GoSem.Claim
import GoSem.ClaimJoined
import GoSem.ClaimMapViews
import Derived.JoinedTies
import Derived.KernelRfl
namespace Go.Proofs.Ytmnimdnmedldgaa
/- THE CELL 'sum', in the pinned program and in every row, IS THE sha256 OF THE DUMP (.gsa) THAT YtmnimdnmedldgaaProg.lean LOADS. Nothing in Lean hashes anything: it is a label: what it is worth is what the hold of that sum in a sandbox is worth. -/
noncomputable def Try.pinned : Pinned := { name := "ytmnimdnmedldgaa", sum := "7d324aa407b94c3fd05190c56794bf611d871519c38c2b4945d5195f33e1c93b", checked := Try.checked }
namespace Rows
def none {H : Type} : Left H := { results := [], args := [] }

/-- 'laws.FnCursors': WHATEVER THE INPUT: true; the input reads as it did. -/
def fnCursorsSpec : ChangeSpec := { name := "fnCursors", fn := fun _ => fun
  | [d] => { results := [.lit (.bool true)], args := [d] }
  | _ => none }
def fnCursorsRow : OpenClaim := { program := "ytmnimdnmedldgaa", sum := "7d324aa407b94c3fd05190c56794bf611d871519c38c2b4945d5195f33e1c93b", func := "loop.example/g00583/laws.FnCursors", spec := "fnCursors", inPlace := ["internal/bytealg.abigen_runtime_cmpstring"], apart := false }
def FnCursorsSaid : Prop := fnCursorsRow.holds Try.pinned (OpenSpec.ofChange fnCursorsSpec)

/-- ITS FALSE NEIGHBOUR: 'it returns false'. Refute it at one input. -/
def fnCursorsWrong : ChangeSpec := { name := "fnCursors", fn := fun _ => fun
  | [d] => { results := [.lit (.bool false)], args := [d] }
  | _ => none }
def FnCursorsWrongFalsely : Prop := fnCursorsRow.holds Try.pinned (OpenSpec.ofChange fnCursorsWrong)

/-- 'laws.FnDeletions': WHATEVER THE INPUT: true; the input reads as it did. -/
def fnDeletionsSpec : ChangeSpec := { name := "fnDeletions", fn := fun _ => fun
  | [d] => { results := [.lit (.bool true)], args := [d] }
  | _ => none }
def fnDeletionsRow : OpenClaim := { program := "ytmnimdnmedldgaa", sum := "7d324aa407b94c3fd05190c56794bf611d871519c38c2b4945d5195f33e1c93b", func := "loop.example/g00583/laws.FnDeletions", spec := "fnDeletions", inPlace := ["internal/bytealg.abigen_runtime_cmpstring"], unfollowed := true, recurses := true, apart := false }
def FnDeletionsSaid : Prop := fnDeletionsRow.holds Try.pinned (OpenSpec.ofChange fnDeletionsSpec)

/-- ITS FALSE NEIGHBOUR: 'it returns false'. Refute it at one input. -/
def fnDeletionsWrong : ChangeSpec := { name := "fnDeletions", fn := fun _ => fun
  | [d] => { results := [.lit (.bool false)], args := [d] }
  | _ => none }
def FnDeletionsWrongFalsely : Prop := fnDeletionsRow.holds Try.pinned (OpenSpec.ofChange fnDeletionsWrong)

/-- 'laws.FnIndexes': WHATEVER THE INPUT: true; the input reads as it did. -/
def fnIndexesSpec : ChangeSpec := { name := "fnIndexes", fn := fun _ => fun
  | [d] => { results := [.lit (.bool true)], args := [d] }
  | _ => none }
def fnIndexesRow : OpenClaim := { program := "ytmnimdnmedldgaa", sum := "7d324aa407b94c3fd05190c56794bf611d871519c38c2b4945d5195f33e1c93b", func := "loop.example/g00583/laws.FnIndexes", spec := "fnIndexes", inPlace := ["internal/bytealg.abigen_runtime_cmpstring", "slices.overlaps[loop.example/g00583/impl.Item]"], unfollowed := true, recurses := true, apart := false }
def FnIndexesSaid : Prop := fnIndexesRow.holds Try.pinned (OpenSpec.ofChange fnIndexesSpec)

/-- ITS FALSE NEIGHBOUR: 'it returns false'. Refute it at one input. -/
def fnIndexesWrong : ChangeSpec := { name := "fnIndexes", fn := fun _ => fun
  | [d] => { results := [.lit (.bool false)], args := [d] }
  | _ => none }
def FnIndexesWrongFalsely : Prop := fnIndexesRow.holds Try.pinned (OpenSpec.ofChange fnIndexesWrong)

/-- 'laws.FnStores': WHATEVER THE INPUT: true; the input reads as it did. -/
def fnStoresSpec : ChangeSpec := { name := "fnStores", fn := fun _ => fun
  | [d] => { results := [.lit (.bool true)], args := [d] }
  | _ => none }
def fnStoresRow : OpenClaim := { program := "ytmnimdnmedldgaa", sum := "7d324aa407b94c3fd05190c56794bf611d871519c38c2b4945d5195f33e1c93b", func := "loop.example/g00583/laws.FnStores", spec := "fnStores", inPlace := ["internal/bytealg.abigen_runtime_cmpstring", "slices.overlaps[loop.example/g00583/impl.Item]"], unfollowed := true, recurses := true, apart := false }
def FnStoresSaid : Prop := fnStoresRow.holds Try.pinned (OpenSpec.ofChange fnStoresSpec)

/-- ITS FALSE NEIGHBOUR: 'it returns false'. Refute it at one input. -/
def fnStoresWrong : ChangeSpec := { name := "fnStores", fn := fun _ => fun
  | [d] => { results := [.lit (.bool false)], args := [d] }
  | _ => none }
def FnStoresWrongFalsely : Prop := fnStoresRow.holds Try.pinned (OpenSpec.ofChange fnStoresWrong)

/- THE SECOND FORM. 'bulk': how many values and letters a reading holds, each counted each time it is reached (what is shared counts as often as it is met; a slice's spare places count too). A statement '..UptoSaid' is the law's where the arguments, and the package variables that the reading takes, are together of bulk at most 1048576: NARROWER than '..Said'. Prove '..Said' where nothing that the law and all that it calls make is longer than what came in: it says more and counts as full. Else prove '..UptoSaid'. A law counts once. -/
mutual
def uptoBulk {H : Type} : DataW H → Nat
  | .lit (.string bytes) => bytes.length + 1
  | .lit _ => 1
  | .nil => 1
  | .ptr d => uptoBulk d + 1
  | .slice elems spare => uptoBulkAll elems + uptoBulkAll spare + 1
  | .agg parts => uptoBulkAll parts + 1
  | .iface _ d => uptoBulk d + 1
  | .map entries => uptoBulkEntries entries + 1
  | .held _ => 1
def uptoBulkAll {H : Type} : List (DataW H) → Nat
  | [] => 0
  | d :: r => uptoBulk d + uptoBulkAll r
def uptoBulkEntries {H : Type} : List (Lit × DataW H) → Nat
  | [] => 0
  | x :: r => uptoBulkEntry x + uptoBulkEntries r
def uptoBulkEntry {H : Type} : Lit × DataW H → Nat
  | (.string bytes, d) => bytes.length + uptoBulk d + 1
  | (_, d) => uptoBulk d + 1
 end
def uptoSmall : (H : Type) → List (DataW H) → Bool := fun _ ds => decide (uptoBulkAll ds ≤ 1048576)
def OpenSpec.upto (s : _root_.Go.ChangeSpec) : _root_.Go.OpenSpec := { _root_.Go.OpenSpec.ofChange s with cond := some uptoSmall }

/-- 'laws.FnCursors', WHERE WHAT IT READS IS OF BULK AT MOST 1048576: true; the input reads as it did. -/
def fnCursorsUptoRow : OpenClaim := { program := "ytmnimdnmedldgaa", sum := "7d324aa407b94c3fd05190c56794bf611d871519c38c2b4945d5195f33e1c93b", func := "loop.example/g00583/laws.FnCursors", spec := "fnCursors", inPlace := ["internal/bytealg.abigen_runtime_cmpstring"], apart := false, narrowed := true }
def FnCursorsUptoSaid : Prop := fnCursorsUptoRow.holds Try.pinned (OpenSpec.upto fnCursorsSpec)

/-- 'laws.FnDeletions', WHERE WHAT IT READS IS OF BULK AT MOST 1048576: true; the input reads as it did. -/
def fnDeletionsUptoRow : OpenClaim := { program := "ytmnimdnmedldgaa", sum := "7d324aa407b94c3fd05190c56794bf611d871519c38c2b4945d5195f33e1c93b", func := "loop.example/g00583/laws.FnDeletions", spec := "fnDeletions", inPlace := ["internal/bytealg.abigen_runtime_cmpstring"], unfollowed := true, recurses := true, apart := false, narrowed := true }
def FnDeletionsUptoSaid : Prop := fnDeletionsUptoRow.holds Try.pinned (OpenSpec.upto fnDeletionsSpec)

/-- 'laws.FnIndexes', WHERE WHAT IT READS IS OF BULK AT MOST 1048576: true; the input reads as it did. -/
def fnIndexesUptoRow : OpenClaim := { program := "ytmnimdnmedldgaa", sum := "7d324aa407b94c3fd05190c56794bf611d871519c38c2b4945d5195f33e1c93b", func := "loop.example/g00583/laws.FnIndexes", spec := "fnIndexes", inPlace := ["internal/bytealg.abigen_runtime_cmpstring", "slices.overlaps[loop.example/g00583/impl.Item]"], unfollowed := true, recurses := true, apart := false, narrowed := true }
def FnIndexesUptoSaid : Prop := fnIndexesUptoRow.holds Try.pinned (OpenSpec.upto fnIndexesSpec)

/-- 'laws.FnStores', WHERE WHAT IT READS IS OF BULK AT MOST 1048576: true; the input reads as it did. -/
def fnStoresUptoRow : OpenClaim := { program := "ytmnimdnmedldgaa", sum := "7d324aa407b94c3fd05190c56794bf611d871519c38c2b4945d5195f33e1c93b", func := "loop.example/g00583/laws.FnStores", spec := "fnStores", inPlace := ["internal/bytealg.abigen_runtime_cmpstring", "slices.overlaps[loop.example/g00583/impl.Item]"], unfollowed := true, recurses := true, apart := false, narrowed := true }
def FnStoresUptoSaid : Prop := fnStoresUptoRow.holds Try.pinned (OpenSpec.upto fnStoresSpec)

end Rows
end Go.Proofs.Ytmnimdnmedldgaa
