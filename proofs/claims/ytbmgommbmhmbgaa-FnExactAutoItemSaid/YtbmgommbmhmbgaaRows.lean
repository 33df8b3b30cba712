/-
  No cell of these rows narrows 'for every input' (looked for: loops, veiled, ifaces, maps, wideKeys, modest, calm, conditions, laid).
  DERIVED. THE GIVEN ROWS OF THIS SEAT. 8 by the template 'for every input the law returns true; each argument reads behind the call as it read before'; 0 by the template 'total and deterministic' (their statements: YtbmgommbmhmbgaaTotals.lean).
  GIVEN WITH THE SEED: the statements are not yours to turn. If you find one false, say at which input.
  Laid BY PROGRAM, IN A SANDBOX (cutbox-rows.mjs): the forced cells as the released guide's own fill.sh prints them over the translation a8b098f5c5531c30… (all of the seat's roots in one cut). By AI agents, Wed Nov 11 2026. No macro, syntax, notation, axiom, sorry.
-/
import Derived.Test.YtbmgommbmhmbgaaChecked
import GoSem.Claim
import GoSem.ClaimJoined
import GoSem.ClaimMapViews
import Derived.JoinedTies
import Derived.KernelRfl
namespace Go.Proofs.Ytbmgommbmhmbgaa
/- THE CELL 'sum', in the pinned program and in every row, IS THE sha256 OF THE DUMP (.gsa) THAT YtbmgommbmhmbgaaProg.lean LOADS. Nothing in Lean hashes anything: it is a label: what it is worth is what the hold of that sum in a sandbox is worth. -/
noncomputable def Try.pinned : Pinned := { name := "ytbmgommbmhmbgaa", sum := "a8b098f5c5531c300fc0b6b57e4fe55f0a030bd1273a151fa9f85d00967a5431", checked := Try.checked }
namespace Rows
def none {H : Type} : Left H := { results := [], args := [] }

/-- 'laws.FnExactItemsWith': WHATEVER THE INPUT: true; the input reads as it did. -/
def fnExactItemsWithSpec : ChangeSpec := { name := "fnExactItemsWith", fn := fun _ => fun
  | [d1, d2, d3] => { results := [.lit (.bool true)], args := [d1, d2, d3] }
  | _ => none }
def fnExactItemsWithRow : OpenClaim := { program := "ytbmgommbmhmbgaa", sum := "a8b098f5c5531c300fc0b6b57e4fe55f0a030bd1273a151fa9f85d00967a5431", func := "loop.example/g00583/laws.FnExactItemsWith", spec := "fnExactItemsWith", unfollowed := true, recurses := true, apart := false }
def FnExactItemsWithSaid : Prop := fnExactItemsWithRow.holds Try.pinned (OpenSpec.ofChange fnExactItemsWithSpec)

/-- ITS FALSE NEIGHBOUR: 'it returns false'. Refute it at one input. -/
def fnExactItemsWithWrong : ChangeSpec := { name := "fnExactItemsWith", fn := fun _ => fun
  | [d1, d2, d3] => { results := [.lit (.bool false)], args := [d1, d2, d3] }
  | _ => none }
def FnExactItemsWithWrongFalsely : Prop := fnExactItemsWithRow.holds Try.pinned (OpenSpec.ofChange fnExactItemsWithWrong)

/-- 'laws.FnExactCursorNext': WHATEVER THE INPUT: true; the input reads as it did. -/
def fnExactCursorNextSpec : ChangeSpec := { name := "fnExactCursorNext", fn := fun _ => fun
  | [d1, d2] => { results := [.lit (.bool true)], args := [d1, d2] }
  | _ => none }
def fnExactCursorNextRow : OpenClaim := { program := "ytbmgommbmhmbgaa", sum := "a8b098f5c5531c300fc0b6b57e4fe55f0a030bd1273a151fa9f85d00967a5431", func := "loop.example/g00583/laws.FnExactCursorNext", spec := "fnExactCursorNext", inPlace := ["internal/bytealg.abigen_runtime_cmpstring"], apart := false }
def FnExactCursorNextSaid : Prop := fnExactCursorNextRow.holds Try.pinned (OpenSpec.ofChange fnExactCursorNextSpec)

/-- ITS FALSE NEIGHBOUR: 'it returns false'. Refute it at one input. -/
def fnExactCursorNextWrong : ChangeSpec := { name := "fnExactCursorNext", fn := fun _ => fun
  | [d1, d2] => { results := [.lit (.bool false)], args := [d1, d2] }
  | _ => none }
def FnExactCursorNextWrongFalsely : Prop := fnExactCursorNextRow.holds Try.pinned (OpenSpec.ofChange fnExactCursorNextWrong)

/-- 'laws.FnExactWalkStore': WHATEVER THE INPUT: true; the input reads as it did. -/
def fnExactWalkStoreSpec : ChangeSpec := { name := "fnExactWalkStore", fn := fun _ => fun
  | [d1, d2] => { results := [.lit (.bool true)], args := [d1, d2] }
  | _ => none }
def fnExactWalkStoreRow : OpenClaim := { program := "ytbmgommbmhmbgaa", sum := "a8b098f5c5531c300fc0b6b57e4fe55f0a030bd1273a151fa9f85d00967a5431", func := "loop.example/g00583/laws.FnExactWalkStore", spec := "fnExactWalkStore", inPlace := ["internal/bytealg.abigen_runtime_cmpstring"], apart := false }
def FnExactWalkStoreSaid : Prop := fnExactWalkStoreRow.holds Try.pinned (OpenSpec.ofChange fnExactWalkStoreSpec)

/-- ITS FALSE NEIGHBOUR: 'it returns false'. Refute it at one input. -/
def fnExactWalkStoreWrong : ChangeSpec := { name := "fnExactWalkStore", fn := fun _ => fun
  | [d1, d2] => { results := [.lit (.bool false)], args := [d1, d2] }
  | _ => none }
def FnExactWalkStoreWrongFalsely : Prop := fnExactWalkStoreRow.holds Try.pinned (OpenSpec.ofChange fnExactWalkStoreWrong)

/-- 'laws.FnExactIndexOn': WHATEVER THE INPUT: true; the input reads as it did. -/
def fnExactIndexOnSpec : ChangeSpec := { name := "fnExactIndexOn", fn := fun _ => fun
  | [d1, d2] => { results := [.lit (.bool true)], args := [d1, d2] }
  | _ => none }
def fnExactIndexOnRow : OpenClaim := { program := "ytbmgommbmhmbgaa", sum := "a8b098f5c5531c300fc0b6b57e4fe55f0a030bd1273a151fa9f85d00967a5431", func := "loop.example/g00583/laws.FnExactIndexOn", spec := "fnExactIndexOn", inPlace := ["internal/bytealg.abigen_runtime_cmpstring", "slices.overlaps[loop.example/g00583/impl.Item]"], unfollowed := true, recurses := true, apart := false }
def FnExactIndexOnSaid : Prop := fnExactIndexOnRow.holds Try.pinned (OpenSpec.ofChange fnExactIndexOnSpec)

/-- ITS FALSE NEIGHBOUR: 'it returns false'. Refute it at one input. -/
def fnExactIndexOnWrong : ChangeSpec := { name := "fnExactIndexOn", fn := fun _ => fun
  | [d1, d2] => { results := [.lit (.bool false)], args := [d1, d2] }
  | _ => none }
def FnExactIndexOnWrongFalsely : Prop := fnExactIndexOnRow.holds Try.pinned (OpenSpec.ofChange fnExactIndexOnWrong)

/-- 'laws.FnExactUniqueFault': WHATEVER THE INPUT: true; the input reads as it did. -/
def fnExactUniqueFaultSpec : ChangeSpec := { name := "fnExactUniqueFault", fn := fun _ => fun
  | [d1, d2] => { results := [.lit (.bool true)], args := [d1, d2] }
  | _ => none }
def fnExactUniqueFaultRow : OpenClaim := { program := "ytbmgommbmhmbgaa", sum := "a8b098f5c5531c300fc0b6b57e4fe55f0a030bd1273a151fa9f85d00967a5431", func := "loop.example/g00583/laws.FnExactUniqueFault", spec := "fnExactUniqueFault", inPlace := ["internal/bytealg.abigen_runtime_cmpstring", "slices.overlaps[loop.example/g00583/impl.Item]"], unfollowed := true, recurses := true, apart := false }
def FnExactUniqueFaultSaid : Prop := fnExactUniqueFaultRow.holds Try.pinned (OpenSpec.ofChange fnExactUniqueFaultSpec)

/-- ITS FALSE NEIGHBOUR: 'it returns false'. Refute it at one input. -/
def fnExactUniqueFaultWrong : ChangeSpec := { name := "fnExactUniqueFault", fn := fun _ => fun
  | [d1, d2] => { results := [.lit (.bool false)], args := [d1, d2] }
  | _ => none }
def FnExactUniqueFaultWrongFalsely : Prop := fnExactUniqueFaultRow.holds Try.pinned (OpenSpec.ofChange fnExactUniqueFaultWrong)

/-- 'laws.FnExactPutItem': WHATEVER THE INPUT: true; the input reads as it did. -/
def fnExactPutItemSpec : ChangeSpec := { name := "fnExactPutItem", fn := fun _ => fun
  | [d1, d2, d3] => { results := [.lit (.bool true)], args := [d1, d2, d3] }
  | _ => none }
def fnExactPutItemRow : OpenClaim := { program := "ytbmgommbmhmbgaa", sum := "a8b098f5c5531c300fc0b6b57e4fe55f0a030bd1273a151fa9f85d00967a5431", func := "loop.example/g00583/laws.FnExactPutItem", spec := "fnExactPutItem", inPlace := ["internal/bytealg.abigen_runtime_cmpstring", "slices.overlaps[loop.example/g00583/impl.Item]"], unfollowed := true, recurses := true, apart := false }
def FnExactPutItemSaid : Prop := fnExactPutItemRow.holds Try.pinned (OpenSpec.ofChange fnExactPutItemSpec)

/-- ITS FALSE NEIGHBOUR: 'it returns false'. Refute it at one input. -/
def fnExactPutItemWrong : ChangeSpec := { name := "fnExactPutItem", fn := fun _ => fun
  | [d1, d2, d3] => { results := [.lit (.bool false)], args := [d1, d2, d3] }
  | _ => none }
def FnExactPutItemWrongFalsely : Prop := fnExactPutItemRow.holds Try.pinned (OpenSpec.ofChange fnExactPutItemWrong)

/-- 'laws.FnExactAddItem': WHATEVER THE INPUT: true; the input reads as it did. -/
def fnExactAddItemSpec : ChangeSpec := { name := "fnExactAddItem", fn := fun _ => fun
  | [d1, d2, d3] => { results := [.lit (.bool true)], args := [d1, d2, d3] }
  | _ => none }
def fnExactAddItemRow : OpenClaim := { program := "ytbmgommbmhmbgaa", sum := "a8b098f5c5531c300fc0b6b57e4fe55f0a030bd1273a151fa9f85d00967a5431", func := "loop.example/g00583/laws.FnExactAddItem", spec := "fnExactAddItem", inPlace := ["internal/bytealg.abigen_runtime_cmpstring", "slices.overlaps[loop.example/g00583/impl.Item]"], unfollowed := true, recurses := true, apart := false }
def FnExactAddItemSaid : Prop := fnExactAddItemRow.holds Try.pinned (OpenSpec.ofChange fnExactAddItemSpec)

/-- ITS FALSE NEIGHBOUR: 'it returns false'. Refute it at one input. -/
def fnExactAddItemWrong : ChangeSpec := { name := "fnExactAddItem", fn := fun _ => fun
  | [d1, d2, d3] => { results := [.lit (.bool false)], args := [d1, d2, d3] }
  | _ => none }
def FnExactAddItemWrongFalsely : Prop := fnExactAddItemRow.holds Try.pinned (OpenSpec.ofChange fnExactAddItemWrong)

/-- 'laws.FnExactAutoItem': WHATEVER THE INPUT: true; the input reads as it did. -/
def fnExactAutoItemSpec : ChangeSpec := { name := "fnExactAutoItem", fn := fun _ => fun
  | [d1, d2] => { results := [.lit (.bool true)], args := [d1, d2] }
  | _ => none }
def fnExactAutoItemRow : OpenClaim := { program := "ytbmgommbmhmbgaa", sum := "a8b098f5c5531c300fc0b6b57e4fe55f0a030bd1273a151fa9f85d00967a5431", func := "loop.example/g00583/laws.FnExactAutoItem", spec := "fnExactAutoItem", inPlace := ["internal/bytealg.abigen_runtime_cmpstring", "slices.overlaps[loop.example/g00583/impl.Item]"], unfollowed := true, recurses := true, apart := false }
def FnExactAutoItemSaid : Prop := fnExactAutoItemRow.holds Try.pinned (OpenSpec.ofChange fnExactAutoItemSpec)

/-- ITS FALSE NEIGHBOUR: 'it returns false'. Refute it at one input. -/
def fnExactAutoItemWrong : ChangeSpec := { name := "fnExactAutoItem", fn := fun _ => fun
  | [d1, d2] => { results := [.lit (.bool false)], args := [d1, d2] }
  | _ => none }
def FnExactAutoItemWrongFalsely : Prop := fnExactAutoItemRow.holds Try.pinned (OpenSpec.ofChange fnExactAutoItemWrong)

/- THE SECOND FORM. 'bulk': how many values and letters a reading holds, each counted each time it is reached (what is shared counts as often as it is met; a slice's spare places count too). A statement '..UptoSaid' is the law's where the arguments, and the package variables that the reading takes, are together of bulk at most 1048576: NARROWER than '..Said'. Prove '..Said' where nothing that the law and all that it calls make is longer than what came in: it says more and counts as full. Else prove '..UptoSaid'. A law counts once. -/
mutual
def uptoBulk {H : Type} : DataW H → Nat
  | .lit (.string bytes) => bytes.length + 1
  | .lit _ => 1
  | .nil => 1
  | .ptr d => uptoBulk d + 1
  | .slice elems spare => uptoBulkAll elems + uptoBulkAll spare + 1
  | .agg parts => uptoBulkAll parts + 1
  | .iface _ d => uptoBulk d + 1
  | .map entries => uptoBulkEntries entries + 1
  | .held _ => 1
def uptoBulkAll {H : Type} : List (DataW H) → Nat
  | [] => 0
  | d :: r => uptoBulk d + uptoBulkAll r
def uptoBulkEntries {H : Type} : List (Lit × DataW H) → Nat
  | [] => 0
  | x :: r => uptoBulkEntry x + uptoBulkEntries r
def uptoBulkEntry {H : Type} : Lit × DataW H → Nat
  | (.string bytes, d) => bytes.length + uptoBulk d + 1
  | (_, d) => uptoBulk d + 1
 end
def uptoSmall : (H : Type) → List (DataW H) → Bool := fun _ ds => decide (uptoBulkAll ds ≤ 1048576)
def OpenSpec.upto (s : _root_.Go.ChangeSpec) : _root_.Go.OpenSpec := { _root_.Go.OpenSpec.ofChange s with cond := some uptoSmall }

/-- 'laws.FnExactItemsWith', WHERE WHAT IT READS IS OF BULK AT MOST 1048576: true; the input reads as it did. -/
def fnExactItemsWithUptoRow : OpenClaim := { program := "ytbmgommbmhmbgaa", sum := "a8b098f5c5531c300fc0b6b57e4fe55f0a030bd1273a151fa9f85d00967a5431", func := "loop.example/g00583/laws.FnExactItemsWith", spec := "fnExactItemsWith", unfollowed := true, recurses := true, apart := false, narrowed := true }
def FnExactItemsWithUptoSaid : Prop := fnExactItemsWithUptoRow.holds Try.pinned (OpenSpec.upto fnExactItemsWithSpec)

/-- 'laws.FnExactCursorNext', WHERE WHAT IT READS IS OF BULK AT MOST 1048576: true; the input reads as it did. -/
def fnExactCursorNextUptoRow : OpenClaim := { program := "ytbmgommbmhmbgaa", sum := "a8b098f5c5531c300fc0b6b57e4fe55f0a030bd1273a151fa9f85d00967a5431", func := "loop.example/g00583/laws.FnExactCursorNext", spec := "fnExactCursorNext", inPlace := ["internal/bytealg.abigen_runtime_cmpstring"], apart := false, narrowed := true }
def FnExactCursorNextUptoSaid : Prop := fnExactCursorNextUptoRow.holds Try.pinned (OpenSpec.upto fnExactCursorNextSpec)

/-- 'laws.FnExactWalkStore', WHERE WHAT IT READS IS OF BULK AT MOST 1048576: true; the input reads as it did. -/
def fnExactWalkStoreUptoRow : OpenClaim := { program := "ytbmgommbmhmbgaa", sum := "a8b098f5c5531c300fc0b6b57e4fe55f0a030bd1273a151fa9f85d00967a5431", func := "loop.example/g00583/laws.FnExactWalkStore", spec := "fnExactWalkStore", inPlace := ["internal/bytealg.abigen_runtime_cmpstring"], apart := false, narrowed := true }
def FnExactWalkStoreUptoSaid : Prop := fnExactWalkStoreUptoRow.holds Try.pinned (OpenSpec.upto fnExactWalkStoreSpec)

/-- 'laws.FnExactIndexOn', WHERE WHAT IT READS IS OF BULK AT MOST 1048576: true; the input reads as it did. -/
def fnExactIndexOnUptoRow : OpenClaim := { program := "ytbmgommbmhmbgaa", sum := "a8b098f5c5531c300fc0b6b57e4fe55f0a030bd1273a151fa9f85d00967a5431", func := "loop.example/g00583/laws.FnExactIndexOn", spec := "fnExactIndexOn", inPlace := ["internal/bytealg.abigen_runtime_cmpstring", "slices.overlaps[loop.example/g00583/impl.Item]"], unfollowed := true, recurses := true, apart := false, narrowed := true }
def FnExactIndexOnUptoSaid : Prop := fnExactIndexOnUptoRow.holds Try.pinned (OpenSpec.upto fnExactIndexOnSpec)

/-- 'laws.FnExactUniqueFault', WHERE WHAT IT READS IS OF BULK AT MOST 1048576: true; the input reads as it did. -/
def fnExactUniqueFaultUptoRow : OpenClaim := { program := "ytbmgommbmhmbgaa", sum := "a8b098f5c5531c300fc0b6b57e4fe55f0a030bd1273a151fa9f85d00967a5431", func := "loop.example/g00583/laws.FnExactUniqueFault", spec := "fnExactUniqueFault", inPlace := ["internal/bytealg.abigen_runtime_cmpstring", "slices.overlaps[loop.example/g00583/impl.Item]"], unfollowed := true, recurses := true, apart := false, narrowed := true }
def FnExactUniqueFaultUptoSaid : Prop := fnExactUniqueFaultUptoRow.holds Try.pinned (OpenSpec.upto fnExactUniqueFaultSpec)

/-- 'laws.FnExactPutItem', WHERE WHAT IT READS IS OF BULK AT MOST 1048576: true; the input reads as it did. -/
def fnExactPutItemUptoRow : OpenClaim := { program := "ytbmgommbmhmbgaa", sum := "a8b098f5c5531c300fc0b6b57e4fe55f0a030bd1273a151fa9f85d00967a5431", func := "loop.example/g00583/laws.FnExactPutItem", spec := "fnExactPutItem", inPlace := ["internal/bytealg.abigen_runtime_cmpstring", "slices.overlaps[loop.example/g00583/impl.Item]"], unfollowed := true, recurses := true, apart := false, narrowed := true }
def FnExactPutItemUptoSaid : Prop := fnExactPutItemUptoRow.holds Try.pinned (OpenSpec.upto fnExactPutItemSpec)

/-- 'laws.FnExactAddItem', WHERE WHAT IT READS IS OF BULK AT MOST 1048576: true; the input reads as it did. -/
def fnExactAddItemUptoRow : OpenClaim := { program := "ytbmgommbmhmbgaa", sum := "a8b098f5c5531c300fc0b6b57e4fe55f0a030bd1273a151fa9f85d00967a5431", func := "loop.example/g00583/laws.FnExactAddItem", spec := "fnExactAddItem", inPlace := ["internal/bytealg.abigen_runtime_cmpstring", "slices.overlaps[loop.example/g00583/impl.Item]"], unfollowed := true, recurses := true, apart := false, narrowed := true }
def FnExactAddItemUptoSaid : Prop := fnExactAddItemUptoRow.holds Try.pinned (OpenSpec.upto fnExactAddItemSpec)

/-- 'laws.FnExactAutoItem', WHERE WHAT IT READS IS OF BULK AT MOST 1048576: true; the input reads as it did. -/
def fnExactAutoItemUptoRow : OpenClaim := { program := "ytbmgommbmhmbgaa", sum := "a8b098f5c5531c300fc0b6b57e4fe55f0a030bd1273a151fa9f85d00967a5431", func := "loop.example/g00583/laws.FnExactAutoItem", spec := "fnExactAutoItem", inPlace := ["internal/bytealg.abigen_runtime_cmpstring", "slices.overlaps[loop.example/g00583/impl.Item]"], unfollowed := true, recurses := true, apart := false, narrowed := true }
def FnExactAutoItemUptoSaid : Prop := fnExactAutoItemUptoRow.holds Try.pinned (OpenSpec.upto fnExactAutoItemSpec)

end Rows
end Go.Proofs.Ytbmgommbmhmbgaa
