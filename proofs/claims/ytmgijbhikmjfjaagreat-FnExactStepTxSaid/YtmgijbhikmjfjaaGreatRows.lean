/-
  No cell of these rows narrows 'for every input' (looked for: loops, veiled, ifaces, maps, wideKeys, modest, calm, conditions, laid).
  DERIVED. THE GIVEN ROWS OF THIS SEAT. 4 by the template 'for every input the law returns true; each argument reads behind the call as it read before'; 0 by the template 'total and deterministic' (their statements: YtmgijbhikmjfjaaGreatTotals.lean).
  GIVEN WITH THE SEED: the statements are not yours to turn. If you find one false, say at which input.
  Laid BY PROGRAM, IN A SANDBOX (cutbox-rows.mjs): the forced cells as the released guide's own fill.sh prints them over the translation f1d47089fb22e613… (all of the seat's roots in one cut). By AI agents, Wed Nov 11 2026. No macro, syntax, notation, axiom, sorry.
-/
import Derived.Test.YtmgijbhikmjfjaaGreatChecked
import GoSem.Claim
import GoSem.ClaimJoined
import GoSem.ClaimMapViews
import Derived.JoinedTies
import Derived.KernelRfl
namespace Go.Proofs.YtmgijbhikmjfjaaGreat
/- THE CELL 'sum', in the pinned program and in every row, IS THE sha256 OF THE DUMP (.gsa) THAT YtmgijbhikmjfjaaGreatProg.lean LOADS. Nothing in Lean hashes anything: it is a label: what it is worth is what the hold of that sum in a sandbox is worth. -/
noncomputable def Tryz.pinned : Pinned := { name := "ytmgijbhikmjfjaagreat", sum := "f1d47089fb22e6132cfc683b87e1638374f5538d159be52b49a3e8e1a1813d27", checked := Tryz.checked }
namespace Rows
def none {H : Type} : Left H := { results := [], args := [] }

/-- 'laws.FnExactRunOp': WHATEVER THE INPUT: true; the input reads as it did. -/
def fnExactRunOpSpec : ChangeSpec := { name := "fnExactRunOp", fn := fun _ => fun
  | [d1, d2] => { results := [.lit (.bool true)], args := [d1, d2] }
  | _ => none }
def fnExactRunOpRow : OpenClaim := { program := "ytmgijbhikmjfjaagreat", sum := "f1d47089fb22e6132cfc683b87e1638374f5538d159be52b49a3e8e1a1813d27", func := "loop.example/g00583/laws.FnExactRunOp", spec := "fnExactRunOp", inPlace := ["internal/bytealg.abigen_runtime_cmpstring", "slices.overlaps[loop.example/g00583/impl.Item]", "slices.overlaps[loop.example/g00583/impl.Field]"], unfollowed := true, recurses := true, apart := false }
def FnExactRunOpSaid : Prop := fnExactRunOpRow.holds Tryz.pinned (OpenSpec.ofChange fnExactRunOpSpec)

/-- ITS FALSE NEIGHBOUR: 'it returns false'. Refute it at one input. -/
def fnExactRunOpWrong : ChangeSpec := { name := "fnExactRunOp", fn := fun _ => fun
  | [d1, d2] => { results := [.lit (.bool false)], args := [d1, d2] }
  | _ => none }
def FnExactRunOpWrongFalsely : Prop := fnExactRunOpRow.holds Tryz.pinned (OpenSpec.ofChange fnExactRunOpWrong)

/-- 'laws.FnExactRunOps': WHATEVER THE INPUT: true; the input reads as it did. -/
def fnExactRunOpsSpec : ChangeSpec := { name := "fnExactRunOps", fn := fun _ => fun
  | [d1, d2] => { results := [.lit (.bool true)], args := [d1, d2] }
  | _ => none }
def fnExactRunOpsRow : OpenClaim := { program := "ytmgijbhikmjfjaagreat", sum := "f1d47089fb22e6132cfc683b87e1638374f5538d159be52b49a3e8e1a1813d27", func := "loop.example/g00583/laws.FnExactRunOps", spec := "fnExactRunOps", inPlace := ["internal/bytealg.abigen_runtime_cmpstring", "slices.overlaps[loop.example/g00583/impl.Item]", "slices.overlaps[loop.example/g00583/impl.Field]"], unfollowed := true, recurses := true, apart := false }
def FnExactRunOpsSaid : Prop := fnExactRunOpsRow.holds Tryz.pinned (OpenSpec.ofChange fnExactRunOpsSpec)

/-- ITS FALSE NEIGHBOUR: 'it returns false'. Refute it at one input. -/
def fnExactRunOpsWrong : ChangeSpec := { name := "fnExactRunOps", fn := fun _ => fun
  | [d1, d2] => { results := [.lit (.bool false)], args := [d1, d2] }
  | _ => none }
def FnExactRunOpsWrongFalsely : Prop := fnExactRunOpsRow.holds Tryz.pinned (OpenSpec.ofChange fnExactRunOpsWrong)

/-- 'laws.FnExactSerialRun': WHATEVER THE INPUT: true; the input reads as it did. -/
def fnExactSerialRunSpec : ChangeSpec := { name := "fnExactSerialRun", fn := fun _ => fun
  | [d1, d2] => { results := [.lit (.bool true)], args := [d1, d2] }
  | _ => none }
def fnExactSerialRunRow : OpenClaim := { program := "ytmgijbhikmjfjaagreat", sum := "f1d47089fb22e6132cfc683b87e1638374f5538d159be52b49a3e8e1a1813d27", func := "loop.example/g00583/laws.FnExactSerialRun", spec := "fnExactSerialRun", inPlace := ["internal/bytealg.abigen_runtime_cmpstring", "slices.overlaps[loop.example/g00583/impl.Item]", "slices.overlaps[loop.example/g00583/impl.Field]"], unfollowed := true, recurses := true, apart := false }
def FnExactSerialRunSaid : Prop := fnExactSerialRunRow.holds Tryz.pinned (OpenSpec.ofChange fnExactSerialRunSpec)

/-- ITS FALSE NEIGHBOUR: 'it returns false'. Refute it at one input. -/
def fnExactSerialRunWrong : ChangeSpec := { name := "fnExactSerialRun", fn := fun _ => fun
  | [d1, d2] => { results := [.lit (.bool false)], args := [d1, d2] }
  | _ => none }
def FnExactSerialRunWrongFalsely : Prop := fnExactSerialRunRow.holds Tryz.pinned (OpenSpec.ofChange fnExactSerialRunWrong)

/-- 'laws.FnExactStepTx': WHATEVER THE INPUT: true; the input reads as it did. -/
def fnExactStepTxSpec : ChangeSpec := { name := "fnExactStepTx", fn := fun _ => fun
  | [d1, d2, d3] => { results := [.lit (.bool true)], args := [d1, d2, d3] }
  | _ => none }
def fnExactStepTxRow : OpenClaim := { program := "ytmgijbhikmjfjaagreat", sum := "f1d47089fb22e6132cfc683b87e1638374f5538d159be52b49a3e8e1a1813d27", func := "loop.example/g00583/laws.FnExactStepTx", spec := "fnExactStepTx", inPlace := ["internal/bytealg.abigen_runtime_cmpstring", "slices.overlaps[loop.example/g00583/impl.Item]", "slices.overlaps[loop.example/g00583/impl.Field]"], unfollowed := true, recurses := true, apart := false }
def FnExactStepTxSaid : Prop := fnExactStepTxRow.holds Tryz.pinned (OpenSpec.ofChange fnExactStepTxSpec)

/-- ITS FALSE NEIGHBOUR: 'it returns false'. Refute it at one input. -/
def fnExactStepTxWrong : ChangeSpec := { name := "fnExactStepTx", fn := fun _ => fun
  | [d1, d2, d3] => { results := [.lit (.bool false)], args := [d1, d2, d3] }
  | _ => none }
def FnExactStepTxWrongFalsely : Prop := fnExactStepTxRow.holds Tryz.pinned (OpenSpec.ofChange fnExactStepTxWrong)

/- THE SECOND FORM. 'bulk': how many values and letters a reading holds, each counted each time it is reached (what is shared counts as often as it is met; a slice's spare places count too). A statement '..UptoSaid' is the law's where the arguments, and the package variables that the reading takes, are together of bulk at most 1048576: NARROWER than '..Said'. Prove '..Said' where nothing that the law and all that it calls make is longer than what came in: it says more and counts as full. Else prove '..UptoSaid'. A law counts once. -/
mutual
def uptoBulk {H : Type} : DataW H → Nat
  | .lit (.string bytes) => bytes.length + 1
  | .lit _ => 1
  | .nil => 1
  | .ptr d => uptoBulk d + 1
  | .slice elems spare => uptoBulkAll elems + uptoBulkAll spare + 1
  | .agg parts => uptoBulkAll parts + 1
  | .iface _ d => uptoBulk d + 1
  | .map entries => uptoBulkEntries entries + 1
  | .held _ => 1
def uptoBulkAll {H : Type} : List (DataW H) → Nat
  | [] => 0
  | d :: r => uptoBulk d + uptoBulkAll r
def uptoBulkEntries {H : Type} : List (Lit × DataW H) → Nat
  | [] => 0
  | x :: r => uptoBulkEntry x + uptoBulkEntries r
def uptoBulkEntry {H : Type} : Lit × DataW H → Nat
  | (.string bytes, d) => bytes.length + uptoBulk d + 1
  | (_, d) => uptoBulk d + 1
 end
def uptoSmall : (H : Type) → List (DataW H) → Bool := fun _ ds => decide (uptoBulkAll ds ≤ 1048576)
def OpenSpec.upto (s : _root_.Go.ChangeSpec) : _root_.Go.OpenSpec := { _root_.Go.OpenSpec.ofChange s with cond := some uptoSmall }

/-- 'laws.FnExactRunOp', WHERE WHAT IT READS IS OF BULK AT MOST 1048576: true; the input reads as it did. -/
def fnExactRunOpUptoRow : OpenClaim := { program := "ytmgijbhikmjfjaagreat", sum := "f1d47089fb22e6132cfc683b87e1638374f5538d159be52b49a3e8e1a1813d27", func := "loop.example/g00583/laws.FnExactRunOp", spec := "fnExactRunOp", inPlace := ["internal/bytealg.abigen_runtime_cmpstring", "slices.overlaps[loop.example/g00583/impl.Item]", "slices.overlaps[loop.example/g00583/impl.Field]"], unfollowed := true, recurses := true, apart := false, narrowed := true }
def FnExactRunOpUptoSaid : Prop := fnExactRunOpUptoRow.holds Tryz.pinned (OpenSpec.upto fnExactRunOpSpec)

/-- 'laws.FnExactRunOps', WHERE WHAT IT READS IS OF BULK AT MOST 1048576: true; the input reads as it did. -/
def fnExactRunOpsUptoRow : OpenClaim := { program := "ytmgijbhikmjfjaagreat", sum := "f1d47089fb22e6132cfc683b87e1638374f5538d159be52b49a3e8e1a1813d27", func := "loop.example/g00583/laws.FnExactRunOps", spec := "fnExactRunOps", inPlace := ["internal/bytealg.abigen_runtime_cmpstring", "slices.overlaps[loop.example/g00583/impl.Item]", "slices.overlaps[loop.example/g00583/impl.Field]"], unfollowed := true, recurses := true, apart := false, narrowed := true }
def FnExactRunOpsUptoSaid : Prop := fnExactRunOpsUptoRow.holds Tryz.pinned (OpenSpec.upto fnExactRunOpsSpec)

/-- 'laws.FnExactSerialRun', WHERE WHAT IT READS IS OF BULK AT MOST 1048576: true; the input reads as it did. -/
def fnExactSerialRunUptoRow : OpenClaim := { program := "ytmgijbhikmjfjaagreat", sum := "f1d47089fb22e6132cfc683b87e1638374f5538d159be52b49a3e8e1a1813d27", func := "loop.example/g00583/laws.FnExactSerialRun", spec := "fnExactSerialRun", inPlace := ["internal/bytealg.abigen_runtime_cmpstring", "slices.overlaps[loop.example/g00583/impl.Item]", "slices.overlaps[loop.example/g00583/impl.Field]"], unfollowed := true, recurses := true, apart := false, narrowed := true }
def FnExactSerialRunUptoSaid : Prop := fnExactSerialRunUptoRow.holds Tryz.pinned (OpenSpec.upto fnExactSerialRunSpec)

/-- 'laws.FnExactStepTx', WHERE WHAT IT READS IS OF BULK AT MOST 1048576: true; the input reads as it did. -/
def fnExactStepTxUptoRow : OpenClaim := { program := "ytmgijbhikmjfjaagreat", sum := "f1d47089fb22e6132cfc683b87e1638374f5538d159be52b49a3e8e1a1813d27", func := "loop.example/g00583/laws.FnExactStepTx", spec := "fnExactStepTx", inPlace := ["internal/bytealg.abigen_runtime_cmpstring", "slices.overlaps[loop.example/g00583/impl.Item]", "slices.overlaps[loop.example/g00583/impl.Field]"], unfollowed := true, recurses := true, apart := false, narrowed := true }
def FnExactStepTxUptoSaid : Prop := fnExactStepTxUptoRow.holds Tryz.pinned (OpenSpec.upto fnExactStepTxSpec)

end Rows
end Go.Proofs.YtmgijbhikmjfjaaGreat
