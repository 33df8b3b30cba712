/-
  No cell of these rows narrows 'for every input' (looked for: loops, veiled, ifaces, maps, wideKeys, modest, calm, conditions, laid).
  DERIVED. THE GIVEN ROWS OF THIS SEAT. 8 by the template 'for every input the law returns true; each argument reads behind the call as it read before'; 0 by the template 'total and deterministic' (their statements: YtlogahkchenpdaaTotals.lean).
  GIVEN WITH THE SEED: the statements are not yours to turn. If you find one false, say at which input.
  Laid BY PROGRAM, IN A SANDBOX (cutbox-rows.mjs): the forced cells as the released guide's own fill.sh prints them over the translation d109fd6915eb5be1… (all of the seat's roots in one cut). By AI agents, Wed Nov 11 2026. No macro, syntax, notation, axiom, sorry.
-/
import Derived.Test.YtlogahkchenpdaaChecked
import GoSem.Claim
import GoSem.ClaimJoined
import GoSem.ClaimMapViews
import Derived.JoinedTies
import Derived.KernelRfl
namespace Go.Proofs.Ytlogahkchenpdaa
/- THE CELL 'sum', in the pinned program and in every row, IS THE sha256 OF THE DUMP (.gsa) THAT YtlogahkchenpdaaProg.lean LOADS. Nothing in Lean hashes anything: it is a label: what it is worth is what the hold of that sum in a sandbox is worth. -/
noncomputable def Try.pinned : Pinned := { name := "ytlogahkchenpdaa", sum := "d109fd6915eb5be1d26e47a125759b668ede3f7bd160462f162a14c87e0cb0d2", checked := Try.checked }
namespace Rows
def none {H : Type} : Left H := { results := [], args := [] }

/-- 'laws.FnExactSizeDatabase': WHATEVER THE INPUT: true; the input reads as it did. -/
def fnExactSizeDatabaseSpec : ChangeSpec := { name := "fnExactSizeDatabase", fn := fun _ => fun
  | [d] => { results := [.lit (.bool true)], args := [d] }
  | _ => none }
def fnExactSizeDatabaseRow : OpenClaim := { program := "ytlogahkchenpdaa", sum := "d109fd6915eb5be1d26e47a125759b668ede3f7bd160462f162a14c87e0cb0d2", func := "loop.example/g00583/laws.FnExactSizeDatabase", spec := "fnExactSizeDatabase", apart := false }
def FnExactSizeDatabaseSaid : Prop := fnExactSizeDatabaseRow.holds Try.pinned (OpenSpec.ofChange fnExactSizeDatabaseSpec)

/-- ITS FALSE NEIGHBOUR: 'it returns false'. Refute it at one input. -/
def fnExactSizeDatabaseWrong : ChangeSpec := { name := "fnExactSizeDatabase", fn := fun _ => fun
  | [d] => { results := [.lit (.bool false)], args := [d] }
  | _ => none }
def FnExactSizeDatabaseWrongFalsely : Prop := fnExactSizeDatabaseRow.holds Try.pinned (OpenSpec.ofChange fnExactSizeDatabaseWrong)

/-- 'laws.FnExactSizeDisk': WHATEVER THE INPUT: true; the input reads as it did. -/
def fnExactSizeDiskSpec : ChangeSpec := { name := "fnExactSizeDisk", fn := fun _ => fun
  | [d] => { results := [.lit (.bool true)], args := [d] }
  | _ => none }
def fnExactSizeDiskRow : OpenClaim := { program := "ytlogahkchenpdaa", sum := "d109fd6915eb5be1d26e47a125759b668ede3f7bd160462f162a14c87e0cb0d2", func := "loop.example/g00583/laws.FnExactSizeDisk", spec := "fnExactSizeDisk", apart := false }
def FnExactSizeDiskSaid : Prop := fnExactSizeDiskRow.holds Try.pinned (OpenSpec.ofChange fnExactSizeDiskSpec)

/-- ITS FALSE NEIGHBOUR: 'it returns false'. Refute it at one input. -/
def fnExactSizeDiskWrong : ChangeSpec := { name := "fnExactSizeDisk", fn := fun _ => fun
  | [d] => { results := [.lit (.bool false)], args := [d] }
  | _ => none }
def FnExactSizeDiskWrongFalsely : Prop := fnExactSizeDiskRow.holds Try.pinned (OpenSpec.ofChange fnExactSizeDiskWrong)

/-- 'laws.FnExactEncodeOps': WHATEVER THE INPUT: true; the input reads as it did. -/
def fnExactEncodeOpsSpec : ChangeSpec := { name := "fnExactEncodeOps", fn := fun _ => fun
  | [d] => { results := [.lit (.bool true)], args := [d] }
  | _ => none }
def fnExactEncodeOpsRow : OpenClaim := { program := "ytlogahkchenpdaa", sum := "d109fd6915eb5be1d26e47a125759b668ede3f7bd160462f162a14c87e0cb0d2", func := "loop.example/g00583/laws.FnExactEncodeOps", spec := "fnExactEncodeOps", apart := false }
def FnExactEncodeOpsSaid : Prop := fnExactEncodeOpsRow.holds Try.pinned (OpenSpec.ofChange fnExactEncodeOpsSpec)

/-- ITS FALSE NEIGHBOUR: 'it returns false'. Refute it at one input. -/
def fnExactEncodeOpsWrong : ChangeSpec := { name := "fnExactEncodeOps", fn := fun _ => fun
  | [d] => { results := [.lit (.bool false)], args := [d] }
  | _ => none }
def FnExactEncodeOpsWrongFalsely : Prop := fnExactEncodeOpsRow.holds Try.pinned (OpenSpec.ofChange fnExactEncodeOpsWrong)

/-- 'laws.FnExactDecodeOps': WHATEVER THE INPUT: true; the input reads as it did. -/
def fnExactDecodeOpsSpec : ChangeSpec := { name := "fnExactDecodeOps", fn := fun _ => fun
  | [d] => { results := [.lit (.bool true)], args := [d] }
  | _ => none }
def fnExactDecodeOpsRow : OpenClaim := { program := "ytlogahkchenpdaa", sum := "d109fd6915eb5be1d26e47a125759b668ede3f7bd160462f162a14c87e0cb0d2", func := "loop.example/g00583/laws.FnExactDecodeOps", spec := "fnExactDecodeOps", apart := false }
def FnExactDecodeOpsSaid : Prop := fnExactDecodeOpsRow.holds Try.pinned (OpenSpec.ofChange fnExactDecodeOpsSpec)

/-- ITS FALSE NEIGHBOUR: 'it returns false'. Refute it at one input. -/
def fnExactDecodeOpsWrong : ChangeSpec := { name := "fnExactDecodeOps", fn := fun _ => fun
  | [d] => { results := [.lit (.bool false)], args := [d] }
  | _ => none }
def FnExactDecodeOpsWrongFalsely : Prop := fnExactDecodeOpsRow.holds Try.pinned (OpenSpec.ofChange fnExactDecodeOpsWrong)

/-- 'laws.FnExactCrashDisk': WHATEVER THE INPUT: true; the input reads as it did. -/
def fnExactCrashDiskSpec : ChangeSpec := { name := "fnExactCrashDisk", fn := fun _ => fun
  | [d1, d2, d3] => { results := [.lit (.bool true)], args := [d1, d2, d3] }
  | _ => none }
def fnExactCrashDiskRow : OpenClaim := { program := "ytlogahkchenpdaa", sum := "d109fd6915eb5be1d26e47a125759b668ede3f7bd160462f162a14c87e0cb0d2", func := "loop.example/g00583/laws.FnExactCrashDisk", spec := "fnExactCrashDisk", apart := false }
def FnExactCrashDiskSaid : Prop := fnExactCrashDiskRow.holds Try.pinned (OpenSpec.ofChange fnExactCrashDiskSpec)

/-- ITS FALSE NEIGHBOUR: 'it returns false'. Refute it at one input. -/
def fnExactCrashDiskWrong : ChangeSpec := { name := "fnExactCrashDisk", fn := fun _ => fun
  | [d1, d2, d3] => { results := [.lit (.bool false)], args := [d1, d2, d3] }
  | _ => none }
def FnExactCrashDiskWrongFalsely : Prop := fnExactCrashDiskRow.holds Try.pinned (OpenSpec.ofChange fnExactCrashDiskWrong)

/-- 'laws.FnExactRestartDisk': WHATEVER THE INPUT: true; the input reads as it did. -/
def fnExactRestartDiskSpec : ChangeSpec := { name := "fnExactRestartDisk", fn := fun _ => fun
  | [d] => { results := [.lit (.bool true)], args := [d] }
  | _ => none }
def fnExactRestartDiskRow : OpenClaim := { program := "ytlogahkchenpdaa", sum := "d109fd6915eb5be1d26e47a125759b668ede3f7bd160462f162a14c87e0cb0d2", func := "loop.example/g00583/laws.FnExactRestartDisk", spec := "fnExactRestartDisk", apart := false }
def FnExactRestartDiskSaid : Prop := fnExactRestartDiskRow.holds Try.pinned (OpenSpec.ofChange fnExactRestartDiskSpec)

/-- ITS FALSE NEIGHBOUR: 'it returns false'. Refute it at one input. -/
def fnExactRestartDiskWrong : ChangeSpec := { name := "fnExactRestartDisk", fn := fun _ => fun
  | [d] => { results := [.lit (.bool false)], args := [d] }
  | _ => none }
def FnExactRestartDiskWrongFalsely : Prop := fnExactRestartDiskRow.holds Try.pinned (OpenSpec.ofChange fnExactRestartDiskWrong)

/-- 'laws.FnExactIsDatabase': WHATEVER THE INPUT: true; the input reads as it did. -/
def fnExactIsDatabaseSpec : ChangeSpec := { name := "fnExactIsDatabase", fn := fun _ => fun
  | [d] => { results := [.lit (.bool true)], args := [d] }
  | _ => none }
def fnExactIsDatabaseRow : OpenClaim := { program := "ytlogahkchenpdaa", sum := "d109fd6915eb5be1d26e47a125759b668ede3f7bd160462f162a14c87e0cb0d2", func := "loop.example/g00583/laws.FnExactIsDatabase", spec := "fnExactIsDatabase", inPlace := ["internal/bytealg.abigen_runtime_cmpstring", "slices.overlaps[loop.example/g00583/impl.Item]"], unfollowed := true, recurses := true, apart := false }
def FnExactIsDatabaseSaid : Prop := fnExactIsDatabaseRow.holds Try.pinned (OpenSpec.ofChange fnExactIsDatabaseSpec)

/-- ITS FALSE NEIGHBOUR: 'it returns false'. Refute it at one input. -/
def fnExactIsDatabaseWrong : ChangeSpec := { name := "fnExactIsDatabase", fn := fun _ => fun
  | [d] => { results := [.lit (.bool false)], args := [d] }
  | _ => none }
def FnExactIsDatabaseWrongFalsely : Prop := fnExactIsDatabaseRow.holds Try.pinned (OpenSpec.ofChange fnExactIsDatabaseWrong)

/-- 'laws.FnExactNewTx': WHATEVER THE INPUT: true; the input reads as it did. -/
def fnExactNewTxSpec : ChangeSpec := { name := "fnExactNewTx", fn := fun _ => fun
  | [d1, d2] => { results := [.lit (.bool true)], args := [d1, d2] }
  | _ => none }
def fnExactNewTxRow : OpenClaim := { program := "ytlogahkchenpdaa", sum := "d109fd6915eb5be1d26e47a125759b668ede3f7bd160462f162a14c87e0cb0d2", func := "loop.example/g00583/laws.FnExactNewTx", spec := "fnExactNewTx", apart := false }
def FnExactNewTxSaid : Prop := fnExactNewTxRow.holds Try.pinned (OpenSpec.ofChange fnExactNewTxSpec)

/-- ITS FALSE NEIGHBOUR: 'it returns false'. Refute it at one input. -/
def fnExactNewTxWrong : ChangeSpec := { name := "fnExactNewTx", fn := fun _ => fun
  | [d1, d2] => { results := [.lit (.bool false)], args := [d1, d2] }
  | _ => none }
def FnExactNewTxWrongFalsely : Prop := fnExactNewTxRow.holds Try.pinned (OpenSpec.ofChange fnExactNewTxWrong)

/- THE SECOND FORM. 'bulk': how many values and letters a reading holds, each counted each time it is reached (what is shared counts as often as it is met; a slice's spare places count too). A statement '..UptoSaid' is the law's where the arguments, and the package variables that the reading takes, are together of bulk at most 1048576: NARROWER than '..Said'. Prove '..Said' where nothing that the law and all that it calls make is longer than what came in: it says more and counts as full. Else prove '..UptoSaid'. A law counts once. -/
mutual
def uptoBulk {H : Type} : DataW H → Nat
  | .lit (.string bytes) => bytes.length + 1
  | .lit _ => 1
  | .nil => 1
  | .ptr d => uptoBulk d + 1
  | .slice elems spare => uptoBulkAll elems + uptoBulkAll spare + 1
  | .agg parts => uptoBulkAll parts + 1
  | .iface _ d => uptoBulk d + 1
  | .map entries => uptoBulkEntries entries + 1
  | .held _ => 1
def uptoBulkAll {H : Type} : List (DataW H) → Nat
  | [] => 0
  | d :: r => uptoBulk d + uptoBulkAll r
def uptoBulkEntries {H : Type} : List (Lit × DataW H) → Nat
  | [] => 0
  | x :: r => uptoBulkEntry x + uptoBulkEntries r
def uptoBulkEntry {H : Type} : Lit × DataW H → Nat
  | (.string bytes, d) => bytes.length + uptoBulk d + 1
  | (_, d) => uptoBulk d + 1
 end
def uptoSmall : (H : Type) → List (DataW H) → Bool := fun _ ds => decide (uptoBulkAll ds ≤ 1048576)
def OpenSpec.upto (s : _root_.Go.ChangeSpec) : _root_.Go.OpenSpec := { _root_.Go.OpenSpec.ofChange s with cond := some uptoSmall }

/-- 'laws.FnExactSizeDatabase', WHERE WHAT IT READS IS OF BULK AT MOST 1048576: true; the input reads as it did. -/
def fnExactSizeDatabaseUptoRow : OpenClaim := { program := "ytlogahkchenpdaa", sum := "d109fd6915eb5be1d26e47a125759b668ede3f7bd160462f162a14c87e0cb0d2", func := "loop.example/g00583/laws.FnExactSizeDatabase", spec := "fnExactSizeDatabase", apart := false, narrowed := true }
def FnExactSizeDatabaseUptoSaid : Prop := fnExactSizeDatabaseUptoRow.holds Try.pinned (OpenSpec.upto fnExactSizeDatabaseSpec)

/-- 'laws.FnExactSizeDisk', WHERE WHAT IT READS IS OF BULK AT MOST 1048576: true; the input reads as it did. -/
def fnExactSizeDiskUptoRow : OpenClaim := { program := "ytlogahkchenpdaa", sum := "d109fd6915eb5be1d26e47a125759b668ede3f7bd160462f162a14c87e0cb0d2", func := "loop.example/g00583/laws.FnExactSizeDisk", spec := "fnExactSizeDisk", apart := false, narrowed := true }
def FnExactSizeDiskUptoSaid : Prop := fnExactSizeDiskUptoRow.holds Try.pinned (OpenSpec.upto fnExactSizeDiskSpec)

/-- 'laws.FnExactEncodeOps', WHERE WHAT IT READS IS OF BULK AT MOST 1048576: true; the input reads as it did. -/
def fnExactEncodeOpsUptoRow : OpenClaim := { program := "ytlogahkchenpdaa", sum := "d109fd6915eb5be1d26e47a125759b668ede3f7bd160462f162a14c87e0cb0d2", func := "loop.example/g00583/laws.FnExactEncodeOps", spec := "fnExactEncodeOps", apart := false, narrowed := true }
def FnExactEncodeOpsUptoSaid : Prop := fnExactEncodeOpsUptoRow.holds Try.pinned (OpenSpec.upto fnExactEncodeOpsSpec)

/-- 'laws.FnExactDecodeOps', WHERE WHAT IT READS IS OF BULK AT MOST 1048576: true; the input reads as it did. -/
def fnExactDecodeOpsUptoRow : OpenClaim := { program := "ytlogahkchenpdaa", sum := "d109fd6915eb5be1d26e47a125759b668ede3f7bd160462f162a14c87e0cb0d2", func := "loop.example/g00583/laws.FnExactDecodeOps", spec := "fnExactDecodeOps", apart := false, narrowed := true }
def FnExactDecodeOpsUptoSaid : Prop := fnExactDecodeOpsUptoRow.holds Try.pinned (OpenSpec.upto fnExactDecodeOpsSpec)

/-- 'laws.FnExactCrashDisk', WHERE WHAT IT READS IS OF BULK AT MOST 1048576: true; the input reads as it did. -/
def fnExactCrashDiskUptoRow : OpenClaim := { program := "ytlogahkchenpdaa", sum := "d109fd6915eb5be1d26e47a125759b668ede3f7bd160462f162a14c87e0cb0d2", func := "loop.example/g00583/laws.FnExactCrashDisk", spec := "fnExactCrashDisk", apart := false, narrowed := true }
def FnExactCrashDiskUptoSaid : Prop := fnExactCrashDiskUptoRow.holds Try.pinned (OpenSpec.upto fnExactCrashDiskSpec)

/-- 'laws.FnExactRestartDisk', WHERE WHAT IT READS IS OF BULK AT MOST 1048576: true; the input reads as it did. -/
def fnExactRestartDiskUptoRow : OpenClaim := { program := "ytlogahkchenpdaa", sum := "d109fd6915eb5be1d26e47a125759b668ede3f7bd160462f162a14c87e0cb0d2", func := "loop.example/g00583/laws.FnExactRestartDisk", spec := "fnExactRestartDisk", apart := false, narrowed := true }
def FnExactRestartDiskUptoSaid : Prop := fnExactRestartDiskUptoRow.holds Try.pinned (OpenSpec.upto fnExactRestartDiskSpec)

/-- 'laws.FnExactIsDatabase', WHERE WHAT IT READS IS OF BULK AT MOST 1048576: true; the input reads as it did. -/
def fnExactIsDatabaseUptoRow : OpenClaim := { program := "ytlogahkchenpdaa", sum := "d109fd6915eb5be1d26e47a125759b668ede3f7bd160462f162a14c87e0cb0d2", func := "loop.example/g00583/laws.FnExactIsDatabase", spec := "fnExactIsDatabase", inPlace := ["internal/bytealg.abigen_runtime_cmpstring", "slices.overlaps[loop.example/g00583/impl.Item]"], unfollowed := true, recurses := true, apart := false, narrowed := true }
def FnExactIsDatabaseUptoSaid : Prop := fnExactIsDatabaseUptoRow.holds Try.pinned (OpenSpec.upto fnExactIsDatabaseSpec)

/-- 'laws.FnExactNewTx', WHERE WHAT IT READS IS OF BULK AT MOST 1048576: true; the input reads as it did. -/
def fnExactNewTxUptoRow : OpenClaim := { program := "ytlogahkchenpdaa", sum := "d109fd6915eb5be1d26e47a125759b668ede3f7bd160462f162a14c87e0cb0d2", func := "loop.example/g00583/laws.FnExactNewTx", spec := "fnExactNewTx", apart := false, narrowed := true }
def FnExactNewTxUptoSaid : Prop := fnExactNewTxUptoRow.holds Try.pinned (OpenSpec.upto fnExactNewTxSpec)

end Rows
end Go.Proofs.Ytlogahkchenpdaa
