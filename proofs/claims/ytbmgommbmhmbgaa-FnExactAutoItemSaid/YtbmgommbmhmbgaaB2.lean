/-
  The laws' own functions over lists of operations.
-/
import Derived.Test.YtbmgommbmhmbgaaB1
namespace Go.Proofs.Ytbmgommbmhmbgaa
open Go.RowKit
open Go.Proofs
set_option linter.unusedVariables false
set_option linter.unusedSimpArgs false
end Go.Proofs.Ytbmgommbmhmbgaa
