/-
  The laws' own functions: Lists of stores, definitions, databases.
-/
import Derived.Test.YtbmgommbmhmbgaaB3
namespace Go.Proofs.Ytbmgommbmhmbgaa
open Go.RowKit
open Go.Proofs
set_option linter.unusedVariables false
set_option linter.unusedSimpArgs false
end Go.Proofs.Ytbmgommbmhmbgaa
