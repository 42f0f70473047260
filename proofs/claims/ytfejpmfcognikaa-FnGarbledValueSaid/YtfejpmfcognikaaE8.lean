/-
  Checks: passes, CheckPasses, both sides.
-/
import Derived.Test.YtfejpmfcognikaaE7
namespace Go.Proofs.Ytfejpmfcognikaa
open Go.RowKit
set_option linter.unusedVariables false
set_option linter.unusedSimpArgs false
