/-
  Contracts of the laws' own helpers on slices of slices of ints: sizes, copies, comparisons, marks.
-/
import Derived.Test.YtfejpmfcognikaaRA
import Derived.Deep.RegionHeld3
namespace Go.Proofs.Ytfejpmfcognikaa
open Go.RowKit
set_option linter.unusedVariables false
set_option linter.unusedSimpArgs false
