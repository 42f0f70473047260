/-
  Contracts of the laws' own helpers on slices of slices of ints: sizes, copies, comparisons, marks.
-/
import Derived.Test.YtfichpppjpgahaaRA
import Derived.Deep.RegionHeld3
namespace Go.Proofs.Ytfichpppjpgahaa
open Go.RowKit
set_option linter.unusedVariables false
set_option linter.unusedSimpArgs false
