/-
  No cell of these rows narrows 'for every input' (looked for: loops, veiled, ifaces, maps, wideKeys, modest, calm, conditions, laid).
  DERIVED. THE GIVEN ROWS OF THIS SEAT. 2 by the template 'for every input the law returns true; each argument reads behind the call as it read before'; 0 by the template 'total and deterministic' (their statements: YtfejpmfcognikaaTotals.lean).
  GIVEN WITH THE SEED: the statements are not yours to turn. If you find one false, say at which input.
  Laid BY PROGRAM, IN A SANDBOX (cutbox-rows.mjs): the forced cells as the released guide's own fill.sh prints them over the translation 727b92ad49d0314d… (all of the seat's roots in one cut). By AI agents, Wed Nov 11 2026. No macro, syntax, notation, axiom, sorry.
-/
import Derived.Test.YtfejpmfcognikaaChecked
import GoSem.Claim
import GoSem.ClaimJoined
import GoSem.ClaimMapViews
import Derived.JoinedTies
import Derived.KernelRfl
namespace Go.Proofs.Ytfejpmfcognikaa
/- THE CELL 'sum', in the pinned program and in every row, IS THE sha256 OF THE DUMP (.gsa) THAT YtfejpmfcognikaaProg.lean LOADS. Nothing in Lean hashes anything: it is a label: what it is worth is what the hold of that sum in a sandbox is worth. -/
noncomputable def Try.pinned : Pinned := { name := "ytfejpmfcognikaa", sum := "727b92ad49d0314d3de1f22ce431ad59730d00ecfedcd14243998fdfa356e989", checked := Try.checked }
namespace Rows
def none {H : Type} : Left H := { results := [], args := [] }

/-- 'laws.FnGarbledValue': WHATEVER THE INPUT: true; the input reads as it did. -/
def fnGarbledValueSpec : ChangeSpec := { name := "fnGarbledValue", fn := fun _ => fun
  | [d1, d2, d3, d4] => { results := [.lit (.bool true)], args := [d1, d2, d3, d4] }
  | _ => none }
def fnGarbledValueRow : OpenClaim := { program := "ytfejpmfcognikaa", sum := "727b92ad49d0314d3de1f22ce431ad59730d00ecfedcd14243998fdfa356e989", func := "loop.example/g00877/laws.FnGarbledValue", spec := "fnGarbledValue", unfollowed := true, recurses := true, apart := false }
def FnGarbledValueSaid : Prop := fnGarbledValueRow.holds Try.pinned (OpenSpec.ofChange fnGarbledValueSpec)

/-- ITS FALSE NEIGHBOUR: 'it returns false'. Refute it at one input. -/
def fnGarbledValueWrong : ChangeSpec := { name := "fnGarbledValue", fn := fun _ => fun
  | [d1, d2, d3, d4] => { results := [.lit (.bool false)], args := [d1, d2, d3, d4] }
  | _ => none }
def FnGarbledValueWrongFalsely : Prop := fnGarbledValueRow.holds Try.pinned (OpenSpec.ofChange fnGarbledValueWrong)

/-- 'laws.FnExtended': WHATEVER THE INPUT: true; the input reads as it did. -/
def fnExtendedSpec : ChangeSpec := { name := "fnExtended", fn := fun _ => fun
  | [d1, d2] => { results := [.lit (.bool true)], args := [d1, d2] }
  | _ => none }
def fnExtendedRow : OpenClaim := { program := "ytfejpmfcognikaa", sum := "727b92ad49d0314d3de1f22ce431ad59730d00ecfedcd14243998fdfa356e989", func := "loop.example/g00877/laws.FnExtended", spec := "fnExtended", unfollowed := true, recurses := true, apart := false }
def FnExtendedSaid : Prop := fnExtendedRow.holds Try.pinned (OpenSpec.ofChange fnExtendedSpec)

/-- ITS FALSE NEIGHBOUR: 'it returns false'. Refute it at one input. -/
def fnExtendedWrong : ChangeSpec := { name := "fnExtended", fn := fun _ => fun
  | [d1, d2] => { results := [.lit (.bool false)], args := [d1, d2] }
  | _ => none }
def FnExtendedWrongFalsely : Prop := fnExtendedRow.holds Try.pinned (OpenSpec.ofChange fnExtendedWrong)

/- THE SECOND FORM. 'bulk': how many values and letters a reading holds, each counted each time it is reached (what is shared counts as often as it is met; a slice's spare places count too). A statement '..UptoSaid' is the law's where the arguments, and the package variables that the reading takes, are together of bulk at most 1048576: NARROWER than '..Said'. Prove '..Said' where nothing that the law and all that it calls make is longer than what came in: it says more and counts as full. Else prove '..UptoSaid'. A law counts once. -/
mutual
def uptoBulk {H : Type} : DataW H → Nat
  | .lit (.string bytes) => bytes.length + 1
  | .lit _ => 1
  | .nil => 1
  | .ptr d => uptoBulk d + 1
  | .slice elems spare => uptoBulkAll elems + uptoBulkAll spare + 1
  | .agg parts => uptoBulkAll parts + 1
  | .iface _ d => uptoBulk d + 1
  | .map entries => uptoBulkEntries entries + 1
  | .held _ => 1
def uptoBulkAll {H : Type} : List (DataW H) → Nat
  | [] => 0
  | d :: r => uptoBulk d + uptoBulkAll r
def uptoBulkEntries {H : Type} : List (Lit × DataW H) → Nat
  | [] => 0
  | x :: r => uptoBulkEntry x + uptoBulkEntries r
def uptoBulkEntry {H : Type} : Lit × DataW H → Nat
  | (.string bytes, d) => bytes.length + uptoBulk d + 1
  | (_, d) => uptoBulk d + 1
 end
def uptoSmall : (H : Type) → List (DataW H) → Bool := fun _ ds => decide (uptoBulkAll ds ≤ 1048576)
def OpenSpec.upto (s : _root_.Go.ChangeSpec) : _root_.Go.OpenSpec := { _root_.Go.OpenSpec.ofChange s with cond := some uptoSmall }

/-- 'laws.FnGarbledValue', WHERE WHAT IT READS IS OF BULK AT MOST 1048576: true; the input reads as it did. -/
def fnGarbledValueUptoRow : OpenClaim := { program := "ytfejpmfcognikaa", sum := "727b92ad49d0314d3de1f22ce431ad59730d00ecfedcd14243998fdfa356e989", func := "loop.example/g00877/laws.FnGarbledValue", spec := "fnGarbledValue", unfollowed := true, recurses := true, apart := false, narrowed := true }
def FnGarbledValueUptoSaid : Prop := fnGarbledValueUptoRow.holds Try.pinned (OpenSpec.upto fnGarbledValueSpec)

/-- 'laws.FnExtended', WHERE WHAT IT READS IS OF BULK AT MOST 1048576: true; the input reads as it did. -/
def fnExtendedUptoRow : OpenClaim := { program := "ytfejpmfcognikaa", sum := "727b92ad49d0314d3de1f22ce431ad59730d00ecfedcd14243998fdfa356e989", func := "loop.example/g00877/laws.FnExtended", spec := "fnExtended", unfollowed := true, recurses := true, apart := false, narrowed := true }
def FnExtendedUptoSaid : Prop := fnExtendedUptoRow.holds Try.pinned (OpenSpec.upto fnExtendedSpec)

end Rows
end Go.Proofs.Ytfejpmfcognikaa
