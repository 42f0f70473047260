/-
  No cell of these rows narrows 'for every input' (looked for: loops, veiled, ifaces, maps, wideKeys, modest, calm, conditions, laid).
  DERIVED. THE GIVEN ROWS OF THIS SEAT. 12 by the template 'for every input the law returns true; each argument reads behind the call as it read before'; 0 by the template 'total and deterministic' (their statements: YtbkmgehigbjgmaaTotals.lean).
  GIVEN WITH THE SEED: the statements are not yours to turn. If you find one false, say at which input.
  Laid BY PROGRAM, IN A SANDBOX (cutbox-rows.mjs): the forced cells as the released guide's own fill.sh prints them over the translation ad7d6bb4083f3643… (all of the seat's roots in one cut). By AI agents, Wed Nov 11 2026. No macro, syntax, notation, axiom, sorry.
-/
import Derived.Test.YtbkmgehigbjgmaaChecked
import GoSem.Claim
import GoSem.ClaimJoined
import GoSem.ClaimMapViews
import Derived.JoinedTies
import Derived.KernelRfl
namespace Go.Proofs.Ytbkmgehigbjgmaa
/- THE CELL 'sum', in the pinned program and in every row, IS THE sha256 OF THE DUMP (.gsa) THAT YtbkmgehigbjgmaaProg.lean LOADS. Nothing in Lean hashes anything: it is a label: what it is worth is what the hold of that sum in a sandbox is worth. -/
noncomputable def Try.pinned : Pinned := { name := "ytbkmgehigbjgmaa", sum := "ad7d6bb4083f3643ceec6b06d6c2cd3615065ee65388f61cf7d64d242a166568", checked := Try.checked }
namespace Rows
def none {H : Type} : Left H := { results := [], args := [] }

/-- 'laws.FnExactTripleFits': WHATEVER THE INPUT: true; the input reads as it did. -/
def fnExactTripleFitsSpec : ChangeSpec := { name := "fnExactTripleFits", fn := fun _ => fun
  | [d1, d2] => { results := [.lit (.bool true)], args := [d1, d2] }
  | _ => none }
def fnExactTripleFitsRow : OpenClaim := { program := "ytbkmgehigbjgmaa", sum := "ad7d6bb4083f3643ceec6b06d6c2cd3615065ee65388f61cf7d64d242a166568", func := "loop.example/g00877/laws.FnExactTripleFits", spec := "fnExactTripleFits", unfollowed := true, recurses := true, apart := false }
def FnExactTripleFitsSaid : Prop := fnExactTripleFitsRow.holds Try.pinned (OpenSpec.ofChange fnExactTripleFitsSpec)

/-- ITS FALSE NEIGHBOUR: 'it returns false'. Refute it at one input. -/
def fnExactTripleFitsWrong : ChangeSpec := { name := "fnExactTripleFits", fn := fun _ => fun
  | [d1, d2] => { results := [.lit (.bool false)], args := [d1, d2] }
  | _ => none }
def FnExactTripleFitsWrongFalsely : Prop := fnExactTripleFitsRow.holds Try.pinned (OpenSpec.ofChange fnExactTripleFitsWrong)

/-- 'laws.FnExactOpenWays': WHATEVER THE INPUT: true; the input reads as it did. -/
def fnExactOpenWaysSpec : ChangeSpec := { name := "fnExactOpenWays", fn := fun _ => fun
  | [d1, d2, d3, d4, d5] => { results := [.lit (.bool true)], args := [d1, d2, d3, d4, d5] }
  | _ => none }
def fnExactOpenWaysRow : OpenClaim := { program := "ytbkmgehigbjgmaa", sum := "ad7d6bb4083f3643ceec6b06d6c2cd3615065ee65388f61cf7d64d242a166568", func := "loop.example/g00877/laws.FnExactOpenWays", spec := "fnExactOpenWays", unfollowed := true, recurses := true, apart := false }
def FnExactOpenWaysSaid : Prop := fnExactOpenWaysRow.holds Try.pinned (OpenSpec.ofChange fnExactOpenWaysSpec)

/-- ITS FALSE NEIGHBOUR: 'it returns false'. Refute it at one input. -/
def fnExactOpenWaysWrong : ChangeSpec := { name := "fnExactOpenWays", fn := fun _ => fun
  | [d1, d2, d3, d4, d5] => { results := [.lit (.bool false)], args := [d1, d2, d3, d4, d5] }
  | _ => none }
def FnExactOpenWaysWrongFalsely : Prop := fnExactOpenWaysRow.holds Try.pinned (OpenSpec.ofChange fnExactOpenWaysWrong)

/-- 'laws.FnExactIsTriple': WHATEVER THE INPUT: true; the input reads as it did. -/
def fnExactIsTripleSpec : ChangeSpec := { name := "fnExactIsTriple", fn := fun _ => fun
  | [d1, d2, d3] => { results := [.lit (.bool true)], args := [d1, d2, d3] }
  | _ => none }
def fnExactIsTripleRow : OpenClaim := { program := "ytbkmgehigbjgmaa", sum := "ad7d6bb4083f3643ceec6b06d6c2cd3615065ee65388f61cf7d64d242a166568", func := "loop.example/g00877/laws.FnExactIsTriple", spec := "fnExactIsTriple", unfollowed := true, recurses := true, apart := false }
def FnExactIsTripleSaid : Prop := fnExactIsTripleRow.holds Try.pinned (OpenSpec.ofChange fnExactIsTripleSpec)

/-- ITS FALSE NEIGHBOUR: 'it returns false'. Refute it at one input. -/
def fnExactIsTripleWrong : ChangeSpec := { name := "fnExactIsTriple", fn := fun _ => fun
  | [d1, d2, d3] => { results := [.lit (.bool false)], args := [d1, d2, d3] }
  | _ => none }
def FnExactIsTripleWrongFalsely : Prop := fnExactIsTripleRow.holds Try.pinned (OpenSpec.ofChange fnExactIsTripleWrong)

/-- 'laws.FnExactProductShare': WHATEVER THE INPUT: true; the input reads as it did. -/
def fnExactProductShareSpec : ChangeSpec := { name := "fnExactProductShare", fn := fun _ => fun
  | [d1, d2, d3, d4, d5] => { results := [.lit (.bool true)], args := [d1, d2, d3, d4, d5] }
  | _ => none }
def fnExactProductShareRow : OpenClaim := { program := "ytbkmgehigbjgmaa", sum := "ad7d6bb4083f3643ceec6b06d6c2cd3615065ee65388f61cf7d64d242a166568", func := "loop.example/g00877/laws.FnExactProductShare", spec := "fnExactProductShare", unfollowed := true, recurses := true, apart := false }
def FnExactProductShareSaid : Prop := fnExactProductShareRow.holds Try.pinned (OpenSpec.ofChange fnExactProductShareSpec)

/-- ITS FALSE NEIGHBOUR: 'it returns false'. Refute it at one input. -/
def fnExactProductShareWrong : ChangeSpec := { name := "fnExactProductShare", fn := fun _ => fun
  | [d1, d2, d3, d4, d5] => { results := [.lit (.bool false)], args := [d1, d2, d3, d4, d5] }
  | _ => none }
def FnExactProductShareWrongFalsely : Prop := fnExactProductShareRow.holds Try.pinned (OpenSpec.ofChange fnExactProductShareWrong)

/-- 'laws.FnExactMaskPair': WHATEVER THE INPUT: true; the input reads as it did. -/
def fnExactMaskPairSpec : ChangeSpec := { name := "fnExactMaskPair", fn := fun _ => fun
  | [d1, d2, d3, d4] => { results := [.lit (.bool true)], args := [d1, d2, d3, d4] }
  | _ => none }
def fnExactMaskPairRow : OpenClaim := { program := "ytbkmgehigbjgmaa", sum := "ad7d6bb4083f3643ceec6b06d6c2cd3615065ee65388f61cf7d64d242a166568", func := "loop.example/g00877/laws.FnExactMaskPair", spec := "fnExactMaskPair", unfollowed := true, recurses := true, apart := false }
def FnExactMaskPairSaid : Prop := fnExactMaskPairRow.holds Try.pinned (OpenSpec.ofChange fnExactMaskPairSpec)

/-- ITS FALSE NEIGHBOUR: 'it returns false'. Refute it at one input. -/
def fnExactMaskPairWrong : ChangeSpec := { name := "fnExactMaskPair", fn := fun _ => fun
  | [d1, d2, d3, d4] => { results := [.lit (.bool false)], args := [d1, d2, d3, d4] }
  | _ => none }
def FnExactMaskPairWrongFalsely : Prop := fnExactMaskPairRow.holds Try.pinned (OpenSpec.ofChange fnExactMaskPairWrong)

/-- 'laws.FnExactBitTriple': WHATEVER THE INPUT: true; the input reads as it did. -/
def fnExactBitTripleSpec : ChangeSpec := { name := "fnExactBitTriple", fn := fun _ => fun
  | [d1, d2] => { results := [.lit (.bool true)], args := [d1, d2] }
  | _ => none }
def fnExactBitTripleRow : OpenClaim := { program := "ytbkmgehigbjgmaa", sum := "ad7d6bb4083f3643ceec6b06d6c2cd3615065ee65388f61cf7d64d242a166568", func := "loop.example/g00877/laws.FnExactBitTriple", spec := "fnExactBitTriple", apart := false }
def FnExactBitTripleSaid : Prop := fnExactBitTripleRow.holds Try.pinned (OpenSpec.ofChange fnExactBitTripleSpec)

/-- ITS FALSE NEIGHBOUR: 'it returns false'. Refute it at one input. -/
def fnExactBitTripleWrong : ChangeSpec := { name := "fnExactBitTriple", fn := fun _ => fun
  | [d1, d2] => { results := [.lit (.bool false)], args := [d1, d2] }
  | _ => none }
def FnExactBitTripleWrongFalsely : Prop := fnExactBitTripleRow.holds Try.pinned (OpenSpec.ofChange fnExactBitTripleWrong)

/-- 'laws.FnExactCheckTriple': WHATEVER THE INPUT: true; the input reads as it did. -/
def fnExactCheckTripleSpec : ChangeSpec := { name := "fnExactCheckTriple", fn := fun _ => fun
  | [d1, d2, d3, d4, d5, d6] => { results := [.lit (.bool true)], args := [d1, d2, d3, d4, d5, d6] }
  | _ => none }
def fnExactCheckTripleRow : OpenClaim := { program := "ytbkmgehigbjgmaa", sum := "ad7d6bb4083f3643ceec6b06d6c2cd3615065ee65388f61cf7d64d242a166568", func := "loop.example/g00877/laws.FnExactCheckTriple", spec := "fnExactCheckTriple", unfollowed := true, recurses := true, apart := false }
def FnExactCheckTripleSaid : Prop := fnExactCheckTripleRow.holds Try.pinned (OpenSpec.ofChange fnExactCheckTripleSpec)

/-- ITS FALSE NEIGHBOUR: 'it returns false'. Refute it at one input. -/
def fnExactCheckTripleWrong : ChangeSpec := { name := "fnExactCheckTriple", fn := fun _ => fun
  | [d1, d2, d3, d4, d5, d6] => { results := [.lit (.bool false)], args := [d1, d2, d3, d4, d5, d6] }
  | _ => none }
def FnExactCheckTripleWrongFalsely : Prop := fnExactCheckTripleRow.holds Try.pinned (OpenSpec.ofChange fnExactCheckTripleWrong)

/-- 'laws.FnExactPassingChecks': WHATEVER THE INPUT: true; the input reads as it did. -/
def fnExactPassingChecksSpec : ChangeSpec := { name := "fnExactPassingChecks", fn := fun _ => fun
  | [d1, d2, d3, d4, d5] => { results := [.lit (.bool true)], args := [d1, d2, d3, d4, d5] }
  | _ => none }
def fnExactPassingChecksRow : OpenClaim := { program := "ytbkmgehigbjgmaa", sum := "ad7d6bb4083f3643ceec6b06d6c2cd3615065ee65388f61cf7d64d242a166568", func := "loop.example/g00877/laws.FnExactPassingChecks", spec := "fnExactPassingChecks", unfollowed := true, recurses := true, apart := false }
def FnExactPassingChecksSaid : Prop := fnExactPassingChecksRow.holds Try.pinned (OpenSpec.ofChange fnExactPassingChecksSpec)

/-- ITS FALSE NEIGHBOUR: 'it returns false'. Refute it at one input. -/
def fnExactPassingChecksWrong : ChangeSpec := { name := "fnExactPassingChecks", fn := fun _ => fun
  | [d1, d2, d3, d4, d5] => { results := [.lit (.bool false)], args := [d1, d2, d3, d4, d5] }
  | _ => none }
def FnExactPassingChecksWrongFalsely : Prop := fnExactPassingChecksRow.holds Try.pinned (OpenSpec.ofChange fnExactPassingChecksWrong)

/-- 'laws.FnExactTripleFor': WHATEVER THE INPUT: true; the input reads as it did. -/
def fnExactTripleForSpec : ChangeSpec := { name := "fnExactTripleFor", fn := fun _ => fun
  | [d1, d2, d3] => { results := [.lit (.bool true)], args := [d1, d2, d3] }
  | _ => none }
def fnExactTripleForRow : OpenClaim := { program := "ytbkmgehigbjgmaa", sum := "ad7d6bb4083f3643ceec6b06d6c2cd3615065ee65388f61cf7d64d242a166568", func := "loop.example/g00877/laws.FnExactTripleFor", spec := "fnExactTripleFor", apart := false }
def FnExactTripleForSaid : Prop := fnExactTripleForRow.holds Try.pinned (OpenSpec.ofChange fnExactTripleForSpec)

/-- ITS FALSE NEIGHBOUR: 'it returns false'. Refute it at one input. -/
def fnExactTripleForWrong : ChangeSpec := { name := "fnExactTripleFor", fn := fun _ => fun
  | [d1, d2, d3] => { results := [.lit (.bool false)], args := [d1, d2, d3] }
  | _ => none }
def FnExactTripleForWrongFalsely : Prop := fnExactTripleForRow.holds Try.pinned (OpenSpec.ofChange fnExactTripleForWrong)

/-- 'laws.FnExactMultiplyPairs': WHATEVER THE INPUT: true; the input reads as it did. -/
def fnExactMultiplyPairsSpec : ChangeSpec := { name := "fnExactMultiplyPairs", fn := fun _ => fun
  | [d1, d2, d3, d4, d5] => { results := [.lit (.bool true)], args := [d1, d2, d3, d4, d5] }
  | _ => none }
def fnExactMultiplyPairsRow : OpenClaim := { program := "ytbkmgehigbjgmaa", sum := "ad7d6bb4083f3643ceec6b06d6c2cd3615065ee65388f61cf7d64d242a166568", func := "loop.example/g00877/laws.FnExactMultiplyPairs", spec := "fnExactMultiplyPairs", unfollowed := true, recurses := true, apart := false }
def FnExactMultiplyPairsSaid : Prop := fnExactMultiplyPairsRow.holds Try.pinned (OpenSpec.ofChange fnExactMultiplyPairsSpec)

/-- ITS FALSE NEIGHBOUR: 'it returns false'. Refute it at one input. -/
def fnExactMultiplyPairsWrong : ChangeSpec := { name := "fnExactMultiplyPairs", fn := fun _ => fun
  | [d1, d2, d3, d4, d5] => { results := [.lit (.bool false)], args := [d1, d2, d3, d4, d5] }
  | _ => none }
def FnExactMultiplyPairsWrongFalsely : Prop := fnExactMultiplyPairsRow.holds Try.pinned (OpenSpec.ofChange fnExactMultiplyPairsWrong)

/-- 'laws.FnExactPowerShared': WHATEVER THE INPUT: true; the input reads as it did. -/
def fnExactPowerSharedSpec : ChangeSpec := { name := "fnExactPowerShared", fn := fun _ => fun
  | [d1, d2, d3, d4] => { results := [.lit (.bool true)], args := [d1, d2, d3, d4] }
  | _ => none }
def fnExactPowerSharedRow : OpenClaim := { program := "ytbkmgehigbjgmaa", sum := "ad7d6bb4083f3643ceec6b06d6c2cd3615065ee65388f61cf7d64d242a166568", func := "loop.example/g00877/laws.FnExactPowerShared", spec := "fnExactPowerShared", unfollowed := true, recurses := true, apart := false }
def FnExactPowerSharedSaid : Prop := fnExactPowerSharedRow.holds Try.pinned (OpenSpec.ofChange fnExactPowerSharedSpec)

/-- ITS FALSE NEIGHBOUR: 'it returns false'. Refute it at one input. -/
def fnExactPowerSharedWrong : ChangeSpec := { name := "fnExactPowerShared", fn := fun _ => fun
  | [d1, d2, d3, d4] => { results := [.lit (.bool false)], args := [d1, d2, d3, d4] }
  | _ => none }
def FnExactPowerSharedWrongFalsely : Prop := fnExactPowerSharedRow.holds Try.pinned (OpenSpec.ofChange fnExactPowerSharedWrong)

/-- 'laws.FnExactDotShared': WHATEVER THE INPUT: true; the input reads as it did. -/
def fnExactDotSharedSpec : ChangeSpec := { name := "fnExactDotShared", fn := fun _ => fun
  | [d1, d2, d3, d4] => { results := [.lit (.bool true)], args := [d1, d2, d3, d4] }
  | _ => none }
def fnExactDotSharedRow : OpenClaim := { program := "ytbkmgehigbjgmaa", sum := "ad7d6bb4083f3643ceec6b06d6c2cd3615065ee65388f61cf7d64d242a166568", func := "loop.example/g00877/laws.FnExactDotShared", spec := "fnExactDotShared", unfollowed := true, recurses := true, apart := false }
def FnExactDotSharedSaid : Prop := fnExactDotSharedRow.holds Try.pinned (OpenSpec.ofChange fnExactDotSharedSpec)

/-- ITS FALSE NEIGHBOUR: 'it returns false'. Refute it at one input. -/
def fnExactDotSharedWrong : ChangeSpec := { name := "fnExactDotShared", fn := fun _ => fun
  | [d1, d2, d3, d4] => { results := [.lit (.bool false)], args := [d1, d2, d3, d4] }
  | _ => none }
def FnExactDotSharedWrongFalsely : Prop := fnExactDotSharedRow.holds Try.pinned (OpenSpec.ofChange fnExactDotSharedWrong)

/- THE SECOND FORM. 'bulk': how many values and letters a reading holds, each counted each time it is reached (what is shared counts as often as it is met; a slice's spare places count too). A statement '..UptoSaid' is the law's where the arguments, and the package variables that the reading takes, are together of bulk at most 1048576: NARROWER than '..Said'. Prove '..Said' where nothing that the law and all that it calls make is longer than what came in: it says more and counts as full. Else prove '..UptoSaid'. A law counts once. -/
mutual
def uptoBulk {H : Type} : DataW H → Nat
  | .lit (.string bytes) => bytes.length + 1
  | .lit _ => 1
  | .nil => 1
  | .ptr d => uptoBulk d + 1
  | .slice elems spare => uptoBulkAll elems + uptoBulkAll spare + 1
  | .agg parts => uptoBulkAll parts + 1
  | .iface _ d => uptoBulk d + 1
  | .map entries => uptoBulkEntries entries + 1
  | .held _ => 1
def uptoBulkAll {H : Type} : List (DataW H) → Nat
  | [] => 0
  | d :: r => uptoBulk d + uptoBulkAll r
def uptoBulkEntries {H : Type} : List (Lit × DataW H) → Nat
  | [] => 0
  | x :: r => uptoBulkEntry x + uptoBulkEntries r
def uptoBulkEntry {H : Type} : Lit × DataW H → Nat
  | (.string bytes, d) => bytes.length + uptoBulk d + 1
  | (_, d) => uptoBulk d + 1
 end
def uptoSmall : (H : Type) → List (DataW H) → Bool := fun _ ds => decide (uptoBulkAll ds ≤ 1048576)
def OpenSpec.upto (s : _root_.Go.ChangeSpec) : _root_.Go.OpenSpec := { _root_.Go.OpenSpec.ofChange s with cond := some uptoSmall }

/-- 'laws.FnExactTripleFits', WHERE WHAT IT READS IS OF BULK AT MOST 1048576: true; the input reads as it did. -/
def fnExactTripleFitsUptoRow : OpenClaim := { program := "ytbkmgehigbjgmaa", sum := "ad7d6bb4083f3643ceec6b06d6c2cd3615065ee65388f61cf7d64d242a166568", func := "loop.example/g00877/laws.FnExactTripleFits", spec := "fnExactTripleFits", unfollowed := true, recurses := true, apart := false, narrowed := true }
def FnExactTripleFitsUptoSaid : Prop := fnExactTripleFitsUptoRow.holds Try.pinned (OpenSpec.upto fnExactTripleFitsSpec)

/-- 'laws.FnExactOpenWays', WHERE WHAT IT READS IS OF BULK AT MOST 1048576: true; the input reads as it did. -/
def fnExactOpenWaysUptoRow : OpenClaim := { program := "ytbkmgehigbjgmaa", sum := "ad7d6bb4083f3643ceec6b06d6c2cd3615065ee65388f61cf7d64d242a166568", func := "loop.example/g00877/laws.FnExactOpenWays", spec := "fnExactOpenWays", unfollowed := true, recurses := true, apart := false, narrowed := true }
def FnExactOpenWaysUptoSaid : Prop := fnExactOpenWaysUptoRow.holds Try.pinned (OpenSpec.upto fnExactOpenWaysSpec)

/-- 'laws.FnExactIsTriple', WHERE WHAT IT READS IS OF BULK AT MOST 1048576: true; the input reads as it did. -/
def fnExactIsTripleUptoRow : OpenClaim := { program := "ytbkmgehigbjgmaa", sum := "ad7d6bb4083f3643ceec6b06d6c2cd3615065ee65388f61cf7d64d242a166568", func := "loop.example/g00877/laws.FnExactIsTriple", spec := "fnExactIsTriple", unfollowed := true, recurses := true, apart := false, narrowed := true }
def FnExactIsTripleUptoSaid : Prop := fnExactIsTripleUptoRow.holds Try.pinned (OpenSpec.upto fnExactIsTripleSpec)

/-- 'laws.FnExactProductShare', WHERE WHAT IT READS IS OF BULK AT MOST 1048576: true; the input reads as it did. -/
def fnExactProductShareUptoRow : OpenClaim := { program := "ytbkmgehigbjgmaa", sum := "ad7d6bb4083f3643ceec6b06d6c2cd3615065ee65388f61cf7d64d242a166568", func := "loop.example/g00877/laws.FnExactProductShare", spec := "fnExactProductShare", unfollowed := true, recurses := true, apart := false, narrowed := true }
def FnExactProductShareUptoSaid : Prop := fnExactProductShareUptoRow.holds Try.pinned (OpenSpec.upto fnExactProductShareSpec)

/-- 'laws.FnExactMaskPair', WHERE WHAT IT READS IS OF BULK AT MOST 1048576: true; the input reads as it did. -/
def fnExactMaskPairUptoRow : OpenClaim := { program := "ytbkmgehigbjgmaa", sum := "ad7d6bb4083f3643ceec6b06d6c2cd3615065ee65388f61cf7d64d242a166568", func := "loop.example/g00877/laws.FnExactMaskPair", spec := "fnExactMaskPair", unfollowed := true, recurses := true, apart := false, narrowed := true }
def FnExactMaskPairUptoSaid : Prop := fnExactMaskPairUptoRow.holds Try.pinned (OpenSpec.upto fnExactMaskPairSpec)

/-- 'laws.FnExactBitTriple', WHERE WHAT IT READS IS OF BULK AT MOST 1048576: true; the input reads as it did. -/
def fnExactBitTripleUptoRow : OpenClaim := { program := "ytbkmgehigbjgmaa", sum := "ad7d6bb4083f3643ceec6b06d6c2cd3615065ee65388f61cf7d64d242a166568", func := "loop.example/g00877/laws.FnExactBitTriple", spec := "fnExactBitTriple", apart := false, narrowed := true }
def FnExactBitTripleUptoSaid : Prop := fnExactBitTripleUptoRow.holds Try.pinned (OpenSpec.upto fnExactBitTripleSpec)

/-- 'laws.FnExactCheckTriple', WHERE WHAT IT READS IS OF BULK AT MOST 1048576: true; the input reads as it did. -/
def fnExactCheckTripleUptoRow : OpenClaim := { program := "ytbkmgehigbjgmaa", sum := "ad7d6bb4083f3643ceec6b06d6c2cd3615065ee65388f61cf7d64d242a166568", func := "loop.example/g00877/laws.FnExactCheckTriple", spec := "fnExactCheckTriple", unfollowed := true, recurses := true, apart := false, narrowed := true }
def FnExactCheckTripleUptoSaid : Prop := fnExactCheckTripleUptoRow.holds Try.pinned (OpenSpec.upto fnExactCheckTripleSpec)

/-- 'laws.FnExactPassingChecks', WHERE WHAT IT READS IS OF BULK AT MOST 1048576: true; the input reads as it did. -/
def fnExactPassingChecksUptoRow : OpenClaim := { program := "ytbkmgehigbjgmaa", sum := "ad7d6bb4083f3643ceec6b06d6c2cd3615065ee65388f61cf7d64d242a166568", func := "loop.example/g00877/laws.FnExactPassingChecks", spec := "fnExactPassingChecks", unfollowed := true, recurses := true, apart := false, narrowed := true }
def FnExactPassingChecksUptoSaid : Prop := fnExactPassingChecksUptoRow.holds Try.pinned (OpenSpec.upto fnExactPassingChecksSpec)

/-- 'laws.FnExactTripleFor', WHERE WHAT IT READS IS OF BULK AT MOST 1048576: true; the input reads as it did. -/
def fnExactTripleForUptoRow : OpenClaim := { program := "ytbkmgehigbjgmaa", sum := "ad7d6bb4083f3643ceec6b06d6c2cd3615065ee65388f61cf7d64d242a166568", func := "loop.example/g00877/laws.FnExactTripleFor", spec := "fnExactTripleFor", apart := false, narrowed := true }
def FnExactTripleForUptoSaid : Prop := fnExactTripleForUptoRow.holds Try.pinned (OpenSpec.upto fnExactTripleForSpec)

/-- 'laws.FnExactMultiplyPairs', WHERE WHAT IT READS IS OF BULK AT MOST 1048576: true; the input reads as it did. -/
def fnExactMultiplyPairsUptoRow : OpenClaim := { program := "ytbkmgehigbjgmaa", sum := "ad7d6bb4083f3643ceec6b06d6c2cd3615065ee65388f61cf7d64d242a166568", func := "loop.example/g00877/laws.FnExactMultiplyPairs", spec := "fnExactMultiplyPairs", unfollowed := true, recurses := true, apart := false, narrowed := true }
def FnExactMultiplyPairsUptoSaid : Prop := fnExactMultiplyPairsUptoRow.holds Try.pinned (OpenSpec.upto fnExactMultiplyPairsSpec)

/-- 'laws.FnExactPowerShared', WHERE WHAT IT READS IS OF BULK AT MOST 1048576: true; the input reads as it did. -/
def fnExactPowerSharedUptoRow : OpenClaim := { program := "ytbkmgehigbjgmaa", sum := "ad7d6bb4083f3643ceec6b06d6c2cd3615065ee65388f61cf7d64d242a166568", func := "loop.example/g00877/laws.FnExactPowerShared", spec := "fnExactPowerShared", unfollowed := true, recurses := true, apart := false, narrowed := true }
def FnExactPowerSharedUptoSaid : Prop := fnExactPowerSharedUptoRow.holds Try.pinned (OpenSpec.upto fnExactPowerSharedSpec)

/-- 'laws.FnExactDotShared', WHERE WHAT IT READS IS OF BULK AT MOST 1048576: true; the input reads as it did. -/
def fnExactDotSharedUptoRow : OpenClaim := { program := "ytbkmgehigbjgmaa", sum := "ad7d6bb4083f3643ceec6b06d6c2cd3615065ee65388f61cf7d64d242a166568", func := "loop.example/g00877/laws.FnExactDotShared", spec := "fnExactDotShared", unfollowed := true, recurses := true, apart := false, narrowed := true }
def FnExactDotSharedUptoSaid : Prop := fnExactDotSharedUptoRow.holds Try.pinned (OpenSpec.upto fnExactDotSharedSpec)

end Rows
end Go.Proofs.Ytbkmgehigbjgmaa
