/-
  No cell of these rows narrows 'for every input' (looked for: loops, veiled, ifaces, maps, wideKeys, modest, calm, conditions, laid).
  DERIVED. THE GIVEN ROWS OF THIS SEAT. 12 by the template 'for every input the law returns true; each argument reads behind the call as it read before'; 0 by the template 'total and deterministic' (their statements: YtjnpjfncnmaomaaTotals.lean).
  GIVEN WITH THE SEED: the statements are not yours to turn. If you find one false, say at which input.
  Laid BY PROGRAM, IN A SANDBOX (cutbox-rows.mjs): the forced cells as the released guide's own fill.sh prints them over the translation c261b03a1f139b9a… (all of the seat's roots in one cut). By AI agents, Wed Nov 11 2026. No macro, syntax, notation, axiom, sorry.
-/
import Derived.Test.YtjnpjfncnmaomaaChecked
import GoSem.Claim
import GoSem.ClaimJoined
import GoSem.ClaimMapViews
import Derived.JoinedTies
import Derived.KernelRfl
namespace Go.Proofs.Ytjnpjfncnmaomaa
/- THE CELL 'sum', in the pinned program and in every row, IS THE sha256 OF THE DUMP (.gsa) THAT YtjnpjfncnmaomaaProg.lean LOADS. Nothing in Lean hashes anything: it is a label: what it is worth is what the hold of that sum in a sandbox is worth. -/
noncomputable def Try.pinned : Pinned := { name := "ytjnpjfncnmaomaa", sum := "c261b03a1f139b9a55699a5dbac8ca0ce64b71ee279ae66fa00ab84cd3844cf1", checked := Try.checked }
namespace Rows
def none {H : Type} : Left H := { results := [], args := [] }

/-- 'laws.FnExactFirstMessage': WHATEVER THE INPUT: true; the input reads as it did. -/
def fnExactFirstMessageSpec : ChangeSpec := { name := "fnExactFirstMessage", fn := fun _ => fun
  | [d1, d2] => { results := [.lit (.bool true)], args := [d1, d2] }
  | _ => none }
def fnExactFirstMessageRow : OpenClaim := { program := "ytjnpjfncnmaomaa", sum := "c261b03a1f139b9a55699a5dbac8ca0ce64b71ee279ae66fa00ab84cd3844cf1", func := "loop.example/g00877/laws.FnExactFirstMessage", spec := "fnExactFirstMessage", apart := false }
def FnExactFirstMessageSaid : Prop := fnExactFirstMessageRow.holds Try.pinned (OpenSpec.ofChange fnExactFirstMessageSpec)

/-- ITS FALSE NEIGHBOUR: 'it returns false'. Refute it at one input. -/
def fnExactFirstMessageWrong : ChangeSpec := { name := "fnExactFirstMessage", fn := fun _ => fun
  | [d1, d2] => { results := [.lit (.bool false)], args := [d1, d2] }
  | _ => none }
def FnExactFirstMessageWrongFalsely : Prop := fnExactFirstMessageRow.holds Try.pinned (OpenSpec.ofChange fnExactFirstMessageWrong)

/-- 'laws.FnExactAnswerTo': WHATEVER THE INPUT: true; the input reads as it did. -/
def fnExactAnswerToSpec : ChangeSpec := { name := "fnExactAnswerTo", fn := fun _ => fun
  | [d1, d2, d3, d4] => { results := [.lit (.bool true)], args := [d1, d2, d3, d4] }
  | _ => none }
def fnExactAnswerToRow : OpenClaim := { program := "ytjnpjfncnmaomaa", sum := "c261b03a1f139b9a55699a5dbac8ca0ce64b71ee279ae66fa00ab84cd3844cf1", func := "loop.example/g00877/laws.FnExactAnswerTo", spec := "fnExactAnswerTo", apart := false }
def FnExactAnswerToSaid : Prop := fnExactAnswerToRow.holds Try.pinned (OpenSpec.ofChange fnExactAnswerToSpec)

/-- ITS FALSE NEIGHBOUR: 'it returns false'. Refute it at one input. -/
def fnExactAnswerToWrong : ChangeSpec := { name := "fnExactAnswerTo", fn := fun _ => fun
  | [d1, d2, d3, d4] => { results := [.lit (.bool false)], args := [d1, d2, d3, d4] }
  | _ => none }
def FnExactAnswerToWrongFalsely : Prop := fnExactAnswerToRow.holds Try.pinned (OpenSpec.ofChange fnExactAnswerToWrong)

/-- 'laws.FnExactChosenPad': WHATEVER THE INPUT: true; the input reads as it did. -/
def fnExactChosenPadSpec : ChangeSpec := { name := "fnExactChosenPad", fn := fun _ => fun
  | [d1, d2, d3, d4] => { results := [.lit (.bool true)], args := [d1, d2, d3, d4] }
  | _ => none }
def fnExactChosenPadRow : OpenClaim := { program := "ytjnpjfncnmaomaa", sum := "c261b03a1f139b9a55699a5dbac8ca0ce64b71ee279ae66fa00ab84cd3844cf1", func := "loop.example/g00877/laws.FnExactChosenPad", spec := "fnExactChosenPad", apart := false }
def FnExactChosenPadSaid : Prop := fnExactChosenPadRow.holds Try.pinned (OpenSpec.ofChange fnExactChosenPadSpec)

/-- ITS FALSE NEIGHBOUR: 'it returns false'. Refute it at one input. -/
def fnExactChosenPadWrong : ChangeSpec := { name := "fnExactChosenPad", fn := fun _ => fun
  | [d1, d2, d3, d4] => { results := [.lit (.bool false)], args := [d1, d2, d3, d4] }
  | _ => none }
def FnExactChosenPadWrongFalsely : Prop := fnExactChosenPadRow.holds Try.pinned (OpenSpec.ofChange fnExactChosenPadWrong)

/-- 'laws.FnExactAnswerWays': WHATEVER THE INPUT: true; the input reads as it did. -/
def fnExactAnswerWaysSpec : ChangeSpec := { name := "fnExactAnswerWays", fn := fun _ => fun
  | [d1, d2, d3] => { results := [.lit (.bool true)], args := [d1, d2, d3] }
  | _ => none }
def fnExactAnswerWaysRow : OpenClaim := { program := "ytjnpjfncnmaomaa", sum := "c261b03a1f139b9a55699a5dbac8ca0ce64b71ee279ae66fa00ab84cd3844cf1", func := "loop.example/g00877/laws.FnExactAnswerWays", spec := "fnExactAnswerWays", apart := false }
def FnExactAnswerWaysSaid : Prop := fnExactAnswerWaysRow.holds Try.pinned (OpenSpec.ofChange fnExactAnswerWaysSpec)

/-- ITS FALSE NEIGHBOUR: 'it returns false'. Refute it at one input. -/
def fnExactAnswerWaysWrong : ChangeSpec := { name := "fnExactAnswerWays", fn := fun _ => fun
  | [d1, d2, d3] => { results := [.lit (.bool false)], args := [d1, d2, d3] }
  | _ => none }
def FnExactAnswerWaysWrongFalsely : Prop := fnExactAnswerWaysRow.holds Try.pinned (OpenSpec.ofChange fnExactAnswerWaysWrong)

/-- 'laws.FnExactPadsOf': WHATEVER THE INPUT: true; the input reads as it did. -/
def fnExactPadsOfSpec : ChangeSpec := { name := "fnExactPadsOf", fn := fun _ => fun
  | [d1, d2, d3, d4] => { results := [.lit (.bool true)], args := [d1, d2, d3, d4] }
  | _ => none }
def fnExactPadsOfRow : OpenClaim := { program := "ytjnpjfncnmaomaa", sum := "c261b03a1f139b9a55699a5dbac8ca0ce64b71ee279ae66fa00ab84cd3844cf1", func := "loop.example/g00877/laws.FnExactPadsOf", spec := "fnExactPadsOf", apart := false }
def FnExactPadsOfSaid : Prop := fnExactPadsOfRow.holds Try.pinned (OpenSpec.ofChange fnExactPadsOfSpec)

/-- ITS FALSE NEIGHBOUR: 'it returns false'. Refute it at one input. -/
def fnExactPadsOfWrong : ChangeSpec := { name := "fnExactPadsOf", fn := fun _ => fun
  | [d1, d2, d3, d4] => { results := [.lit (.bool false)], args := [d1, d2, d3, d4] }
  | _ => none }
def FnExactPadsOfWrongFalsely : Prop := fnExactPadsOfRow.holds Try.pinned (OpenSpec.ofChange fnExactPadsOfWrong)

/-- 'laws.FnExactOpenChosen': WHATEVER THE INPUT: true; the input reads as it did. -/
def fnExactOpenChosenSpec : ChangeSpec := { name := "fnExactOpenChosen", fn := fun _ => fun
  | [d1, d2, d3, d4, d5, d6, d7] => { results := [.lit (.bool true)], args := [d1, d2, d3, d4, d5, d6, d7] }
  | _ => none }
def fnExactOpenChosenRow : OpenClaim := { program := "ytjnpjfncnmaomaa", sum := "c261b03a1f139b9a55699a5dbac8ca0ce64b71ee279ae66fa00ab84cd3844cf1", func := "loop.example/g00877/laws.FnExactOpenChosen", spec := "fnExactOpenChosen", apart := false }
def FnExactOpenChosenSaid : Prop := fnExactOpenChosenRow.holds Try.pinned (OpenSpec.ofChange fnExactOpenChosenSpec)

/-- ITS FALSE NEIGHBOUR: 'it returns false'. Refute it at one input. -/
def fnExactOpenChosenWrong : ChangeSpec := { name := "fnExactOpenChosen", fn := fun _ => fun
  | [d1, d2, d3, d4, d5, d6, d7] => { results := [.lit (.bool false)], args := [d1, d2, d3, d4, d5, d6, d7] }
  | _ => none }
def FnExactOpenChosenWrongFalsely : Prop := fnExactOpenChosenRow.holds Try.pinned (OpenSpec.ofChange fnExactOpenChosenWrong)

/-- 'laws.FnExactSealPair': WHATEVER THE INPUT: true; the input reads as it did. -/
def fnExactSealPairSpec : ChangeSpec := { name := "fnExactSealPair", fn := fun _ => fun
  | [d1, d2, d3, d4, d5, d6] => { results := [.lit (.bool true)], args := [d1, d2, d3, d4, d5, d6] }
  | _ => none }
def fnExactSealPairRow : OpenClaim := { program := "ytjnpjfncnmaomaa", sum := "c261b03a1f139b9a55699a5dbac8ca0ce64b71ee279ae66fa00ab84cd3844cf1", func := "loop.example/g00877/laws.FnExactSealPair", spec := "fnExactSealPair", apart := false }
def FnExactSealPairSaid : Prop := fnExactSealPairRow.holds Try.pinned (OpenSpec.ofChange fnExactSealPairSpec)

/-- ITS FALSE NEIGHBOUR: 'it returns false'. Refute it at one input. -/
def fnExactSealPairWrong : ChangeSpec := { name := "fnExactSealPair", fn := fun _ => fun
  | [d1, d2, d3, d4, d5, d6] => { results := [.lit (.bool false)], args := [d1, d2, d3, d4, d5, d6] }
  | _ => none }
def FnExactSealPairWrongFalsely : Prop := fnExactSealPairRow.holds Try.pinned (OpenSpec.ofChange fnExactSealPairWrong)

/-- 'laws.FnExactTransferViews': WHATEVER THE INPUT: true; the input reads as it did. -/
def fnExactTransferViewsSpec : ChangeSpec := { name := "fnExactTransferViews", fn := fun _ => fun
  | [d1, d2, d3] => { results := [.lit (.bool true)], args := [d1, d2, d3] }
  | _ => none }
def fnExactTransferViewsRow : OpenClaim := { program := "ytjnpjfncnmaomaa", sum := "c261b03a1f139b9a55699a5dbac8ca0ce64b71ee279ae66fa00ab84cd3844cf1", func := "loop.example/g00877/laws.FnExactTransferViews", spec := "fnExactTransferViews", unfollowed := true, recurses := true, apart := false }
def FnExactTransferViewsSaid : Prop := fnExactTransferViewsRow.holds Try.pinned (OpenSpec.ofChange fnExactTransferViewsSpec)

/-- ITS FALSE NEIGHBOUR: 'it returns false'. Refute it at one input. -/
def fnExactTransferViewsWrong : ChangeSpec := { name := "fnExactTransferViews", fn := fun _ => fun
  | [d1, d2, d3] => { results := [.lit (.bool false)], args := [d1, d2, d3] }
  | _ => none }
def FnExactTransferViewsWrongFalsely : Prop := fnExactTransferViewsRow.holds Try.pinned (OpenSpec.ofChange fnExactTransferViewsWrong)

/-- 'laws.FnExactTransferAll': WHATEVER THE INPUT: true; the input reads as it did. -/
def fnExactTransferAllSpec : ChangeSpec := { name := "fnExactTransferAll", fn := fun _ => fun
  | [d1, d2, d3, d4] => { results := [.lit (.bool true)], args := [d1, d2, d3, d4] }
  | _ => none }
def fnExactTransferAllRow : OpenClaim := { program := "ytjnpjfncnmaomaa", sum := "c261b03a1f139b9a55699a5dbac8ca0ce64b71ee279ae66fa00ab84cd3844cf1", func := "loop.example/g00877/laws.FnExactTransferAll", spec := "fnExactTransferAll", unfollowed := true, recurses := true, apart := false }
def FnExactTransferAllSaid : Prop := fnExactTransferAllRow.holds Try.pinned (OpenSpec.ofChange fnExactTransferAllSpec)

/-- ITS FALSE NEIGHBOUR: 'it returns false'. Refute it at one input. -/
def fnExactTransferAllWrong : ChangeSpec := { name := "fnExactTransferAll", fn := fun _ => fun
  | [d1, d2, d3, d4] => { results := [.lit (.bool false)], args := [d1, d2, d3, d4] }
  | _ => none }
def FnExactTransferAllWrongFalsely : Prop := fnExactTransferAllRow.holds Try.pinned (OpenSpec.ofChange fnExactTransferAllWrong)

/-- 'laws.FnElements': WHATEVER THE INPUT: true; the input reads as it did. -/
def fnElementsSpec : ChangeSpec := { name := "fnElements", fn := fun _ => fun
  | [d1, d2] => { results := [.lit (.bool true)], args := [d1, d2] }
  | _ => none }
def fnElementsRow : OpenClaim := { program := "ytjnpjfncnmaomaa", sum := "c261b03a1f139b9a55699a5dbac8ca0ce64b71ee279ae66fa00ab84cd3844cf1", func := "loop.example/g00877/laws.FnElements", spec := "fnElements", recurses := true, apart := false }
def FnElementsSaid : Prop := fnElementsRow.holds Try.pinned (OpenSpec.ofChange fnElementsSpec)

/-- ITS FALSE NEIGHBOUR: 'it returns false'. Refute it at one input. -/
def fnElementsWrong : ChangeSpec := { name := "fnElements", fn := fun _ => fun
  | [d1, d2] => { results := [.lit (.bool false)], args := [d1, d2] }
  | _ => none }
def FnElementsWrongFalsely : Prop := fnElementsRow.holds Try.pinned (OpenSpec.ofChange fnElementsWrong)

/-- 'laws.FnGroups': WHATEVER THE INPUT: true; the input reads as it did. -/
def fnGroupsSpec : ChangeSpec := { name := "fnGroups", fn := fun _ => fun
  | [d1, d2] => { results := [.lit (.bool true)], args := [d1, d2] }
  | _ => none }
def fnGroupsRow : OpenClaim := { program := "ytjnpjfncnmaomaa", sum := "c261b03a1f139b9a55699a5dbac8ca0ce64b71ee279ae66fa00ab84cd3844cf1", func := "loop.example/g00877/laws.FnGroups", spec := "fnGroups", recurses := true, apart := false }
def FnGroupsSaid : Prop := fnGroupsRow.holds Try.pinned (OpenSpec.ofChange fnGroupsSpec)

/-- ITS FALSE NEIGHBOUR: 'it returns false'. Refute it at one input. -/
def fnGroupsWrong : ChangeSpec := { name := "fnGroups", fn := fun _ => fun
  | [d1, d2] => { results := [.lit (.bool false)], args := [d1, d2] }
  | _ => none }
def FnGroupsWrongFalsely : Prop := fnGroupsRow.holds Try.pinned (OpenSpec.ofChange fnGroupsWrong)

/-- 'laws.FnTransfers': WHATEVER THE INPUT: true; the input reads as it did. -/
def fnTransfersSpec : ChangeSpec := { name := "fnTransfers", fn := fun _ => fun
  | [d1, d2] => { results := [.lit (.bool true)], args := [d1, d2] }
  | _ => none }
def fnTransfersRow : OpenClaim := { program := "ytjnpjfncnmaomaa", sum := "c261b03a1f139b9a55699a5dbac8ca0ce64b71ee279ae66fa00ab84cd3844cf1", func := "loop.example/g00877/laws.FnTransfers", spec := "fnTransfers", apart := false }
def FnTransfersSaid : Prop := fnTransfersRow.holds Try.pinned (OpenSpec.ofChange fnTransfersSpec)

/-- ITS FALSE NEIGHBOUR: 'it returns false'. Refute it at one input. -/
def fnTransfersWrong : ChangeSpec := { name := "fnTransfers", fn := fun _ => fun
  | [d1, d2] => { results := [.lit (.bool false)], args := [d1, d2] }
  | _ => none }
def FnTransfersWrongFalsely : Prop := fnTransfersRow.holds Try.pinned (OpenSpec.ofChange fnTransfersWrong)

/- THE SECOND FORM. 'bulk': how many values and letters a reading holds, each counted each time it is reached (what is shared counts as often as it is met; a slice's spare places count too). A statement '..UptoSaid' is the law's where the arguments, and the package variables that the reading takes, are together of bulk at most 1048576: NARROWER than '..Said'. Prove '..Said' where nothing that the law and all that it calls make is longer than what came in: it says more and counts as full. Else prove '..UptoSaid'. A law counts once. -/
mutual
def uptoBulk {H : Type} : DataW H → Nat
  | .lit (.string bytes) => bytes.length + 1
  | .lit _ => 1
  | .nil => 1
  | .ptr d => uptoBulk d + 1
  | .slice elems spare => uptoBulkAll elems + uptoBulkAll spare + 1
  | .agg parts => uptoBulkAll parts + 1
  | .iface _ d => uptoBulk d + 1
  | .map entries => uptoBulkEntries entries + 1
  | .held _ => 1
def uptoBulkAll {H : Type} : List (DataW H) → Nat
  | [] => 0
  | d :: r => uptoBulk d + uptoBulkAll r
def uptoBulkEntries {H : Type} : List (Lit × DataW H) → Nat
  | [] => 0
  | x :: r => uptoBulkEntry x + uptoBulkEntries r
def uptoBulkEntry {H : Type} : Lit × DataW H → Nat
  | (.string bytes, d) => bytes.length + uptoBulk d + 1
  | (_, d) => uptoBulk d + 1
 end
def uptoSmall : (H : Type) → List (DataW H) → Bool := fun _ ds => decide (uptoBulkAll ds ≤ 1048576)
def OpenSpec.upto (s : _root_.Go.ChangeSpec) : _root_.Go.OpenSpec := { _root_.Go.OpenSpec.ofChange s with cond := some uptoSmall }

/-- 'laws.FnExactFirstMessage', WHERE WHAT IT READS IS OF BULK AT MOST 1048576: true; the input reads as it did. -/
def fnExactFirstMessageUptoRow : OpenClaim := { program := "ytjnpjfncnmaomaa", sum := "c261b03a1f139b9a55699a5dbac8ca0ce64b71ee279ae66fa00ab84cd3844cf1", func := "loop.example/g00877/laws.FnExactFirstMessage", spec := "fnExactFirstMessage", apart := false, narrowed := true }
def FnExactFirstMessageUptoSaid : Prop := fnExactFirstMessageUptoRow.holds Try.pinned (OpenSpec.upto fnExactFirstMessageSpec)

/-- 'laws.FnExactAnswerTo', WHERE WHAT IT READS IS OF BULK AT MOST 1048576: true; the input reads as it did. -/
def fnExactAnswerToUptoRow : OpenClaim := { program := "ytjnpjfncnmaomaa", sum := "c261b03a1f139b9a55699a5dbac8ca0ce64b71ee279ae66fa00ab84cd3844cf1", func := "loop.example/g00877/laws.FnExactAnswerTo", spec := "fnExactAnswerTo", apart := false, narrowed := true }
def FnExactAnswerToUptoSaid : Prop := fnExactAnswerToUptoRow.holds Try.pinned (OpenSpec.upto fnExactAnswerToSpec)

/-- 'laws.FnExactChosenPad', WHERE WHAT IT READS IS OF BULK AT MOST 1048576: true; the input reads as it did. -/
def fnExactChosenPadUptoRow : OpenClaim := { program := "ytjnpjfncnmaomaa", sum := "c261b03a1f139b9a55699a5dbac8ca0ce64b71ee279ae66fa00ab84cd3844cf1", func := "loop.example/g00877/laws.FnExactChosenPad", spec := "fnExactChosenPad", apart := false, narrowed := true }
def FnExactChosenPadUptoSaid : Prop := fnExactChosenPadUptoRow.holds Try.pinned (OpenSpec.upto fnExactChosenPadSpec)

/-- 'laws.FnExactAnswerWays', WHERE WHAT IT READS IS OF BULK AT MOST 1048576: true; the input reads as it did. -/
def fnExactAnswerWaysUptoRow : OpenClaim := { program := "ytjnpjfncnmaomaa", sum := "c261b03a1f139b9a55699a5dbac8ca0ce64b71ee279ae66fa00ab84cd3844cf1", func := "loop.example/g00877/laws.FnExactAnswerWays", spec := "fnExactAnswerWays", apart := false, narrowed := true }
def FnExactAnswerWaysUptoSaid : Prop := fnExactAnswerWaysUptoRow.holds Try.pinned (OpenSpec.upto fnExactAnswerWaysSpec)

/-- 'laws.FnExactPadsOf', WHERE WHAT IT READS IS OF BULK AT MOST 1048576: true; the input reads as it did. -/
def fnExactPadsOfUptoRow : OpenClaim := { program := "ytjnpjfncnmaomaa", sum := "c261b03a1f139b9a55699a5dbac8ca0ce64b71ee279ae66fa00ab84cd3844cf1", func := "loop.example/g00877/laws.FnExactPadsOf", spec := "fnExactPadsOf", apart := false, narrowed := true }
def FnExactPadsOfUptoSaid : Prop := fnExactPadsOfUptoRow.holds Try.pinned (OpenSpec.upto fnExactPadsOfSpec)

/-- 'laws.FnExactOpenChosen', WHERE WHAT IT READS IS OF BULK AT MOST 1048576: true; the input reads as it did. -/
def fnExactOpenChosenUptoRow : OpenClaim := { program := "ytjnpjfncnmaomaa", sum := "c261b03a1f139b9a55699a5dbac8ca0ce64b71ee279ae66fa00ab84cd3844cf1", func := "loop.example/g00877/laws.FnExactOpenChosen", spec := "fnExactOpenChosen", apart := false, narrowed := true }
def FnExactOpenChosenUptoSaid : Prop := fnExactOpenChosenUptoRow.holds Try.pinned (OpenSpec.upto fnExactOpenChosenSpec)

/-- 'laws.FnExactSealPair', WHERE WHAT IT READS IS OF BULK AT MOST 1048576: true; the input reads as it did. -/
def fnExactSealPairUptoRow : OpenClaim := { program := "ytjnpjfncnmaomaa", sum := "c261b03a1f139b9a55699a5dbac8ca0ce64b71ee279ae66fa00ab84cd3844cf1", func := "loop.example/g00877/laws.FnExactSealPair", spec := "fnExactSealPair", apart := false, narrowed := true }
def FnExactSealPairUptoSaid : Prop := fnExactSealPairUptoRow.holds Try.pinned (OpenSpec.upto fnExactSealPairSpec)

/-- 'laws.FnExactTransferViews', WHERE WHAT IT READS IS OF BULK AT MOST 1048576: true; the input reads as it did. -/
def fnExactTransferViewsUptoRow : OpenClaim := { program := "ytjnpjfncnmaomaa", sum := "c261b03a1f139b9a55699a5dbac8ca0ce64b71ee279ae66fa00ab84cd3844cf1", func := "loop.example/g00877/laws.FnExactTransferViews", spec := "fnExactTransferViews", unfollowed := true, recurses := true, apart := false, narrowed := true }
def FnExactTransferViewsUptoSaid : Prop := fnExactTransferViewsUptoRow.holds Try.pinned (OpenSpec.upto fnExactTransferViewsSpec)

/-- 'laws.FnExactTransferAll', WHERE WHAT IT READS IS OF BULK AT MOST 1048576: true; the input reads as it did. -/
def fnExactTransferAllUptoRow : OpenClaim := { program := "ytjnpjfncnmaomaa", sum := "c261b03a1f139b9a55699a5dbac8ca0ce64b71ee279ae66fa00ab84cd3844cf1", func := "loop.example/g00877/laws.FnExactTransferAll", spec := "fnExactTransferAll", unfollowed := true, recurses := true, apart := false, narrowed := true }
def FnExactTransferAllUptoSaid : Prop := fnExactTransferAllUptoRow.holds Try.pinned (OpenSpec.upto fnExactTransferAllSpec)

/-- 'laws.FnElements', WHERE WHAT IT READS IS OF BULK AT MOST 1048576: true; the input reads as it did. -/
def fnElementsUptoRow : OpenClaim := { program := "ytjnpjfncnmaomaa", sum := "c261b03a1f139b9a55699a5dbac8ca0ce64b71ee279ae66fa00ab84cd3844cf1", func := "loop.example/g00877/laws.FnElements", spec := "fnElements", recurses := true, apart := false, narrowed := true }
def FnElementsUptoSaid : Prop := fnElementsUptoRow.holds Try.pinned (OpenSpec.upto fnElementsSpec)

/-- 'laws.FnGroups', WHERE WHAT IT READS IS OF BULK AT MOST 1048576: true; the input reads as it did. -/
def fnGroupsUptoRow : OpenClaim := { program := "ytjnpjfncnmaomaa", sum := "c261b03a1f139b9a55699a5dbac8ca0ce64b71ee279ae66fa00ab84cd3844cf1", func := "loop.example/g00877/laws.FnGroups", spec := "fnGroups", recurses := true, apart := false, narrowed := true }
def FnGroupsUptoSaid : Prop := fnGroupsUptoRow.holds Try.pinned (OpenSpec.upto fnGroupsSpec)

/-- 'laws.FnTransfers', WHERE WHAT IT READS IS OF BULK AT MOST 1048576: true; the input reads as it did. -/
def fnTransfersUptoRow : OpenClaim := { program := "ytjnpjfncnmaomaa", sum := "c261b03a1f139b9a55699a5dbac8ca0ce64b71ee279ae66fa00ab84cd3844cf1", func := "loop.example/g00877/laws.FnTransfers", spec := "fnTransfers", apart := false, narrowed := true }
def FnTransfersUptoSaid : Prop := fnTransfersUptoRow.holds Try.pinned (OpenSpec.upto fnTransfersSpec)

end Rows
end Go.Proofs.Ytjnpjfncnmaomaa
