/-
  No cell of these rows narrows 'for every input' (looked for: loops, veiled, ifaces, maps, wideKeys, modest, calm, conditions, laid).
  DERIVED. THE GIVEN ROWS OF THIS SEAT. 11 by the template 'for every input the law returns true; each argument reads behind the call as it read before'; 0 by the template 'total and deterministic' (their statements: YtnamhfaacamihaaTotals.lean).
  GIVEN WITH THE SEED: the statements are not yours to turn. If you find one false, say at which input.
  Laid BY PROGRAM, IN A SANDBOX (cutbox-rows.mjs): the forced cells as the released guide's own fill.sh prints them over the translation 5c4b5823e4de985c… (all of the seat's roots in one cut). By AI agents, Wed Nov 11 2026. No macro, syntax, notation, axiom, sorry.
-/
import Derived.Test.YtnamhfaacamihaaChecked
import GoSem.Claim
import GoSem.ClaimJoined
import GoSem.ClaimMapViews
import Derived.JoinedTies
import Derived.KernelRfl
namespace Go.Proofs.Ytnamhfaacamihaa
/- THE CELL 'sum', in the pinned program and in every row, IS THE sha256 OF THE DUMP (.gsa) THAT YtnamhfaacamihaaProg.lean LOADS. Nothing in Lean hashes anything: it is a label: what it is worth is what the hold of that sum in a sandbox is worth. -/
noncomputable def Try.pinned : Pinned := { name := "ytnamhfaacamihaa", sum := "5c4b5823e4de985c02650d94c075deba0691b390922ca069f6f40eb7defcc0fb", checked := Try.checked }
namespace Rows
def none {H : Type} : Left H := { results := [], args := [] }

/-- 'laws.FnExactTagHolds': WHATEVER THE INPUT: true; the input reads as it did. -/
def fnExactTagHoldsSpec : ChangeSpec := { name := "fnExactTagHolds", fn := fun _ => fun
  | [d1, d2, d3, d4] => { results := [.lit (.bool true)], args := [d1, d2, d3, d4] }
  | _ => none }
def fnExactTagHoldsRow : OpenClaim := { program := "ytnamhfaacamihaa", sum := "5c4b5823e4de985c02650d94c075deba0691b390922ca069f6f40eb7defcc0fb", func := "loop.example/g00877/laws.FnExactTagHolds", spec := "fnExactTagHolds", apart := false }
def FnExactTagHoldsSaid : Prop := fnExactTagHoldsRow.holds Try.pinned (OpenSpec.ofChange fnExactTagHoldsSpec)

/-- ITS FALSE NEIGHBOUR: 'it returns false'. Refute it at one input. -/
def fnExactTagHoldsWrong : ChangeSpec := { name := "fnExactTagHolds", fn := fun _ => fun
  | [d1, d2, d3, d4] => { results := [.lit (.bool false)], args := [d1, d2, d3, d4] }
  | _ => none }
def FnExactTagHoldsWrongFalsely : Prop := fnExactTagHoldsRow.holds Try.pinned (OpenSpec.ofChange fnExactTagHoldsWrong)

/-- 'laws.FnExactShiftKey': WHATEVER THE INPUT: true; the input reads as it did. -/
def fnExactShiftKeySpec : ChangeSpec := { name := "fnExactShiftKey", fn := fun _ => fun
  | [d1, d2, d3, d4] => { results := [.lit (.bool true)], args := [d1, d2, d3, d4] }
  | _ => none }
def fnExactShiftKeyRow : OpenClaim := { program := "ytnamhfaacamihaa", sum := "5c4b5823e4de985c02650d94c075deba0691b390922ca069f6f40eb7defcc0fb", func := "loop.example/g00877/laws.FnExactShiftKey", spec := "fnExactShiftKey", unfollowed := true, recurses := true, apart := false }
def FnExactShiftKeySaid : Prop := fnExactShiftKeyRow.holds Try.pinned (OpenSpec.ofChange fnExactShiftKeySpec)

/-- ITS FALSE NEIGHBOUR: 'it returns false'. Refute it at one input. -/
def fnExactShiftKeyWrong : ChangeSpec := { name := "fnExactShiftKey", fn := fun _ => fun
  | [d1, d2, d3, d4] => { results := [.lit (.bool false)], args := [d1, d2, d3, d4] }
  | _ => none }
def FnExactShiftKeyWrongFalsely : Prop := fnExactShiftKeyRow.holds Try.pinned (OpenSpec.ofChange fnExactShiftKeyWrong)

/-- 'laws.FnExactShiftTagged': WHATEVER THE INPUT: true; the input reads as it did. -/
def fnExactShiftTaggedSpec : ChangeSpec := { name := "fnExactShiftTagged", fn := fun _ => fun
  | [d1, d2, d3] => { results := [.lit (.bool true)], args := [d1, d2, d3] }
  | _ => none }
def fnExactShiftTaggedRow : OpenClaim := { program := "ytnamhfaacamihaa", sum := "5c4b5823e4de985c02650d94c075deba0691b390922ca069f6f40eb7defcc0fb", func := "loop.example/g00877/laws.FnExactShiftTagged", spec := "fnExactShiftTagged", apart := false }
def FnExactShiftTaggedSaid : Prop := fnExactShiftTaggedRow.holds Try.pinned (OpenSpec.ofChange fnExactShiftTaggedSpec)

/-- ITS FALSE NEIGHBOUR: 'it returns false'. Refute it at one input. -/
def fnExactShiftTaggedWrong : ChangeSpec := { name := "fnExactShiftTagged", fn := fun _ => fun
  | [d1, d2, d3] => { results := [.lit (.bool false)], args := [d1, d2, d3] }
  | _ => none }
def FnExactShiftTaggedWrongFalsely : Prop := fnExactShiftTaggedRow.holds Try.pinned (OpenSpec.ofChange fnExactShiftTaggedWrong)

/-- 'laws.FnExactAddTagged': WHATEVER THE INPUT: true; the input reads as it did. -/
def fnExactAddTaggedSpec : ChangeSpec := { name := "fnExactAddTagged", fn := fun _ => fun
  | [d1, d2, d3] => { results := [.lit (.bool true)], args := [d1, d2, d3] }
  | _ => none }
def fnExactAddTaggedRow : OpenClaim := { program := "ytnamhfaacamihaa", sum := "5c4b5823e4de985c02650d94c075deba0691b390922ca069f6f40eb7defcc0fb", func := "loop.example/g00877/laws.FnExactAddTagged", spec := "fnExactAddTagged", apart := false }
def FnExactAddTaggedSaid : Prop := fnExactAddTaggedRow.holds Try.pinned (OpenSpec.ofChange fnExactAddTaggedSpec)

/-- ITS FALSE NEIGHBOUR: 'it returns false'. Refute it at one input. -/
def fnExactAddTaggedWrong : ChangeSpec := { name := "fnExactAddTagged", fn := fun _ => fun
  | [d1, d2, d3] => { results := [.lit (.bool false)], args := [d1, d2, d3] }
  | _ => none }
def FnExactAddTaggedWrongFalsely : Prop := fnExactAddTaggedRow.holds Try.pinned (OpenSpec.ofChange fnExactAddTaggedWrong)

/-- 'laws.FnExactScaleTagged': WHATEVER THE INPUT: true; the input reads as it did. -/
def fnExactScaleTaggedSpec : ChangeSpec := { name := "fnExactScaleTagged", fn := fun _ => fun
  | [d1, d2, d3] => { results := [.lit (.bool true)], args := [d1, d2, d3] }
  | _ => none }
def fnExactScaleTaggedRow : OpenClaim := { program := "ytnamhfaacamihaa", sum := "5c4b5823e4de985c02650d94c075deba0691b390922ca069f6f40eb7defcc0fb", func := "loop.example/g00877/laws.FnExactScaleTagged", spec := "fnExactScaleTagged", apart := false }
def FnExactScaleTaggedSaid : Prop := fnExactScaleTaggedRow.holds Try.pinned (OpenSpec.ofChange fnExactScaleTaggedSpec)

/-- ITS FALSE NEIGHBOUR: 'it returns false'. Refute it at one input. -/
def fnExactScaleTaggedWrong : ChangeSpec := { name := "fnExactScaleTagged", fn := fun _ => fun
  | [d1, d2, d3] => { results := [.lit (.bool false)], args := [d1, d2, d3] }
  | _ => none }
def FnExactScaleTaggedWrongFalsely : Prop := fnExactScaleTaggedRow.holds Try.pinned (OpenSpec.ofChange fnExactScaleTaggedWrong)

/-- 'laws.FnExactTagFor': WHATEVER THE INPUT: true; the input reads as it did. -/
def fnExactTagForSpec : ChangeSpec := { name := "fnExactTagFor", fn := fun _ => fun
  | [d1, d2, d3, d4] => { results := [.lit (.bool true)], args := [d1, d2, d3, d4] }
  | _ => none }
def fnExactTagForRow : OpenClaim := { program := "ytnamhfaacamihaa", sum := "5c4b5823e4de985c02650d94c075deba0691b390922ca069f6f40eb7defcc0fb", func := "loop.example/g00877/laws.FnExactTagFor", spec := "fnExactTagFor", unfollowed := true, recurses := true, apart := false }
def FnExactTagForSaid : Prop := fnExactTagForRow.holds Try.pinned (OpenSpec.ofChange fnExactTagForSpec)

/-- ITS FALSE NEIGHBOUR: 'it returns false'. Refute it at one input. -/
def fnExactTagForWrong : ChangeSpec := { name := "fnExactTagFor", fn := fun _ => fun
  | [d1, d2, d3, d4] => { results := [.lit (.bool false)], args := [d1, d2, d3, d4] }
  | _ => none }
def FnExactTagForWrongFalsely : Prop := fnExactTagForRow.holds Try.pinned (OpenSpec.ofChange fnExactTagForWrong)

/-- 'laws.FnExactCheatingKeys': WHATEVER THE INPUT: true; the input reads as it did. -/
def fnExactCheatingKeysSpec : ChangeSpec := { name := "fnExactCheatingKeys", fn := fun _ => fun
  | [d1, d2, d3] => { results := [.lit (.bool true)], args := [d1, d2, d3] }
  | _ => none }
def fnExactCheatingKeysRow : OpenClaim := { program := "ytnamhfaacamihaa", sum := "5c4b5823e4de985c02650d94c075deba0691b390922ca069f6f40eb7defcc0fb", func := "loop.example/g00877/laws.FnExactCheatingKeys", spec := "fnExactCheatingKeys", apart := false }
def FnExactCheatingKeysSaid : Prop := fnExactCheatingKeysRow.holds Try.pinned (OpenSpec.ofChange fnExactCheatingKeysSpec)

/-- ITS FALSE NEIGHBOUR: 'it returns false'. Refute it at one input. -/
def fnExactCheatingKeysWrong : ChangeSpec := { name := "fnExactCheatingKeys", fn := fun _ => fun
  | [d1, d2, d3] => { results := [.lit (.bool false)], args := [d1, d2, d3] }
  | _ => none }
def FnExactCheatingKeysWrongFalsely : Prop := fnExactCheatingKeysRow.holds Try.pinned (OpenSpec.ofChange fnExactCheatingKeysWrong)

/-- 'laws.FnExactBatchMisses': WHATEVER THE INPUT: true; the input reads as it did. -/
def fnExactBatchMissesSpec : ChangeSpec := { name := "fnExactBatchMisses", fn := fun _ => fun
  | [d1, d2, d3] => { results := [.lit (.bool true)], args := [d1, d2, d3] }
  | _ => none }
def fnExactBatchMissesRow : OpenClaim := { program := "ytnamhfaacamihaa", sum := "5c4b5823e4de985c02650d94c075deba0691b390922ca069f6f40eb7defcc0fb", func := "loop.example/g00877/laws.FnExactBatchMisses", spec := "fnExactBatchMisses", unfollowed := true, recurses := true, apart := false }
def FnExactBatchMissesSaid : Prop := fnExactBatchMissesRow.holds Try.pinned (OpenSpec.ofChange fnExactBatchMissesSpec)

/-- ITS FALSE NEIGHBOUR: 'it returns false'. Refute it at one input. -/
def fnExactBatchMissesWrong : ChangeSpec := { name := "fnExactBatchMisses", fn := fun _ => fun
  | [d1, d2, d3] => { results := [.lit (.bool false)], args := [d1, d2, d3] }
  | _ => none }
def FnExactBatchMissesWrongFalsely : Prop := fnExactBatchMissesRow.holds Try.pinned (OpenSpec.ofChange fnExactBatchMissesWrong)

/-- 'laws.FnExactBatchHolds': WHATEVER THE INPUT: true; the input reads as it did. -/
def fnExactBatchHoldsSpec : ChangeSpec := { name := "fnExactBatchHolds", fn := fun _ => fun
  | [d1, d2, d3, d4, d5] => { results := [.lit (.bool true)], args := [d1, d2, d3, d4, d5] }
  | _ => none }
def fnExactBatchHoldsRow : OpenClaim := { program := "ytnamhfaacamihaa", sum := "5c4b5823e4de985c02650d94c075deba0691b390922ca069f6f40eb7defcc0fb", func := "loop.example/g00877/laws.FnExactBatchHolds", spec := "fnExactBatchHolds", unfollowed := true, recurses := true, apart := false }
def FnExactBatchHoldsSaid : Prop := fnExactBatchHoldsRow.holds Try.pinned (OpenSpec.ofChange fnExactBatchHoldsSpec)

/-- ITS FALSE NEIGHBOUR: 'it returns false'. Refute it at one input. -/
def fnExactBatchHoldsWrong : ChangeSpec := { name := "fnExactBatchHolds", fn := fun _ => fun
  | [d1, d2, d3, d4, d5] => { results := [.lit (.bool false)], args := [d1, d2, d3, d4, d5] }
  | _ => none }
def FnExactBatchHoldsWrongFalsely : Prop := fnExactBatchHoldsRow.holds Try.pinned (OpenSpec.ofChange fnExactBatchHoldsWrong)

/-- 'laws.FnExactWrongTags': WHATEVER THE INPUT: true; the input reads as it did. -/
def fnExactWrongTagsSpec : ChangeSpec := { name := "fnExactWrongTags", fn := fun _ => fun
  | [d1, d2, d3, d4] => { results := [.lit (.bool true)], args := [d1, d2, d3, d4] }
  | _ => none }
def fnExactWrongTagsRow : OpenClaim := { program := "ytnamhfaacamihaa", sum := "5c4b5823e4de985c02650d94c075deba0691b390922ca069f6f40eb7defcc0fb", func := "loop.example/g00877/laws.FnExactWrongTags", spec := "fnExactWrongTags", unfollowed := true, recurses := true, apart := false }
def FnExactWrongTagsSaid : Prop := fnExactWrongTagsRow.holds Try.pinned (OpenSpec.ofChange fnExactWrongTagsSpec)

/-- ITS FALSE NEIGHBOUR: 'it returns false'. Refute it at one input. -/
def fnExactWrongTagsWrong : ChangeSpec := { name := "fnExactWrongTags", fn := fun _ => fun
  | [d1, d2, d3, d4] => { results := [.lit (.bool false)], args := [d1, d2, d3, d4] }
  | _ => none }
def FnExactWrongTagsWrongFalsely : Prop := fnExactWrongTagsRow.holds Try.pinned (OpenSpec.ofChange fnExactWrongTagsWrong)

/-- 'laws.FnTags': WHATEVER THE INPUT: true; the input reads as it did. -/
def fnTagsSpec : ChangeSpec := { name := "fnTags", fn := fun _ => fun
  | [d1, d2] => { results := [.lit (.bool true)], args := [d1, d2] }
  | _ => none }
def fnTagsRow : OpenClaim := { program := "ytnamhfaacamihaa", sum := "5c4b5823e4de985c02650d94c075deba0691b390922ca069f6f40eb7defcc0fb", func := "loop.example/g00877/laws.FnTags", spec := "fnTags", unfollowed := true, recurses := true, apart := false }
def FnTagsSaid : Prop := fnTagsRow.holds Try.pinned (OpenSpec.ofChange fnTagsSpec)

/-- ITS FALSE NEIGHBOUR: 'it returns false'. Refute it at one input. -/
def fnTagsWrong : ChangeSpec := { name := "fnTags", fn := fun _ => fun
  | [d1, d2] => { results := [.lit (.bool false)], args := [d1, d2] }
  | _ => none }
def FnTagsWrongFalsely : Prop := fnTagsRow.holds Try.pinned (OpenSpec.ofChange fnTagsWrong)

/- THE SECOND FORM. 'bulk': how many values and letters a reading holds, each counted each time it is reached (what is shared counts as often as it is met; a slice's spare places count too). A statement '..UptoSaid' is the law's where the arguments, and the package variables that the reading takes, are together of bulk at most 1048576: NARROWER than '..Said'. Prove '..Said' where nothing that the law and all that it calls make is longer than what came in: it says more and counts as full. Else prove '..UptoSaid'. A law counts once. -/
mutual
def uptoBulk {H : Type} : DataW H → Nat
  | .lit (.string bytes) => bytes.length + 1
  | .lit _ => 1
  | .nil => 1
  | .ptr d => uptoBulk d + 1
  | .slice elems spare => uptoBulkAll elems + uptoBulkAll spare + 1
  | .agg parts => uptoBulkAll parts + 1
  | .iface _ d => uptoBulk d + 1
  | .map entries => uptoBulkEntries entries + 1
  | .held _ => 1
def uptoBulkAll {H : Type} : List (DataW H) → Nat
  | [] => 0
  | d :: r => uptoBulk d + uptoBulkAll r
def uptoBulkEntries {H : Type} : List (Lit × DataW H) → Nat
  | [] => 0
  | x :: r => uptoBulkEntry x + uptoBulkEntries r
def uptoBulkEntry {H : Type} : Lit × DataW H → Nat
  | (.string bytes, d) => bytes.length + uptoBulk d + 1
  | (_, d) => uptoBulk d + 1
 end
def uptoSmall : (H : Type) → List (DataW H) → Bool := fun _ ds => decide (uptoBulkAll ds ≤ 1048576)
def OpenSpec.upto (s : _root_.Go.ChangeSpec) : _root_.Go.OpenSpec := { _root_.Go.OpenSpec.ofChange s with cond := some uptoSmall }

/-- 'laws.FnExactTagHolds', WHERE WHAT IT READS IS OF BULK AT MOST 1048576: true; the input reads as it did. -/
def fnExactTagHoldsUptoRow : OpenClaim := { program := "ytnamhfaacamihaa", sum := "5c4b5823e4de985c02650d94c075deba0691b390922ca069f6f40eb7defcc0fb", func := "loop.example/g00877/laws.FnExactTagHolds", spec := "fnExactTagHolds", apart := false, narrowed := true }
def FnExactTagHoldsUptoSaid : Prop := fnExactTagHoldsUptoRow.holds Try.pinned (OpenSpec.upto fnExactTagHoldsSpec)

/-- 'laws.FnExactShiftKey', WHERE WHAT IT READS IS OF BULK AT MOST 1048576: true; the input reads as it did. -/
def fnExactShiftKeyUptoRow : OpenClaim := { program := "ytnamhfaacamihaa", sum := "5c4b5823e4de985c02650d94c075deba0691b390922ca069f6f40eb7defcc0fb", func := "loop.example/g00877/laws.FnExactShiftKey", spec := "fnExactShiftKey", unfollowed := true, recurses := true, apart := false, narrowed := true }
def FnExactShiftKeyUptoSaid : Prop := fnExactShiftKeyUptoRow.holds Try.pinned (OpenSpec.upto fnExactShiftKeySpec)

/-- 'laws.FnExactShiftTagged', WHERE WHAT IT READS IS OF BULK AT MOST 1048576: true; the input reads as it did. -/
def fnExactShiftTaggedUptoRow : OpenClaim := { program := "ytnamhfaacamihaa", sum := "5c4b5823e4de985c02650d94c075deba0691b390922ca069f6f40eb7defcc0fb", func := "loop.example/g00877/laws.FnExactShiftTagged", spec := "fnExactShiftTagged", apart := false, narrowed := true }
def FnExactShiftTaggedUptoSaid : Prop := fnExactShiftTaggedUptoRow.holds Try.pinned (OpenSpec.upto fnExactShiftTaggedSpec)

/-- 'laws.FnExactAddTagged', WHERE WHAT IT READS IS OF BULK AT MOST 1048576: true; the input reads as it did. -/
def fnExactAddTaggedUptoRow : OpenClaim := { program := "ytnamhfaacamihaa", sum := "5c4b5823e4de985c02650d94c075deba0691b390922ca069f6f40eb7defcc0fb", func := "loop.example/g00877/laws.FnExactAddTagged", spec := "fnExactAddTagged", apart := false, narrowed := true }
def FnExactAddTaggedUptoSaid : Prop := fnExactAddTaggedUptoRow.holds Try.pinned (OpenSpec.upto fnExactAddTaggedSpec)

/-- 'laws.FnExactScaleTagged', WHERE WHAT IT READS IS OF BULK AT MOST 1048576: true; the input reads as it did. -/
def fnExactScaleTaggedUptoRow : OpenClaim := { program := "ytnamhfaacamihaa", sum := "5c4b5823e4de985c02650d94c075deba0691b390922ca069f6f40eb7defcc0fb", func := "loop.example/g00877/laws.FnExactScaleTagged", spec := "fnExactScaleTagged", apart := false, narrowed := true }
def FnExactScaleTaggedUptoSaid : Prop := fnExactScaleTaggedUptoRow.holds Try.pinned (OpenSpec.upto fnExactScaleTaggedSpec)

/-- 'laws.FnExactTagFor', WHERE WHAT IT READS IS OF BULK AT MOST 1048576: true; the input reads as it did. -/
def fnExactTagForUptoRow : OpenClaim := { program := "ytnamhfaacamihaa", sum := "5c4b5823e4de985c02650d94c075deba0691b390922ca069f6f40eb7defcc0fb", func := "loop.example/g00877/laws.FnExactTagFor", spec := "fnExactTagFor", unfollowed := true, recurses := true, apart := false, narrowed := true }
def FnExactTagForUptoSaid : Prop := fnExactTagForUptoRow.holds Try.pinned (OpenSpec.upto fnExactTagForSpec)

/-- 'laws.FnExactCheatingKeys', WHERE WHAT IT READS IS OF BULK AT MOST 1048576: true; the input reads as it did. -/
def fnExactCheatingKeysUptoRow : OpenClaim := { program := "ytnamhfaacamihaa", sum := "5c4b5823e4de985c02650d94c075deba0691b390922ca069f6f40eb7defcc0fb", func := "loop.example/g00877/laws.FnExactCheatingKeys", spec := "fnExactCheatingKeys", apart := false, narrowed := true }
def FnExactCheatingKeysUptoSaid : Prop := fnExactCheatingKeysUptoRow.holds Try.pinned (OpenSpec.upto fnExactCheatingKeysSpec)

/-- 'laws.FnExactBatchMisses', WHERE WHAT IT READS IS OF BULK AT MOST 1048576: true; the input reads as it did. -/
def fnExactBatchMissesUptoRow : OpenClaim := { program := "ytnamhfaacamihaa", sum := "5c4b5823e4de985c02650d94c075deba0691b390922ca069f6f40eb7defcc0fb", func := "loop.example/g00877/laws.FnExactBatchMisses", spec := "fnExactBatchMisses", unfollowed := true, recurses := true, apart := false, narrowed := true }
def FnExactBatchMissesUptoSaid : Prop := fnExactBatchMissesUptoRow.holds Try.pinned (OpenSpec.upto fnExactBatchMissesSpec)

/-- 'laws.FnExactBatchHolds', WHERE WHAT IT READS IS OF BULK AT MOST 1048576: true; the input reads as it did. -/
def fnExactBatchHoldsUptoRow : OpenClaim := { program := "ytnamhfaacamihaa", sum := "5c4b5823e4de985c02650d94c075deba0691b390922ca069f6f40eb7defcc0fb", func := "loop.example/g00877/laws.FnExactBatchHolds", spec := "fnExactBatchHolds", unfollowed := true, recurses := true, apart := false, narrowed := true }
def FnExactBatchHoldsUptoSaid : Prop := fnExactBatchHoldsUptoRow.holds Try.pinned (OpenSpec.upto fnExactBatchHoldsSpec)

/-- 'laws.FnExactWrongTags', WHERE WHAT IT READS IS OF BULK AT MOST 1048576: true; the input reads as it did. -/
def fnExactWrongTagsUptoRow : OpenClaim := { program := "ytnamhfaacamihaa", sum := "5c4b5823e4de985c02650d94c075deba0691b390922ca069f6f40eb7defcc0fb", func := "loop.example/g00877/laws.FnExactWrongTags", spec := "fnExactWrongTags", unfollowed := true, recurses := true, apart := false, narrowed := true }
def FnExactWrongTagsUptoSaid : Prop := fnExactWrongTagsUptoRow.holds Try.pinned (OpenSpec.upto fnExactWrongTagsSpec)

/-- 'laws.FnTags', WHERE WHAT IT READS IS OF BULK AT MOST 1048576: true; the input reads as it did. -/
def fnTagsUptoRow : OpenClaim := { program := "ytnamhfaacamihaa", sum := "5c4b5823e4de985c02650d94c075deba0691b390922ca069f6f40eb7defcc0fb", func := "loop.example/g00877/laws.FnTags", spec := "fnTags", unfollowed := true, recurses := true, apart := false, narrowed := true }
def FnTagsUptoSaid : Prop := fnTagsUptoRow.holds Try.pinned (OpenSpec.upto fnTagsSpec)

end Rows
end Go.Proofs.Ytnamhfaacamihaa
