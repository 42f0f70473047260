/-
  No cell of these rows narrows 'for every input' (looked for: loops, veiled, ifaces, maps, wideKeys, modest, calm, conditions, laid).
  DERIVED. THE GIVEN ROWS OF THIS SEAT. 12 by the template 'for every input the law returns true; each argument reads behind the call as it read before'; 0 by the template 'total and deterministic' (their statements: YtjgacdebmmigpaaTotals.lean).
  GIVEN WITH THE SEED: the statements are not yours to turn. If you find one false, say at which input.
  Laid BY PROGRAM, IN A SANDBOX (cutbox-rows.mjs): the forced cells as the released guide's own fill.sh prints them over the translation 4713e05d2066470a… (all of the seat's roots in one cut). By AI agents, Wed Nov 11 2026. No macro, syntax, notation, axiom, sorry.
-/
import Derived.Test.YtjgacdebmmigpaaChecked
import GoSem.Claim
import GoSem.ClaimJoined
import GoSem.ClaimMapViews
import Derived.JoinedTies
import Derived.KernelRfl
namespace Go.Proofs.Ytjgacdebmmigpaa
/- THE CELL 'sum', in the pinned program and in every row, IS THE sha256 OF THE DUMP (.gsa) THAT YtjgacdebmmigpaaProg.lean LOADS. Nothing in Lean hashes anything: it is a label: what it is worth is what the hold of that sum in a sandbox is worth. -/
noncomputable def Try.pinned : Pinned := { name := "ytjgacdebmmigpaa", sum := "4713e05d2066470a476ccaafeab62cffc3225d179acce8d95f1ac323efed9e22", checked := Try.checked }
namespace Rows
def none {H : Type} : Left H := { results := [], args := [] }

/-- 'laws.FnExactSeedColumns': WHATEVER THE INPUT: true; the input reads as it did. -/
def fnExactSeedColumnsSpec : ChangeSpec := { name := "fnExactSeedColumns", fn := fun _ => fun
  | [d1, d2, d3, d4] => { results := [.lit (.bool true)], args := [d1, d2, d3, d4] }
  | _ => none }
def fnExactSeedColumnsRow : OpenClaim := { program := "ytjgacdebmmigpaa", sum := "4713e05d2066470a476ccaafeab62cffc3225d179acce8d95f1ac323efed9e22", func := "loop.example/g00877/laws.FnExactSeedColumns", spec := "fnExactSeedColumns", apart := false }
def FnExactSeedColumnsSaid : Prop := fnExactSeedColumnsRow.holds Try.pinned (OpenSpec.ofChange fnExactSeedColumnsSpec)

/-- ITS FALSE NEIGHBOUR: 'it returns false'. Refute it at one input. -/
def fnExactSeedColumnsWrong : ChangeSpec := { name := "fnExactSeedColumns", fn := fun _ => fun
  | [d1, d2, d3, d4] => { results := [.lit (.bool false)], args := [d1, d2, d3, d4] }
  | _ => none }
def FnExactSeedColumnsWrongFalsely : Prop := fnExactSeedColumnsRow.holds Try.pinned (OpenSpec.ofChange fnExactSeedColumnsWrong)

/-- 'laws.FnExactReceiverRows': WHATEVER THE INPUT: true; the input reads as it did. -/
def fnExactReceiverRowsSpec : ChangeSpec := { name := "fnExactReceiverRows", fn := fun _ => fun
  | [d1, d2, d3] => { results := [.lit (.bool true)], args := [d1, d2, d3] }
  | _ => none }
def fnExactReceiverRowsRow : OpenClaim := { program := "ytjgacdebmmigpaa", sum := "4713e05d2066470a476ccaafeab62cffc3225d179acce8d95f1ac323efed9e22", func := "loop.example/g00877/laws.FnExactReceiverRows", spec := "fnExactReceiverRows", apart := false }
def FnExactReceiverRowsSaid : Prop := fnExactReceiverRowsRow.holds Try.pinned (OpenSpec.ofChange fnExactReceiverRowsSpec)

/-- ITS FALSE NEIGHBOUR: 'it returns false'. Refute it at one input. -/
def fnExactReceiverRowsWrong : ChangeSpec := { name := "fnExactReceiverRows", fn := fun _ => fun
  | [d1, d2, d3] => { results := [.lit (.bool false)], args := [d1, d2, d3] }
  | _ => none }
def FnExactReceiverRowsWrongFalsely : Prop := fnExactReceiverRowsRow.holds Try.pinned (OpenSpec.ofChange fnExactReceiverRowsWrong)

/-- 'laws.FnExactRowsMatch': WHATEVER THE INPUT: true; the input reads as it did. -/
def fnExactRowsMatchSpec : ChangeSpec := { name := "fnExactRowsMatch", fn := fun _ => fun
  | [d1, d2, d3, d4] => { results := [.lit (.bool true)], args := [d1, d2, d3, d4] }
  | _ => none }
def fnExactRowsMatchRow : OpenClaim := { program := "ytjgacdebmmigpaa", sum := "4713e05d2066470a476ccaafeab62cffc3225d179acce8d95f1ac323efed9e22", func := "loop.example/g00877/laws.FnExactRowsMatch", spec := "fnExactRowsMatch", unfollowed := true, recurses := true, apart := false }
def FnExactRowsMatchSaid : Prop := fnExactRowsMatchRow.holds Try.pinned (OpenSpec.ofChange fnExactRowsMatchSpec)

/-- ITS FALSE NEIGHBOUR: 'it returns false'. Refute it at one input. -/
def fnExactRowsMatchWrong : ChangeSpec := { name := "fnExactRowsMatch", fn := fun _ => fun
  | [d1, d2, d3, d4] => { results := [.lit (.bool false)], args := [d1, d2, d3, d4] }
  | _ => none }
def FnExactRowsMatchWrongFalsely : Prop := fnExactRowsMatchRow.holds Try.pinned (OpenSpec.ofChange fnExactRowsMatchWrong)

/-- 'laws.FnExactTakeMessages': WHATEVER THE INPUT: true; the input reads as it did. -/
def fnExactTakeMessagesSpec : ChangeSpec := { name := "fnExactTakeMessages", fn := fun _ => fun
  | [d1, d2, d3] => { results := [.lit (.bool true)], args := [d1, d2, d3] }
  | _ => none }
def fnExactTakeMessagesRow : OpenClaim := { program := "ytjgacdebmmigpaa", sum := "4713e05d2066470a476ccaafeab62cffc3225d179acce8d95f1ac323efed9e22", func := "loop.example/g00877/laws.FnExactTakeMessages", spec := "fnExactTakeMessages", unfollowed := true, recurses := true, apart := false }
def FnExactTakeMessagesSaid : Prop := fnExactTakeMessagesRow.holds Try.pinned (OpenSpec.ofChange fnExactTakeMessagesSpec)

/-- ITS FALSE NEIGHBOUR: 'it returns false'. Refute it at one input. -/
def fnExactTakeMessagesWrong : ChangeSpec := { name := "fnExactTakeMessages", fn := fun _ => fun
  | [d1, d2, d3] => { results := [.lit (.bool false)], args := [d1, d2, d3] }
  | _ => none }
def FnExactTakeMessagesWrongFalsely : Prop := fnExactTakeMessagesRow.holds Try.pinned (OpenSpec.ofChange fnExactTakeMessagesWrong)

/-- 'laws.FnExactSentColumns': WHATEVER THE INPUT: true; the input reads as it did. -/
def fnExactSentColumnsSpec : ChangeSpec := { name := "fnExactSentColumns", fn := fun _ => fun
  | [d1, d2, d3] => { results := [.lit (.bool true)], args := [d1, d2, d3] }
  | _ => none }
def fnExactSentColumnsRow : OpenClaim := { program := "ytjgacdebmmigpaa", sum := "4713e05d2066470a476ccaafeab62cffc3225d179acce8d95f1ac323efed9e22", func := "loop.example/g00877/laws.FnExactSentColumns", spec := "fnExactSentColumns", unfollowed := true, recurses := true, apart := false }
def FnExactSentColumnsSaid : Prop := fnExactSentColumnsRow.holds Try.pinned (OpenSpec.ofChange fnExactSentColumnsSpec)

/-- ITS FALSE NEIGHBOUR: 'it returns false'. Refute it at one input. -/
def fnExactSentColumnsWrong : ChangeSpec := { name := "fnExactSentColumns", fn := fun _ => fun
  | [d1, d2, d3] => { results := [.lit (.bool false)], args := [d1, d2, d3] }
  | _ => none }
def FnExactSentColumnsWrongFalsely : Prop := fnExactSentColumnsRow.holds Try.pinned (OpenSpec.ofChange fnExactSentColumnsWrong)

/-- 'laws.FnExactCheckRows': WHATEVER THE INPUT: true; the input reads as it did. -/
def fnExactCheckRowsSpec : ChangeSpec := { name := "fnExactCheckRows", fn := fun _ => fun
  | [d1, d2] => { results := [.lit (.bool true)], args := [d1, d2] }
  | _ => none }
def fnExactCheckRowsRow : OpenClaim := { program := "ytjgacdebmmigpaa", sum := "4713e05d2066470a476ccaafeab62cffc3225d179acce8d95f1ac323efed9e22", func := "loop.example/g00877/laws.FnExactCheckRows", spec := "fnExactCheckRows", unfollowed := true, recurses := true, apart := false }
def FnExactCheckRowsSaid : Prop := fnExactCheckRowsRow.holds Try.pinned (OpenSpec.ofChange fnExactCheckRowsSpec)

/-- ITS FALSE NEIGHBOUR: 'it returns false'. Refute it at one input. -/
def fnExactCheckRowsWrong : ChangeSpec := { name := "fnExactCheckRows", fn := fun _ => fun
  | [d1, d2] => { results := [.lit (.bool false)], args := [d1, d2] }
  | _ => none }
def FnExactCheckRowsWrongFalsely : Prop := fnExactCheckRowsRow.holds Try.pinned (OpenSpec.ofChange fnExactCheckRowsWrong)

/-- 'laws.FnExactBendColumns': WHATEVER THE INPUT: true; the input reads as it did. -/
def fnExactBendColumnsSpec : ChangeSpec := { name := "fnExactBendColumns", fn := fun _ => fun
  | [d1, d2, d3] => { results := [.lit (.bool true)], args := [d1, d2, d3] }
  | _ => none }
def fnExactBendColumnsRow : OpenClaim := { program := "ytjgacdebmmigpaa", sum := "4713e05d2066470a476ccaafeab62cffc3225d179acce8d95f1ac323efed9e22", func := "loop.example/g00877/laws.FnExactBendColumns", spec := "fnExactBendColumns", unfollowed := true, recurses := true, apart := false }
def FnExactBendColumnsSaid : Prop := fnExactBendColumnsRow.holds Try.pinned (OpenSpec.ofChange fnExactBendColumnsSpec)

/-- ITS FALSE NEIGHBOUR: 'it returns false'. Refute it at one input. -/
def fnExactBendColumnsWrong : ChangeSpec := { name := "fnExactBendColumns", fn := fun _ => fun
  | [d1, d2, d3] => { results := [.lit (.bool false)], args := [d1, d2, d3] }
  | _ => none }
def FnExactBendColumnsWrongFalsely : Prop := fnExactBendColumnsRow.holds Try.pinned (OpenSpec.ofChange fnExactBendColumnsWrong)

/-- 'laws.FnExactHideMessages': WHATEVER THE INPUT: true; the input reads as it did. -/
def fnExactHideMessagesSpec : ChangeSpec := { name := "fnExactHideMessages", fn := fun _ => fun
  | [d1, d2, d3, d4] => { results := [.lit (.bool true)], args := [d1, d2, d3, d4] }
  | _ => none }
def fnExactHideMessagesRow : OpenClaim := { program := "ytjgacdebmmigpaa", sum := "4713e05d2066470a476ccaafeab62cffc3225d179acce8d95f1ac323efed9e22", func := "loop.example/g00877/laws.FnExactHideMessages", spec := "fnExactHideMessages", unfollowed := true, recurses := true, apart := false }
def FnExactHideMessagesSaid : Prop := fnExactHideMessagesRow.holds Try.pinned (OpenSpec.ofChange fnExactHideMessagesSpec)

/-- ITS FALSE NEIGHBOUR: 'it returns false'. Refute it at one input. -/
def fnExactHideMessagesWrong : ChangeSpec := { name := "fnExactHideMessages", fn := fun _ => fun
  | [d1, d2, d3, d4] => { results := [.lit (.bool false)], args := [d1, d2, d3, d4] }
  | _ => none }
def FnExactHideMessagesWrongFalsely : Prop := fnExactHideMessagesRow.holds Try.pinned (OpenSpec.ofChange fnExactHideMessagesWrong)

/-- 'laws.FnExactCheckPasses': WHATEVER THE INPUT: true; the input reads as it did. -/
def fnExactCheckPassesSpec : ChangeSpec := { name := "fnExactCheckPasses", fn := fun _ => fun
  | [d1, d2, d3, d4, d5] => { results := [.lit (.bool true)], args := [d1, d2, d3, d4, d5] }
  | _ => none }
def fnExactCheckPassesRow : OpenClaim := { program := "ytjgacdebmmigpaa", sum := "4713e05d2066470a476ccaafeab62cffc3225d179acce8d95f1ac323efed9e22", func := "loop.example/g00877/laws.FnExactCheckPasses", spec := "fnExactCheckPasses", unfollowed := true, recurses := true, apart := false }
def FnExactCheckPassesSaid : Prop := fnExactCheckPassesRow.holds Try.pinned (OpenSpec.ofChange fnExactCheckPassesSpec)

/-- ITS FALSE NEIGHBOUR: 'it returns false'. Refute it at one input. -/
def fnExactCheckPassesWrong : ChangeSpec := { name := "fnExactCheckPasses", fn := fun _ => fun
  | [d1, d2, d3, d4, d5] => { results := [.lit (.bool false)], args := [d1, d2, d3, d4, d5] }
  | _ => none }
def FnExactCheckPassesWrongFalsely : Prop := fnExactCheckPassesRow.holds Try.pinned (OpenSpec.ofChange fnExactCheckPassesWrong)

/-- 'laws.FnExactSenderRows': WHATEVER THE INPUT: true; the input reads as it did. -/
def fnExactSenderRowsSpec : ChangeSpec := { name := "fnExactSenderRows", fn := fun _ => fun
  | [d1, d2, d3] => { results := [.lit (.bool true)], args := [d1, d2, d3] }
  | _ => none }
def fnExactSenderRowsRow : OpenClaim := { program := "ytjgacdebmmigpaa", sum := "4713e05d2066470a476ccaafeab62cffc3225d179acce8d95f1ac323efed9e22", func := "loop.example/g00877/laws.FnExactSenderRows", spec := "fnExactSenderRows", unfollowed := true, recurses := true, apart := false }
def FnExactSenderRowsSaid : Prop := fnExactSenderRowsRow.holds Try.pinned (OpenSpec.ofChange fnExactSenderRowsSpec)

/-- ITS FALSE NEIGHBOUR: 'it returns false'. Refute it at one input. -/
def fnExactSenderRowsWrong : ChangeSpec := { name := "fnExactSenderRows", fn := fun _ => fun
  | [d1, d2, d3] => { results := [.lit (.bool false)], args := [d1, d2, d3] }
  | _ => none }
def FnExactSenderRowsWrongFalsely : Prop := fnExactSenderRowsRow.holds Try.pinned (OpenSpec.ofChange fnExactSenderRowsWrong)

/-- 'laws.FnExactCountUnseen': WHATEVER THE INPUT: true; the input reads as it did. -/
def fnExactCountUnseenSpec : ChangeSpec := { name := "fnExactCountUnseen", fn := fun _ => fun
  | [d1, d2, d3, d4, d5, d6] => { results := [.lit (.bool true)], args := [d1, d2, d3, d4, d5, d6] }
  | _ => none }
def fnExactCountUnseenRow : OpenClaim := { program := "ytjgacdebmmigpaa", sum := "4713e05d2066470a476ccaafeab62cffc3225d179acce8d95f1ac323efed9e22", func := "loop.example/g00877/laws.FnExactCountUnseen", spec := "fnExactCountUnseen", unfollowed := true, recurses := true, apart := false }
def FnExactCountUnseenSaid : Prop := fnExactCountUnseenRow.holds Try.pinned (OpenSpec.ofChange fnExactCountUnseenSpec)

/-- ITS FALSE NEIGHBOUR: 'it returns false'. Refute it at one input. -/
def fnExactCountUnseenWrong : ChangeSpec := { name := "fnExactCountUnseen", fn := fun _ => fun
  | [d1, d2, d3, d4, d5, d6] => { results := [.lit (.bool false)], args := [d1, d2, d3, d4, d5, d6] }
  | _ => none }
def FnExactCountUnseenWrongFalsely : Prop := fnExactCountUnseenRow.holds Try.pinned (OpenSpec.ofChange fnExactCountUnseenWrong)

/-- 'laws.FnExtended': WHATEVER THE INPUT: true; the input reads as it did. -/
def fnExtendedSpec : ChangeSpec := { name := "fnExtended", fn := fun _ => fun
  | [d1, d2] => { results := [.lit (.bool true)], args := [d1, d2] }
  | _ => none }
def fnExtendedRow : OpenClaim := { program := "ytjgacdebmmigpaa", sum := "4713e05d2066470a476ccaafeab62cffc3225d179acce8d95f1ac323efed9e22", func := "loop.example/g00877/laws.FnExtended", spec := "fnExtended", unfollowed := true, recurses := true, apart := false }
def FnExtendedSaid : Prop := fnExtendedRow.holds Try.pinned (OpenSpec.ofChange fnExtendedSpec)

/-- ITS FALSE NEIGHBOUR: 'it returns false'. Refute it at one input. -/
def fnExtendedWrong : ChangeSpec := { name := "fnExtended", fn := fun _ => fun
  | [d1, d2] => { results := [.lit (.bool false)], args := [d1, d2] }
  | _ => none }
def FnExtendedWrongFalsely : Prop := fnExtendedRow.holds Try.pinned (OpenSpec.ofChange fnExtendedWrong)

/- THE SECOND FORM. 'bulk': how many values and letters a reading holds, each counted each time it is reached (what is shared counts as often as it is met; a slice's spare places count too). A statement '..UptoSaid' is the law's where the arguments, and the package variables that the reading takes, are together of bulk at most 1048576: NARROWER than '..Said'. Prove '..Said' where nothing that the law and all that it calls make is longer than what came in: it says more and counts as full. Else prove '..UptoSaid'. A law counts once. -/
mutual
def uptoBulk {H : Type} : DataW H → Nat
  | .lit (.string bytes) => bytes.length + 1
  | .lit _ => 1
  | .nil => 1
  | .ptr d => uptoBulk d + 1
  | .slice elems spare => uptoBulkAll elems + uptoBulkAll spare + 1
  | .agg parts => uptoBulkAll parts + 1
  | .iface _ d => uptoBulk d + 1
  | .map entries => uptoBulkEntries entries + 1
  | .held _ => 1
def uptoBulkAll {H : Type} : List (DataW H) → Nat
  | [] => 0
  | d :: r => uptoBulk d + uptoBulkAll r
def uptoBulkEntries {H : Type} : List (Lit × DataW H) → Nat
  | [] => 0
  | x :: r => uptoBulkEntry x + uptoBulkEntries r
def uptoBulkEntry {H : Type} : Lit × DataW H → Nat
  | (.string bytes, d) => bytes.length + uptoBulk d + 1
  | (_, d) => uptoBulk d + 1
 end
def uptoSmall : (H : Type) → List (DataW H) → Bool := fun _ ds => decide (uptoBulkAll ds ≤ 1048576)
def OpenSpec.upto (s : _root_.Go.ChangeSpec) : _root_.Go.OpenSpec := { _root_.Go.OpenSpec.ofChange s with cond := some uptoSmall }

/-- 'laws.FnExactSeedColumns', WHERE WHAT IT READS IS OF BULK AT MOST 1048576: true; the input reads as it did. -/
def fnExactSeedColumnsUptoRow : OpenClaim := { program := "ytjgacdebmmigpaa", sum := "4713e05d2066470a476ccaafeab62cffc3225d179acce8d95f1ac323efed9e22", func := "loop.example/g00877/laws.FnExactSeedColumns", spec := "fnExactSeedColumns", apart := false, narrowed := true }
def FnExactSeedColumnsUptoSaid : Prop := fnExactSeedColumnsUptoRow.holds Try.pinned (OpenSpec.upto fnExactSeedColumnsSpec)

/-- 'laws.FnExactReceiverRows', WHERE WHAT IT READS IS OF BULK AT MOST 1048576: true; the input reads as it did. -/
def fnExactReceiverRowsUptoRow : OpenClaim := { program := "ytjgacdebmmigpaa", sum := "4713e05d2066470a476ccaafeab62cffc3225d179acce8d95f1ac323efed9e22", func := "loop.example/g00877/laws.FnExactReceiverRows", spec := "fnExactReceiverRows", apart := false, narrowed := true }
def FnExactReceiverRowsUptoSaid : Prop := fnExactReceiverRowsUptoRow.holds Try.pinned (OpenSpec.upto fnExactReceiverRowsSpec)

/-- 'laws.FnExactRowsMatch', WHERE WHAT IT READS IS OF BULK AT MOST 1048576: true; the input reads as it did. -/
def fnExactRowsMatchUptoRow : OpenClaim := { program := "ytjgacdebmmigpaa", sum := "4713e05d2066470a476ccaafeab62cffc3225d179acce8d95f1ac323efed9e22", func := "loop.example/g00877/laws.FnExactRowsMatch", spec := "fnExactRowsMatch", unfollowed := true, recurses := true, apart := false, narrowed := true }
def FnExactRowsMatchUptoSaid : Prop := fnExactRowsMatchUptoRow.holds Try.pinned (OpenSpec.upto fnExactRowsMatchSpec)

/-- 'laws.FnExactTakeMessages', WHERE WHAT IT READS IS OF BULK AT MOST 1048576: true; the input reads as it did. -/
def fnExactTakeMessagesUptoRow : OpenClaim := { program := "ytjgacdebmmigpaa", sum := "4713e05d2066470a476ccaafeab62cffc3225d179acce8d95f1ac323efed9e22", func := "loop.example/g00877/laws.FnExactTakeMessages", spec := "fnExactTakeMessages", unfollowed := true, recurses := true, apart := false, narrowed := true }
def FnExactTakeMessagesUptoSaid : Prop := fnExactTakeMessagesUptoRow.holds Try.pinned (OpenSpec.upto fnExactTakeMessagesSpec)

/-- 'laws.FnExactSentColumns', WHERE WHAT IT READS IS OF BULK AT MOST 1048576: true; the input reads as it did. -/
def fnExactSentColumnsUptoRow : OpenClaim := { program := "ytjgacdebmmigpaa", sum := "4713e05d2066470a476ccaafeab62cffc3225d179acce8d95f1ac323efed9e22", func := "loop.example/g00877/laws.FnExactSentColumns", spec := "fnExactSentColumns", unfollowed := true, recurses := true, apart := false, narrowed := true }
def FnExactSentColumnsUptoSaid : Prop := fnExactSentColumnsUptoRow.holds Try.pinned (OpenSpec.upto fnExactSentColumnsSpec)

/-- 'laws.FnExactCheckRows', WHERE WHAT IT READS IS OF BULK AT MOST 1048576: true; the input reads as it did. -/
def fnExactCheckRowsUptoRow : OpenClaim := { program := "ytjgacdebmmigpaa", sum := "4713e05d2066470a476ccaafeab62cffc3225d179acce8d95f1ac323efed9e22", func := "loop.example/g00877/laws.FnExactCheckRows", spec := "fnExactCheckRows", unfollowed := true, recurses := true, apart := false, narrowed := true }
def FnExactCheckRowsUptoSaid : Prop := fnExactCheckRowsUptoRow.holds Try.pinned (OpenSpec.upto fnExactCheckRowsSpec)

/-- 'laws.FnExactBendColumns', WHERE WHAT IT READS IS OF BULK AT MOST 1048576: true; the input reads as it did. -/
def fnExactBendColumnsUptoRow : OpenClaim := { program := "ytjgacdebmmigpaa", sum := "4713e05d2066470a476ccaafeab62cffc3225d179acce8d95f1ac323efed9e22", func := "loop.example/g00877/laws.FnExactBendColumns", spec := "fnExactBendColumns", unfollowed := true, recurses := true, apart := false, narrowed := true }
def FnExactBendColumnsUptoSaid : Prop := fnExactBendColumnsUptoRow.holds Try.pinned (OpenSpec.upto fnExactBendColumnsSpec)

/-- 'laws.FnExactHideMessages', WHERE WHAT IT READS IS OF BULK AT MOST 1048576: true; the input reads as it did. -/
def fnExactHideMessagesUptoRow : OpenClaim := { program := "ytjgacdebmmigpaa", sum := "4713e05d2066470a476ccaafeab62cffc3225d179acce8d95f1ac323efed9e22", func := "loop.example/g00877/laws.FnExactHideMessages", spec := "fnExactHideMessages", unfollowed := true, recurses := true, apart := false, narrowed := true }
def FnExactHideMessagesUptoSaid : Prop := fnExactHideMessagesUptoRow.holds Try.pinned (OpenSpec.upto fnExactHideMessagesSpec)

/-- 'laws.FnExactCheckPasses', WHERE WHAT IT READS IS OF BULK AT MOST 1048576: true; the input reads as it did. -/
def fnExactCheckPassesUptoRow : OpenClaim := { program := "ytjgacdebmmigpaa", sum := "4713e05d2066470a476ccaafeab62cffc3225d179acce8d95f1ac323efed9e22", func := "loop.example/g00877/laws.FnExactCheckPasses", spec := "fnExactCheckPasses", unfollowed := true, recurses := true, apart := false, narrowed := true }
def FnExactCheckPassesUptoSaid : Prop := fnExactCheckPassesUptoRow.holds Try.pinned (OpenSpec.upto fnExactCheckPassesSpec)

/-- 'laws.FnExactSenderRows', WHERE WHAT IT READS IS OF BULK AT MOST 1048576: true; the input reads as it did. -/
def fnExactSenderRowsUptoRow : OpenClaim := { program := "ytjgacdebmmigpaa", sum := "4713e05d2066470a476ccaafeab62cffc3225d179acce8d95f1ac323efed9e22", func := "loop.example/g00877/laws.FnExactSenderRows", spec := "fnExactSenderRows", unfollowed := true, recurses := true, apart := false, narrowed := true }
def FnExactSenderRowsUptoSaid : Prop := fnExactSenderRowsUptoRow.holds Try.pinned (OpenSpec.upto fnExactSenderRowsSpec)

/-- 'laws.FnExactCountUnseen', WHERE WHAT IT READS IS OF BULK AT MOST 1048576: true; the input reads as it did. -/
def fnExactCountUnseenUptoRow : OpenClaim := { program := "ytjgacdebmmigpaa", sum := "4713e05d2066470a476ccaafeab62cffc3225d179acce8d95f1ac323efed9e22", func := "loop.example/g00877/laws.FnExactCountUnseen", spec := "fnExactCountUnseen", unfollowed := true, recurses := true, apart := false, narrowed := true }
def FnExactCountUnseenUptoSaid : Prop := fnExactCountUnseenUptoRow.holds Try.pinned (OpenSpec.upto fnExactCountUnseenSpec)

/-- 'laws.FnExtended', WHERE WHAT IT READS IS OF BULK AT MOST 1048576: true; the input reads as it did. -/
def fnExtendedUptoRow : OpenClaim := { program := "ytjgacdebmmigpaa", sum := "4713e05d2066470a476ccaafeab62cffc3225d179acce8d95f1ac323efed9e22", func := "loop.example/g00877/laws.FnExtended", spec := "fnExtended", unfollowed := true, recurses := true, apart := false, narrowed := true }
def FnExtendedUptoSaid : Prop := fnExtendedUptoRow.holds Try.pinned (OpenSpec.upto fnExtendedSpec)

end Rows
end Go.Proofs.Ytjgacdebmmigpaa
