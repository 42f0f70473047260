/-
  No cell of these rows narrows 'for every input' (looked for: loops, veiled, ifaces, maps, wideKeys, modest, calm, conditions, laid).
  DERIVED. THE GIVEN ROWS OF THIS SEAT. 7 by the template 'for every input the law returns true; each argument reads behind the call as it read before'; 0 by the template 'total and deterministic' (their statements: YtmkcanbaleecfaaTotals.lean).
  GIVEN WITH THE SEED: the statements are not yours to turn. If you find one false, say at which input.
  Laid BY PROGRAM, IN A SANDBOX (cutbox-rows.mjs): the forced cells as the released guide's own fill.sh prints them over the translation a35063c8d292f739… (all of the seat's roots in one cut). By AI agents, Wed Nov 11 2026. No macro, syntax, notation, axiom, sorry.
-/
import Derived.Test.YtmkcanbaleecfaaChecked
import GoSem.Claim
import GoSem.ClaimJoined
import GoSem.ClaimMapViews
import Derived.JoinedTies
import Derived.KernelRfl
namespace Go.Proofs.Ytmkcanbaleecfaa
/- THE CELL 'sum', in the pinned program and in every row, IS THE sha256 OF THE DUMP (.gsa) THAT YtmkcanbaleecfaaProg.lean LOADS. Nothing in Lean hashes anything: it is a label: what it is worth is what the hold of that sum in a sandbox is worth. -/
noncomputable def Try.pinned : Pinned := { name := "ytmkcanbaleecfaa", sum := "a35063c8d292f739eb2e36ad4832ed6e3bbfc5e1eeb3ca7b4a0f40b510f1f846", checked := Try.checked }
namespace Rows
def none {H : Type} : Left H := { results := [], args := [] }

/-- 'laws.FnExactTriplesNeeded': WHATEVER THE INPUT: true; the input reads as it did. -/
def fnExactTriplesNeededSpec : ChangeSpec := { name := "fnExactTriplesNeeded", fn := fun _ => fun
  | [d] => { results := [.lit (.bool true)], args := [d] }
  | _ => none }
def fnExactTriplesNeededRow : OpenClaim := { program := "ytmkcanbaleecfaa", sum := "a35063c8d292f739eb2e36ad4832ed6e3bbfc5e1eeb3ca7b4a0f40b510f1f846", func := "loop.example/g00877/laws.FnExactTriplesNeeded", spec := "fnExactTriplesNeeded", unfollowed := true, recurses := true, apart := false }
def FnExactTriplesNeededSaid : Prop := fnExactTriplesNeededRow.holds Try.pinned (OpenSpec.ofChange fnExactTriplesNeededSpec)

/-- ITS FALSE NEIGHBOUR: 'it returns false'. Refute it at one input. -/
def fnExactTriplesNeededWrong : ChangeSpec := { name := "fnExactTriplesNeeded", fn := fun _ => fun
  | [d] => { results := [.lit (.bool false)], args := [d] }
  | _ => none }
def FnExactTriplesNeededWrongFalsely : Prop := fnExactTriplesNeededRow.holds Try.pinned (OpenSpec.ofChange fnExactTriplesNeededWrong)

/-- 'laws.FnExactShareInputs': WHATEVER THE INPUT: true; the input reads as it did. -/
def fnExactShareInputsSpec : ChangeSpec := { name := "fnExactShareInputs", fn := fun _ => fun
  | [d1, d2, d3, d4] => { results := [.lit (.bool true)], args := [d1, d2, d3, d4] }
  | _ => none }
def fnExactShareInputsRow : OpenClaim := { program := "ytmkcanbaleecfaa", sum := "a35063c8d292f739eb2e36ad4832ed6e3bbfc5e1eeb3ca7b4a0f40b510f1f846", func := "loop.example/g00877/laws.FnExactShareInputs", spec := "fnExactShareInputs", unfollowed := true, recurses := true, apart := false }
def FnExactShareInputsSaid : Prop := fnExactShareInputsRow.holds Try.pinned (OpenSpec.ofChange fnExactShareInputsSpec)

/-- ITS FALSE NEIGHBOUR: 'it returns false'. Refute it at one input. -/
def fnExactShareInputsWrong : ChangeSpec := { name := "fnExactShareInputs", fn := fun _ => fun
  | [d1, d2, d3, d4] => { results := [.lit (.bool false)], args := [d1, d2, d3, d4] }
  | _ => none }
def FnExactShareInputsWrongFalsely : Prop := fnExactShareInputsRow.holds Try.pinned (OpenSpec.ofChange fnExactShareInputsWrong)

/-- 'laws.FnExactSharedWires': WHATEVER THE INPUT: true; the input reads as it did. -/
def fnExactSharedWiresSpec : ChangeSpec := { name := "fnExactSharedWires", fn := fun _ => fun
  | [d1, d2, d3, d4] => { results := [.lit (.bool true)], args := [d1, d2, d3, d4] }
  | _ => none }
def fnExactSharedWiresRow : OpenClaim := { program := "ytmkcanbaleecfaa", sum := "a35063c8d292f739eb2e36ad4832ed6e3bbfc5e1eeb3ca7b4a0f40b510f1f846", func := "loop.example/g00877/laws.FnExactSharedWires", spec := "fnExactSharedWires", unfollowed := true, recurses := true, apart := false }
def FnExactSharedWiresSaid : Prop := fnExactSharedWiresRow.holds Try.pinned (OpenSpec.ofChange fnExactSharedWiresSpec)

/-- ITS FALSE NEIGHBOUR: 'it returns false'. Refute it at one input. -/
def fnExactSharedWiresWrong : ChangeSpec := { name := "fnExactSharedWires", fn := fun _ => fun
  | [d1, d2, d3, d4] => { results := [.lit (.bool false)], args := [d1, d2, d3, d4] }
  | _ => none }
def FnExactSharedWiresWrongFalsely : Prop := fnExactSharedWiresRow.holds Try.pinned (OpenSpec.ofChange fnExactSharedWiresWrong)

/-- 'laws.FnExactRunSharedBits': WHATEVER THE INPUT: true; the input reads as it did. -/
def fnExactRunSharedBitsSpec : ChangeSpec := { name := "fnExactRunSharedBits", fn := fun _ => fun
  | [d1, d2, d3, d4] => { results := [.lit (.bool true)], args := [d1, d2, d3, d4] }
  | _ => none }
def fnExactRunSharedBitsRow : OpenClaim := { program := "ytmkcanbaleecfaa", sum := "a35063c8d292f739eb2e36ad4832ed6e3bbfc5e1eeb3ca7b4a0f40b510f1f846", func := "loop.example/g00877/laws.FnExactRunSharedBits", spec := "fnExactRunSharedBits", unfollowed := true, recurses := true, apart := false }
def FnExactRunSharedBitsSaid : Prop := fnExactRunSharedBitsRow.holds Try.pinned (OpenSpec.ofChange fnExactRunSharedBitsSpec)

/-- ITS FALSE NEIGHBOUR: 'it returns false'. Refute it at one input. -/
def fnExactRunSharedBitsWrong : ChangeSpec := { name := "fnExactRunSharedBits", fn := fun _ => fun
  | [d1, d2, d3, d4] => { results := [.lit (.bool false)], args := [d1, d2, d3, d4] }
  | _ => none }
def FnExactRunSharedBitsWrongFalsely : Prop := fnExactRunSharedBitsRow.holds Try.pinned (OpenSpec.ofChange fnExactRunSharedBitsWrong)

/-- 'laws.FnExactPartyWires': WHATEVER THE INPUT: true; the input reads as it did. -/
def fnExactPartyWiresSpec : ChangeSpec := { name := "fnExactPartyWires", fn := fun _ => fun
  | [d1, d2, d3, d4, d5] => { results := [.lit (.bool true)], args := [d1, d2, d3, d4, d5] }
  | _ => none }
def fnExactPartyWiresRow : OpenClaim := { program := "ytmkcanbaleecfaa", sum := "a35063c8d292f739eb2e36ad4832ed6e3bbfc5e1eeb3ca7b4a0f40b510f1f846", func := "loop.example/g00877/laws.FnExactPartyWires", spec := "fnExactPartyWires", unfollowed := true, recurses := true, apart := false }
def FnExactPartyWiresSaid : Prop := fnExactPartyWiresRow.holds Try.pinned (OpenSpec.ofChange fnExactPartyWiresSpec)

/-- ITS FALSE NEIGHBOUR: 'it returns false'. Refute it at one input. -/
def fnExactPartyWiresWrong : ChangeSpec := { name := "fnExactPartyWires", fn := fun _ => fun
  | [d1, d2, d3, d4, d5] => { results := [.lit (.bool false)], args := [d1, d2, d3, d4, d5] }
  | _ => none }
def FnExactPartyWiresWrongFalsely : Prop := fnExactPartyWiresRow.holds Try.pinned (OpenSpec.ofChange fnExactPartyWiresWrong)

/-- 'laws.FnExactOpenedFor': WHATEVER THE INPUT: true; the input reads as it did. -/
def fnExactOpenedForSpec : ChangeSpec := { name := "fnExactOpenedFor", fn := fun _ => fun
  | [d1, d2, d3, d4] => { results := [.lit (.bool true)], args := [d1, d2, d3, d4] }
  | _ => none }
def fnExactOpenedForRow : OpenClaim := { program := "ytmkcanbaleecfaa", sum := "a35063c8d292f739eb2e36ad4832ed6e3bbfc5e1eeb3ca7b4a0f40b510f1f846", func := "loop.example/g00877/laws.FnExactOpenedFor", spec := "fnExactOpenedFor", unfollowed := true, recurses := true, apart := false }
def FnExactOpenedForSaid : Prop := fnExactOpenedForRow.holds Try.pinned (OpenSpec.ofChange fnExactOpenedForSpec)

/-- ITS FALSE NEIGHBOUR: 'it returns false'. Refute it at one input. -/
def fnExactOpenedForWrong : ChangeSpec := { name := "fnExactOpenedFor", fn := fun _ => fun
  | [d1, d2, d3, d4] => { results := [.lit (.bool false)], args := [d1, d2, d3, d4] }
  | _ => none }
def FnExactOpenedForWrongFalsely : Prop := fnExactOpenedForRow.holds Try.pinned (OpenSpec.ofChange fnExactOpenedForWrong)

/-- 'laws.FnSharedBits': WHATEVER THE INPUT: true; the input reads as it did. -/
def fnSharedBitsSpec : ChangeSpec := { name := "fnSharedBits", fn := fun _ => fun
  | [d1, d2] => { results := [.lit (.bool true)], args := [d1, d2] }
  | _ => none }
def fnSharedBitsRow : OpenClaim := { program := "ytmkcanbaleecfaa", sum := "a35063c8d292f739eb2e36ad4832ed6e3bbfc5e1eeb3ca7b4a0f40b510f1f846", func := "loop.example/g00877/laws.FnSharedBits", spec := "fnSharedBits", unfollowed := true, recurses := true, apart := false }
def FnSharedBitsSaid : Prop := fnSharedBitsRow.holds Try.pinned (OpenSpec.ofChange fnSharedBitsSpec)

/-- ITS FALSE NEIGHBOUR: 'it returns false'. Refute it at one input. -/
def fnSharedBitsWrong : ChangeSpec := { name := "fnSharedBits", fn := fun _ => fun
  | [d1, d2] => { results := [.lit (.bool false)], args := [d1, d2] }
  | _ => none }
def FnSharedBitsWrongFalsely : Prop := fnSharedBitsRow.holds Try.pinned (OpenSpec.ofChange fnSharedBitsWrong)

/- THE SECOND FORM. 'bulk': how many values and letters a reading holds, each counted each time it is reached (what is shared counts as often as it is met; a slice's spare places count too). A statement '..UptoSaid' is the law's where the arguments, and the package variables that the reading takes, are together of bulk at most 1048576: NARROWER than '..Said'. Prove '..Said' where nothing that the law and all that it calls make is longer than what came in: it says more and counts as full. Else prove '..UptoSaid'. A law counts once. -/
mutual
def uptoBulk {H : Type} : DataW H → Nat
  | .lit (.string bytes) => bytes.length + 1
  | .lit _ => 1
  | .nil => 1
  | .ptr d => uptoBulk d + 1
  | .slice elems spare => uptoBulkAll elems + uptoBulkAll spare + 1
  | .agg parts => uptoBulkAll parts + 1
  | .iface _ d => uptoBulk d + 1
  | .map entries => uptoBulkEntries entries + 1
  | .held _ => 1
def uptoBulkAll {H : Type} : List (DataW H) → Nat
  | [] => 0
  | d :: r => uptoBulk d + uptoBulkAll r
def uptoBulkEntries {H : Type} : List (Lit × DataW H) → Nat
  | [] => 0
  | x :: r => uptoBulkEntry x + uptoBulkEntries r
def uptoBulkEntry {H : Type} : Lit × DataW H → Nat
  | (.string bytes, d) => bytes.length + uptoBulk d + 1
  | (_, d) => uptoBulk d + 1
 end
def uptoSmall : (H : Type) → List (DataW H) → Bool := fun _ ds => decide (uptoBulkAll ds ≤ 1048576)
def OpenSpec.upto (s : _root_.Go.ChangeSpec) : _root_.Go.OpenSpec := { _root_.Go.OpenSpec.ofChange s with cond := some uptoSmall }

/-- 'laws.FnExactTriplesNeeded', WHERE WHAT IT READS IS OF BULK AT MOST 1048576: true; the input reads as it did. -/
def fnExactTriplesNeededUptoRow : OpenClaim := { program := "ytmkcanbaleecfaa", sum := "a35063c8d292f739eb2e36ad4832ed6e3bbfc5e1eeb3ca7b4a0f40b510f1f846", func := "loop.example/g00877/laws.FnExactTriplesNeeded", spec := "fnExactTriplesNeeded", unfollowed := true, recurses := true, apart := false, narrowed := true }
def FnExactTriplesNeededUptoSaid : Prop := fnExactTriplesNeededUptoRow.holds Try.pinned (OpenSpec.upto fnExactTriplesNeededSpec)

/-- 'laws.FnExactShareInputs', WHERE WHAT IT READS IS OF BULK AT MOST 1048576: true; the input reads as it did. -/
def fnExactShareInputsUptoRow : OpenClaim := { program := "ytmkcanbaleecfaa", sum := "a35063c8d292f739eb2e36ad4832ed6e3bbfc5e1eeb3ca7b4a0f40b510f1f846", func := "loop.example/g00877/laws.FnExactShareInputs", spec := "fnExactShareInputs", unfollowed := true, recurses := true, apart := false, narrowed := true }
def FnExactShareInputsUptoSaid : Prop := fnExactShareInputsUptoRow.holds Try.pinned (OpenSpec.upto fnExactShareInputsSpec)

/-- 'laws.FnExactSharedWires', WHERE WHAT IT READS IS OF BULK AT MOST 1048576: true; the input reads as it did. -/
def fnExactSharedWiresUptoRow : OpenClaim := { program := "ytmkcanbaleecfaa", sum := "a35063c8d292f739eb2e36ad4832ed6e3bbfc5e1eeb3ca7b4a0f40b510f1f846", func := "loop.example/g00877/laws.FnExactSharedWires", spec := "fnExactSharedWires", unfollowed := true, recurses := true, apart := false, narrowed := true }
def FnExactSharedWiresUptoSaid : Prop := fnExactSharedWiresUptoRow.holds Try.pinned (OpenSpec.upto fnExactSharedWiresSpec)

/-- 'laws.FnExactRunSharedBits', WHERE WHAT IT READS IS OF BULK AT MOST 1048576: true; the input reads as it did. -/
def fnExactRunSharedBitsUptoRow : OpenClaim := { program := "ytmkcanbaleecfaa", sum := "a35063c8d292f739eb2e36ad4832ed6e3bbfc5e1eeb3ca7b4a0f40b510f1f846", func := "loop.example/g00877/laws.FnExactRunSharedBits", spec := "fnExactRunSharedBits", unfollowed := true, recurses := true, apart := false, narrowed := true }
def FnExactRunSharedBitsUptoSaid : Prop := fnExactRunSharedBitsUptoRow.holds Try.pinned (OpenSpec.upto fnExactRunSharedBitsSpec)

/-- 'laws.FnExactPartyWires', WHERE WHAT IT READS IS OF BULK AT MOST 1048576: true; the input reads as it did. -/
def fnExactPartyWiresUptoRow : OpenClaim := { program := "ytmkcanbaleecfaa", sum := "a35063c8d292f739eb2e36ad4832ed6e3bbfc5e1eeb3ca7b4a0f40b510f1f846", func := "loop.example/g00877/laws.FnExactPartyWires", spec := "fnExactPartyWires", unfollowed := true, recurses := true, apart := false, narrowed := true }
def FnExactPartyWiresUptoSaid : Prop := fnExactPartyWiresUptoRow.holds Try.pinned (OpenSpec.upto fnExactPartyWiresSpec)

/-- 'laws.FnExactOpenedFor', WHERE WHAT IT READS IS OF BULK AT MOST 1048576: true; the input reads as it did. -/
def fnExactOpenedForUptoRow : OpenClaim := { program := "ytmkcanbaleecfaa", sum := "a35063c8d292f739eb2e36ad4832ed6e3bbfc5e1eeb3ca7b4a0f40b510f1f846", func := "loop.example/g00877/laws.FnExactOpenedFor", spec := "fnExactOpenedFor", unfollowed := true, recurses := true, apart := false, narrowed := true }
def FnExactOpenedForUptoSaid : Prop := fnExactOpenedForUptoRow.holds Try.pinned (OpenSpec.upto fnExactOpenedForSpec)

/-- 'laws.FnSharedBits', WHERE WHAT IT READS IS OF BULK AT MOST 1048576: true; the input reads as it did. -/
def fnSharedBitsUptoRow : OpenClaim := { program := "ytmkcanbaleecfaa", sum := "a35063c8d292f739eb2e36ad4832ed6e3bbfc5e1eeb3ca7b4a0f40b510f1f846", func := "loop.example/g00877/laws.FnSharedBits", spec := "fnSharedBits", unfollowed := true, recurses := true, apart := false, narrowed := true }
def FnSharedBitsUptoSaid : Prop := fnSharedBitsUptoRow.holds Try.pinned (OpenSpec.upto fnSharedBitsSpec)

end Rows
end Go.Proofs.Ytmkcanbaleecfaa
