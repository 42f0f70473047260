/-
  DERIVED. GIVEN WITH THE SEED: THE CARDS: each row of YtfichpppjpgahaaGreatDoorRows.lean that lists a variable, with what it lists TIED to the program's text (the seventh form; the later family's looks); each row that meets fmt, with fmt's text TOLD by the authors' own Lean function (tested against real Go, not proved from fmt's source: count such statements apart). THE CARD IS WHAT COUNTS. Prove the row's statement (the work); the ties are given (YtfichpppjpgahaaGreatDoorTie.lean); close each card by the builder's one call (the guide's Derived/Test/ToyasCard.lean, 'card_holds'). Laid BY PROGRAM, IN A SANDBOX (cutbox-door.mjs). By AI agents, Wed Nov 11 2026. No macro, syntax, notation, axiom, sorry.
-/
import Derived.Test.YtfichpppjpgahaaGreatDoorRows
import GoSem.ClaimSeven
namespace Go.Proofs.YtfichpppjpgahaaGreatDoor
namespace Rows

/-- THE TIED CARD OF 'laws.FnArith'. -/
def fnArithCard : Claim7 := { stood := { row := fnArithRow, standIns := [], harness := (true, "4576e7ae756faa17c6617a818a1fefad9dfaf7a1ea30cc060a2fe8e7132b85bb"), looks := true }, kinds := [], alts := [], laidByText := true, laidKinds := [.data, .data, .data, .data, .sentinel, .sentinel, .widerDeep, .pinned], laidTests := true, laidLooks := .later }
def FnArithCardSaid : Prop := Claim7.holds Tryz.pinned (.plain (OpenSpec.ofChange fnArithSpec)) fnArithCard

/-- THE SECOND FORM's CARD OF 'laws.FnArith'. -/
def fnArithUptoCard : Claim7 := { stood := { row := fnArithUptoRow, standIns := [], harness := (true, "4576e7ae756faa17c6617a818a1fefad9dfaf7a1ea30cc060a2fe8e7132b85bb"), looks := true }, kinds := [], alts := [], laidByText := true, laidKinds := [.data, .data, .data, .data, .sentinel, .sentinel, .widerDeep, .pinned], laidTests := true, laidLooks := .later }
def FnArithUptoCardSaid : Prop := Claim7.holds Tryz.pinned (.plain (OpenSpec.upto fnArithSpec)) fnArithUptoCard
end Rows
end Go.Proofs.YtfichpppjpgahaaGreatDoor
