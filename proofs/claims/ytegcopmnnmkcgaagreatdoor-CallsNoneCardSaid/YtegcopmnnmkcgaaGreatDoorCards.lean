/-
  DERIVED. GIVEN WITH THE SEED: THE CARDS: each row of YtegcopmnnmkcgaaGreatDoorRows.lean that lists a variable, with what it lists TIED to the program's text (the seventh form; the later family's looks); each row that meets fmt, with fmt's text TOLD by the authors' own Lean function (tested against real Go, not proved from fmt's source: count such statements apart). THE CARD IS WHAT COUNTS. Prove the row's statement (the work); the ties are given (YtegcopmnnmkcgaaGreatDoorTie.lean); close each card by the builder's one call (the guide's Derived/Test/ToyasCard.lean, 'card_holds'). Laid BY PROGRAM, IN A SANDBOX (cutbox-door.mjs). By AI agents, Wed Nov 11 2026. No macro, syntax, notation, axiom, sorry.
-/
import Derived.Test.YtegcopmnnmkcgaaGreatDoorRows
import GoSem.ClaimSeven
namespace Go.Proofs.YtegcopmnnmkcgaaGreatDoor
namespace Rows

/-- THE TIED CARD OF 'partylinelaw26.CallsNone'. -/
def callsNoneCard : Claim7 := { stood := { row := callsNoneRow, standIns := [], harness := (true, "828958b0b564a7b7dd6e9387f64eab38bb19390aa3539f576fbe5e4a6e9bff13"), looks := true }, kinds := [], alts := [], laidByText := true, laidKinds := [.data, .data], laidTests := true, laidLooks := .later }
def CallsNoneCardSaid : Prop := Claim7.holds Tryz.pinned (.plain (OpenSpec.ofChange callsNoneSpec)) callsNoneCard

/-- THE SECOND FORM's CARD OF 'partylinelaw26.CallsNone'. -/
def callsNoneUptoCard : Claim7 := { stood := { row := callsNoneUptoRow, standIns := [], harness := (true, "828958b0b564a7b7dd6e9387f64eab38bb19390aa3539f576fbe5e4a6e9bff13"), looks := true }, kinds := [], alts := [], laidByText := true, laidKinds := [.data, .data], laidTests := true, laidLooks := .later }
def CallsNoneUptoCardSaid : Prop := Claim7.holds Tryz.pinned (.plain (OpenSpec.upto callsNoneSpec)) callsNoneUptoCard
end Rows
end Go.Proofs.YtegcopmnnmkcgaaGreatDoor
