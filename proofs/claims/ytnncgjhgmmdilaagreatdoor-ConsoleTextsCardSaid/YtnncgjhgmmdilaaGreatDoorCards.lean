/-
  DERIVED. GIVEN WITH THE SEED: THE CARDS: each row of YtnncgjhgmmdilaaGreatDoorRows.lean that lists a variable, with what it lists TIED to the program's text (the seventh form; the later family's looks); each row that meets fmt, with fmt's text TOLD by the authors' own Lean function (tested against real Go, not proved from fmt's source: count such statements apart). THE CARD IS WHAT COUNTS. Prove the row's statement (the work); the ties are given (YtnncgjhgmmdilaaGreatDoorTie.lean); close each card by the builder's one call (the guide's Derived/Test/ToyasCard.lean, 'card_holds'). Laid BY PROGRAM, IN A SANDBOX (cutbox-door.mjs). By AI agents, Wed Nov 11 2026. No macro, syntax, notation, axiom, sorry.
-/
import Derived.Test.YtnncgjhgmmdilaaGreatDoorRows
import GoSem.ClaimSeven
namespace Go.Proofs.YtnncgjhgmmdilaaGreatDoor
namespace Rows

/-- THE TIED CARD OF 'partylinelaw30.ConsoleTexts'. -/
def consoleTextsCard : Claim7 := { stood := { row := consoleTextsRow, standIns := [], harness := (true, "a2a6749fc012a51b719cb47d45460b09c751d0f3bf661cafb5e8a5c49fd4afcd"), looks := true }, kinds := [], alts := [], laidByText := true, laidKinds := [.data, .data, .data, .data, .data, .sentinel, .sentinel, .data, .pinned], laidTests := true, laidLooks := .later }
def ConsoleTextsCardSaid : Prop := Claim7.holds Tryz.pinned (.plain (OpenSpec.ofChange consoleTextsSpec)) consoleTextsCard

/-- THE SECOND FORM's CARD OF 'partylinelaw30.ConsoleTexts'. -/
def consoleTextsUptoCard : Claim7 := { stood := { row := consoleTextsUptoRow, standIns := [], harness := (true, "a2a6749fc012a51b719cb47d45460b09c751d0f3bf661cafb5e8a5c49fd4afcd"), looks := true }, kinds := [], alts := [], laidByText := true, laidKinds := [.data, .data, .data, .data, .data, .sentinel, .sentinel, .data, .pinned], laidTests := true, laidLooks := .later }
def ConsoleTextsUptoCardSaid : Prop := Claim7.holds Tryz.pinned (.plain (OpenSpec.upto consoleTextsSpec)) consoleTextsUptoCard
end Rows
end Go.Proofs.YtnncgjhgmmdilaaGreatDoor
