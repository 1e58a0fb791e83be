/-
  DERIVED. GIVEN WITH THE SEED: THE CARDS: each row of YtfkllblnkmpklaaGreatDoorRows.lean that lists a variable, with what it lists TIED to the program's text (the seventh form; the later family's looks); each row that meets fmt, with fmt's text TOLD by the authors' own Lean function (tested against real Go, not proved from fmt's source: count such statements apart). THE CARD IS WHAT COUNTS. Prove the row's statement (the work); the ties are given (YtfkllblnkmpklaaGreatDoorTie.lean); close each card by the builder's one call (the guide's Derived/Test/ToyasCard.lean, 'card_holds'). Laid BY PROGRAM, IN A SANDBOX (cutbox-door.mjs). By AI agents, Wed Nov 11 2026. No macro, syntax, notation, axiom, sorry.
-/
import Derived.Test.YtfkllblnkmpklaaGreatDoorRows
import GoSem.ClaimSeven
namespace Go.Proofs.YtfkllblnkmpklaaGreatDoor
namespace Rows

/-- THE TIED CARD OF 'crimplaw10.PlacesFolded'. -/
def placesFoldedCard : Claim7 := { stood := { row := placesFoldedRow, standIns := [], harness := (true, "c836bacd63ffcf19a4740cf71be2db83cd0288936ed999d728bedbc97f22da5a"), looks := false }, kinds := [], alts := [], laidByText := true, laidKinds := [.wider, .data, .widerDeep], laidTests := true, laidLooks := .later }
def PlacesFoldedCardSaid : Prop := Claim7.holds Tryz.pinned (.plain (OpenSpec.ofChange placesFoldedSpec)) placesFoldedCard

/-- THE SECOND FORM's CARD OF 'crimplaw10.PlacesFolded'. -/
def placesFoldedUptoCard : Claim7 := { stood := { row := placesFoldedUptoRow, standIns := [], harness := (true, "c836bacd63ffcf19a4740cf71be2db83cd0288936ed999d728bedbc97f22da5a"), looks := false }, kinds := [], alts := [], laidByText := true, laidKinds := [.wider, .data, .widerDeep], laidTests := true, laidLooks := .later }
def PlacesFoldedUptoCardSaid : Prop := Claim7.holds Tryz.pinned (.plain (OpenSpec.upto placesFoldedSpec)) placesFoldedUptoCard
end Rows
end Go.Proofs.YtfkllblnkmpklaaGreatDoor
