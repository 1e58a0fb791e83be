/-
  DERIVED. GIVEN WITH THE SEED: THE CARDS: each row of YtkikkjgmadjgjaaGreatDoorRows.lean that lists a variable, with what it lists TIED to the program's text (the seventh form; the later family's looks); each row that meets fmt, with fmt's text TOLD by the authors' own Lean function (tested against real Go, not proved from fmt's source: count such statements apart). THE CARD IS WHAT COUNTS. Prove the row's statement (the work); the ties are given (YtkikkjgmadjgjaaGreatDoorTie.lean); close each card by the builder's one call (the guide's Derived/Test/ToyasCard.lean, 'card_holds'). Laid BY PROGRAM, IN A SANDBOX (cutbox-door.mjs). By AI agents, Wed Nov 11 2026. No macro, syntax, notation, axiom, sorry.
-/
import Derived.Test.YtkikkjgmadjgjaaGreatDoorRows
import GoSem.ClaimSeven
namespace Go.Proofs.YtkikkjgmadjgjaaGreatDoor
namespace Rows

/-- THE TIED CARD OF 'crimplaw10.PlacesKnown'. -/
def placesKnownCard : Claim7 := { stood := { row := placesKnownRow, standIns := [], harness := (true, "e67253edaf25cbc27cbf1a5673f098eb323ef2133955389944a724d7ec266bec"), looks := false }, kinds := [], alts := [], laidByText := true, laidKinds := [.wider, .data, .data, .widerDeep], laidTests := true, laidLooks := .later }
def PlacesKnownCardSaid : Prop := Claim7.holds Tryz.pinned (.plain (OpenSpec.ofChange placesKnownSpec)) placesKnownCard

/-- THE SECOND FORM's CARD OF 'crimplaw10.PlacesKnown'. -/
def placesKnownUptoCard : Claim7 := { stood := { row := placesKnownUptoRow, standIns := [], harness := (true, "e67253edaf25cbc27cbf1a5673f098eb323ef2133955389944a724d7ec266bec"), looks := false }, kinds := [], alts := [], laidByText := true, laidKinds := [.wider, .data, .data, .widerDeep], laidTests := true, laidLooks := .later }
def PlacesKnownUptoCardSaid : Prop := Claim7.holds Tryz.pinned (.plain (OpenSpec.upto placesKnownSpec)) placesKnownUptoCard
end Rows
end Go.Proofs.YtkikkjgmadjgjaaGreatDoor
