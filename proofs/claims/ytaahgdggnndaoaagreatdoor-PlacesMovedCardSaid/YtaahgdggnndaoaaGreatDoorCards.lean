/-
  DERIVED. GIVEN WITH THE SEED: THE CARDS: each row of YtaahgdggnndaoaaGreatDoorRows.lean that lists a variable, with what it lists TIED to the program's text (the seventh form; the later family's looks); each row that meets fmt, with fmt's text TOLD by the authors' own Lean function (tested against real Go, not proved from fmt's source: count such statements apart). THE CARD IS WHAT COUNTS. Prove the row's statement (the work); the ties are given (YtaahgdggnndaoaaGreatDoorTie.lean); close each card by the builder's one call (the guide's Derived/Test/ToyasCard.lean, 'card_holds'). Laid BY PROGRAM, IN A SANDBOX (cutbox-door.mjs). By AI agents, Wed Nov 11 2026. No macro, syntax, notation, axiom, sorry.
-/
import Derived.Test.YtaahgdggnndaoaaGreatDoorRows
import GoSem.ClaimSeven
namespace Go.Proofs.YtaahgdggnndaoaaGreatDoor
namespace Rows

/-- THE TIED CARD OF 'crimplaw10.PlacesMoved'. -/
def placesMovedCard : Claim7 := { stood := { row := placesMovedRow, standIns := [], harness := (true, "b181e114d8b7dbd8f42629ce3400c8d54632e641098af4c0b61edb431c904d3e"), looks := false }, kinds := [], alts := [], laidByText := true, laidKinds := [.wider, .data, .data, .widerDeep], laidTests := true, laidLooks := .later }
def PlacesMovedCardSaid : Prop := Claim7.holds Tryz.pinned (.plain (OpenSpec.ofChange placesMovedSpec)) placesMovedCard

/-- THE SECOND FORM's CARD OF 'crimplaw10.PlacesMoved'. -/
def placesMovedUptoCard : Claim7 := { stood := { row := placesMovedUptoRow, standIns := [], harness := (true, "b181e114d8b7dbd8f42629ce3400c8d54632e641098af4c0b61edb431c904d3e"), looks := false }, kinds := [], alts := [], laidByText := true, laidKinds := [.wider, .data, .data, .widerDeep], laidTests := true, laidLooks := .later }
def PlacesMovedUptoCardSaid : Prop := Claim7.holds Tryz.pinned (.plain (OpenSpec.upto placesMovedSpec)) placesMovedUptoCard
end Rows
end Go.Proofs.YtaahgdggnndaoaaGreatDoor
