/-
  DERIVED. GIVEN WITH THE SEED: THE CARDS: each row of YtagdngknkloibaaGreatDoorRows.lean that lists a variable, with what it lists TIED to the program's text (the seventh form; the later family's looks); each row that meets fmt, with fmt's text TOLD by the authors' own Lean function (tested against real Go, not proved from fmt's source: count such statements apart). THE CARD IS WHAT COUNTS. Prove the row's statement (the work); the ties are given (YtagdngknkloibaaGreatDoorTie.lean); close each card by the builder's one call (the guide's Derived/Test/ToyasCard.lean, 'card_holds'). Laid BY PROGRAM, IN A SANDBOX (cutbox-door.mjs). By AI agents, Wed Nov 11 2026. No macro, syntax, notation, axiom, sorry.
-/
import Derived.Test.YtagdngknkloibaaGreatDoorRows
import GoSem.ClaimSeven
namespace Go.Proofs.YtagdngknkloibaaGreatDoor
namespace Rows

/-- THE TIED CARD OF 'crimplaw10.PlacesAll'. -/
def placesAllCard : Claim7 := { stood := { row := placesAllRow, standIns := [], harness := (true, "f7524f307c9f1c5e37bc384200394f270f0668f4e5bcffb196304206d8c9c2ee"), looks := false }, kinds := [], alts := [], laidByText := true, laidKinds := [.wider, .data, .widerDeep], laidTests := true, laidLooks := .later }
def PlacesAllCardSaid : Prop := Claim7.holds Tryz.pinned (.plain (OpenSpec.ofChange placesAllSpec)) placesAllCard

/-- THE TIED CARD OF 'crimplaw10.PlacesFolded'. -/
def placesFoldedCard : Claim7 := { stood := { row := placesFoldedRow, standIns := [], harness := (true, "f7524f307c9f1c5e37bc384200394f270f0668f4e5bcffb196304206d8c9c2ee"), looks := false }, kinds := [], alts := [], laidByText := true, laidKinds := [.wider, .data, .widerDeep], laidTests := true, laidLooks := .later }
def PlacesFoldedCardSaid : Prop := Claim7.holds Tryz.pinned (.plain (OpenSpec.ofChange placesFoldedSpec)) placesFoldedCard

/-- THE TIED CARD OF 'crimplaw10.PlacesErrors'. -/
def placesErrorsCard : Claim7 := { stood := { row := placesErrorsRow, standIns := [], harness := (true, "f7524f307c9f1c5e37bc384200394f270f0668f4e5bcffb196304206d8c9c2ee"), looks := false }, kinds := [], alts := [], laidByText := true, laidKinds := [.wider, .data, .widerDeep], laidTests := true, laidLooks := .later }
def PlacesErrorsCardSaid : Prop := Claim7.holds Tryz.pinned (.plain (OpenSpec.ofChange placesErrorsSpec)) placesErrorsCard

/-- THE SECOND FORM's CARD OF 'crimplaw10.PlacesAll'. -/
def placesAllUptoCard : Claim7 := { stood := { row := placesAllUptoRow, standIns := [], harness := (true, "f7524f307c9f1c5e37bc384200394f270f0668f4e5bcffb196304206d8c9c2ee"), looks := false }, kinds := [], alts := [], laidByText := true, laidKinds := [.wider, .data, .widerDeep], laidTests := true, laidLooks := .later }
def PlacesAllUptoCardSaid : Prop := Claim7.holds Tryz.pinned (.plain (OpenSpec.upto placesAllSpec)) placesAllUptoCard

/-- THE SECOND FORM's CARD OF 'crimplaw10.PlacesFolded'. -/
def placesFoldedUptoCard : Claim7 := { stood := { row := placesFoldedUptoRow, standIns := [], harness := (true, "f7524f307c9f1c5e37bc384200394f270f0668f4e5bcffb196304206d8c9c2ee"), looks := false }, kinds := [], alts := [], laidByText := true, laidKinds := [.wider, .data, .widerDeep], laidTests := true, laidLooks := .later }
def PlacesFoldedUptoCardSaid : Prop := Claim7.holds Tryz.pinned (.plain (OpenSpec.upto placesFoldedSpec)) placesFoldedUptoCard

/-- THE SECOND FORM's CARD OF 'crimplaw10.PlacesErrors'. -/
def placesErrorsUptoCard : Claim7 := { stood := { row := placesErrorsUptoRow, standIns := [], harness := (true, "f7524f307c9f1c5e37bc384200394f270f0668f4e5bcffb196304206d8c9c2ee"), looks := false }, kinds := [], alts := [], laidByText := true, laidKinds := [.wider, .data, .widerDeep], laidTests := true, laidLooks := .later }
def PlacesErrorsUptoCardSaid : Prop := Claim7.holds Tryz.pinned (.plain (OpenSpec.upto placesErrorsSpec)) placesErrorsUptoCard
end Rows
end Go.Proofs.YtagdngknkloibaaGreatDoor
