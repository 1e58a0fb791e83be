/-
  DERIVED. GIVEN WITH THE SEED: THE CARDS: each row of YtplljlaeahkchaaGreatDoorRows.lean that lists a variable, with what it lists TIED to the program's text (the seventh form; the later family's looks); each row that meets fmt, with fmt's text TOLD by the authors' own Lean function (tested against real Go, not proved from fmt's source: count such statements apart). THE CARD IS WHAT COUNTS. Prove the row's statement (the work); the ties are given (YtplljlaeahkchaaGreatDoorTie.lean); close each card by the builder's one call (the guide's Derived/Test/ToyasCard.lean, 'card_holds'). Laid BY PROGRAM, IN A SANDBOX (cutbox-door.mjs). By AI agents, Wed Nov 11 2026. No macro, syntax, notation, axiom, sorry.
-/
import Derived.Test.YtplljlaeahkchaaGreatDoorRows
import GoSem.ClaimSeven
namespace Go.Proofs.YtplljlaeahkchaaGreatDoor
namespace Rows

/-- THE TIED CARD OF 'crimplaw10.PlacesCloses'. -/
def placesClosesCard : Claim7 := { stood := { row := placesClosesRow, standIns := [], harness := (true, "b9cd638820efea22582a0943a89b6cef342d7b6c20d97515d4d5f9bb3f9a78e3"), looks := false }, kinds := [], alts := [], laidByText := true, laidKinds := [.wider, .data, .widerDeep], laidTests := true, laidLooks := .later }
def PlacesClosesCardSaid : Prop := Claim7.holds Tryz.pinned (.plain (OpenSpec.ofChange placesClosesSpec)) placesClosesCard

/-- THE TIED CARD OF 'crimplaw10.PlacesOne'. -/
def placesOneCard : Claim7 := { stood := { row := placesOneRow, standIns := [], harness := (true, "b9cd638820efea22582a0943a89b6cef342d7b6c20d97515d4d5f9bb3f9a78e3"), looks := false }, kinds := [], alts := [], laidByText := true, laidKinds := [.wider, .data, .widerDeep], laidTests := true, laidLooks := .later }
def PlacesOneCardSaid : Prop := Claim7.holds Tryz.pinned (.plain (OpenSpec.ofChange placesOneSpec)) placesOneCard

/-- THE TIED CARD OF 'crimplaw10.PlacesMoved'. -/
def placesMovedCard : Claim7 := { stood := { row := placesMovedRow, standIns := [], harness := (true, "b9cd638820efea22582a0943a89b6cef342d7b6c20d97515d4d5f9bb3f9a78e3"), looks := false }, kinds := [], alts := [], laidByText := true, laidKinds := [.wider, .data, .data, .widerDeep], laidTests := true, laidLooks := .later }
def PlacesMovedCardSaid : Prop := Claim7.holds Tryz.pinned (.plain (OpenSpec.ofChange placesMovedSpec)) placesMovedCard

/-- THE TIED CARD OF 'crimplaw10.PlacesAll'. -/
def placesAllCard : Claim7 := { stood := { row := placesAllRow, standIns := [], harness := (true, "b9cd638820efea22582a0943a89b6cef342d7b6c20d97515d4d5f9bb3f9a78e3"), looks := false }, kinds := [], alts := [], laidByText := true, laidKinds := [.wider, .data, .widerDeep], laidTests := true, laidLooks := .later }
def PlacesAllCardSaid : Prop := Claim7.holds Tryz.pinned (.plain (OpenSpec.ofChange placesAllSpec)) placesAllCard

/-- THE TIED CARD OF 'crimplaw10.PlacesFolded'. -/
def placesFoldedCard : Claim7 := { stood := { row := placesFoldedRow, standIns := [], harness := (true, "b9cd638820efea22582a0943a89b6cef342d7b6c20d97515d4d5f9bb3f9a78e3"), looks := false }, kinds := [], alts := [], laidByText := true, laidKinds := [.wider, .data, .widerDeep], laidTests := true, laidLooks := .later }
def PlacesFoldedCardSaid : Prop := Claim7.holds Tryz.pinned (.plain (OpenSpec.ofChange placesFoldedSpec)) placesFoldedCard

/-- THE TIED CARD OF 'crimplaw10.PlacesErrors'. -/
def placesErrorsCard : Claim7 := { stood := { row := placesErrorsRow, standIns := [], harness := (true, "b9cd638820efea22582a0943a89b6cef342d7b6c20d97515d4d5f9bb3f9a78e3"), looks := false }, kinds := [], alts := [], laidByText := true, laidKinds := [.wider, .data, .widerDeep], laidTests := true, laidLooks := .later }
def PlacesErrorsCardSaid : Prop := Claim7.holds Tryz.pinned (.plain (OpenSpec.ofChange placesErrorsSpec)) placesErrorsCard

/-- THE SECOND FORM's CARD OF 'crimplaw10.PlacesCloses'. -/
def placesClosesUptoCard : Claim7 := { stood := { row := placesClosesUptoRow, standIns := [], harness := (true, "b9cd638820efea22582a0943a89b6cef342d7b6c20d97515d4d5f9bb3f9a78e3"), looks := false }, kinds := [], alts := [], laidByText := true, laidKinds := [.wider, .data, .widerDeep], laidTests := true, laidLooks := .later }
def PlacesClosesUptoCardSaid : Prop := Claim7.holds Tryz.pinned (.plain (OpenSpec.upto placesClosesSpec)) placesClosesUptoCard

/-- THE SECOND FORM's CARD OF 'crimplaw10.PlacesOne'. -/
def placesOneUptoCard : Claim7 := { stood := { row := placesOneUptoRow, standIns := [], harness := (true, "b9cd638820efea22582a0943a89b6cef342d7b6c20d97515d4d5f9bb3f9a78e3"), looks := false }, kinds := [], alts := [], laidByText := true, laidKinds := [.wider, .data, .widerDeep], laidTests := true, laidLooks := .later }
def PlacesOneUptoCardSaid : Prop := Claim7.holds Tryz.pinned (.plain (OpenSpec.upto placesOneSpec)) placesOneUptoCard

/-- THE SECOND FORM's CARD OF 'crimplaw10.PlacesMoved'. -/
def placesMovedUptoCard : Claim7 := { stood := { row := placesMovedUptoRow, standIns := [], harness := (true, "b9cd638820efea22582a0943a89b6cef342d7b6c20d97515d4d5f9bb3f9a78e3"), looks := false }, kinds := [], alts := [], laidByText := true, laidKinds := [.wider, .data, .data, .widerDeep], laidTests := true, laidLooks := .later }
def PlacesMovedUptoCardSaid : Prop := Claim7.holds Tryz.pinned (.plain (OpenSpec.upto placesMovedSpec)) placesMovedUptoCard

/-- THE SECOND FORM's CARD OF 'crimplaw10.PlacesAll'. -/
def placesAllUptoCard : Claim7 := { stood := { row := placesAllUptoRow, standIns := [], harness := (true, "b9cd638820efea22582a0943a89b6cef342d7b6c20d97515d4d5f9bb3f9a78e3"), looks := false }, kinds := [], alts := [], laidByText := true, laidKinds := [.wider, .data, .widerDeep], laidTests := true, laidLooks := .later }
def PlacesAllUptoCardSaid : Prop := Claim7.holds Tryz.pinned (.plain (OpenSpec.upto placesAllSpec)) placesAllUptoCard

/-- THE SECOND FORM's CARD OF 'crimplaw10.PlacesFolded'. -/
def placesFoldedUptoCard : Claim7 := { stood := { row := placesFoldedUptoRow, standIns := [], harness := (true, "b9cd638820efea22582a0943a89b6cef342d7b6c20d97515d4d5f9bb3f9a78e3"), looks := false }, kinds := [], alts := [], laidByText := true, laidKinds := [.wider, .data, .widerDeep], laidTests := true, laidLooks := .later }
def PlacesFoldedUptoCardSaid : Prop := Claim7.holds Tryz.pinned (.plain (OpenSpec.upto placesFoldedSpec)) placesFoldedUptoCard

/-- THE SECOND FORM's CARD OF 'crimplaw10.PlacesErrors'. -/
def placesErrorsUptoCard : Claim7 := { stood := { row := placesErrorsUptoRow, standIns := [], harness := (true, "b9cd638820efea22582a0943a89b6cef342d7b6c20d97515d4d5f9bb3f9a78e3"), looks := false }, kinds := [], alts := [], laidByText := true, laidKinds := [.wider, .data, .widerDeep], laidTests := true, laidLooks := .later }
def PlacesErrorsUptoCardSaid : Prop := Claim7.holds Tryz.pinned (.plain (OpenSpec.upto placesErrorsSpec)) placesErrorsUptoCard
end Rows
end Go.Proofs.YtplljlaeahkchaaGreatDoor
