/-
  DERIVED. GIVEN WITH THE SEED: THE CARDS: each row of YtggapmhjgldadaaGreatDoorRows.lean that lists a variable, with what it lists TIED to the program's text (the seventh form; the later family's looks); each row that meets fmt, with fmt's text TOLD by the authors' own Lean function (tested against real Go, not proved from fmt's source: count such statements apart). THE CARD IS WHAT COUNTS. Prove the row's statement (the work); the ties are given (YtggapmhjgldadaaGreatDoorTie.lean); close each card by the builder's one call (the guide's Derived/Test/ToyasCard.lean, 'card_holds'). Laid BY PROGRAM, IN A SANDBOX (cutbox-door.mjs). By AI agents, Wed Nov 11 2026. No macro, syntax, notation, axiom, sorry.
-/
import Derived.Test.YtggapmhjgldadaaGreatDoorRows
import GoSem.ClaimSeven
namespace Go.Proofs.YtggapmhjgldadaaGreatDoor
namespace Rows

/-- THE TIED CARD OF 'crimplaw10.PlacesOne'. -/
def placesOneCard : Claim7 := { stood := { row := placesOneRow, standIns := [], harness := (true, "e9bcda0215093941ba5513eb3bda369dbce7c0d7de1994f6d8fea00a56fba532"), looks := false }, kinds := [], alts := [], laidByText := true, laidKinds := [.wider, .data, .widerDeep], laidTests := true, laidLooks := .later }
def PlacesOneCardSaid : Prop := Claim7.holds Tryz.pinned (.plain (OpenSpec.ofChange placesOneSpec)) placesOneCard

/-- THE SECOND FORM's CARD OF 'crimplaw10.PlacesOne'. -/
def placesOneUptoCard : Claim7 := { stood := { row := placesOneUptoRow, standIns := [], harness := (true, "e9bcda0215093941ba5513eb3bda369dbce7c0d7de1994f6d8fea00a56fba532"), looks := false }, kinds := [], alts := [], laidByText := true, laidKinds := [.wider, .data, .widerDeep], laidTests := true, laidLooks := .later }
def PlacesOneUptoCardSaid : Prop := Claim7.holds Tryz.pinned (.plain (OpenSpec.upto placesOneSpec)) placesOneUptoCard
end Rows
end Go.Proofs.YtggapmhjgldadaaGreatDoor
