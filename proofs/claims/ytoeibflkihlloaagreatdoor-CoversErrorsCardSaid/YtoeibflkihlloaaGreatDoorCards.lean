/-
  DERIVED. GIVEN WITH THE SEED: THE CARDS: each row of YtoeibflkihlloaaGreatDoorRows.lean that lists a variable, with what it lists TIED to the program's text (the seventh form; the later family's looks); each row that meets fmt, with fmt's text TOLD by the authors' own Lean function (tested against real Go, not proved from fmt's source: count such statements apart). THE CARD IS WHAT COUNTS. Prove the row's statement (the work); the ties are given (YtoeibflkihlloaaGreatDoorTie.lean); close each card by the builder's one call (the guide's Derived/Test/ToyasCard.lean, 'card_holds'). Laid BY PROGRAM, IN A SANDBOX (cutbox-door.mjs). By AI agents, Wed Nov 11 2026. No macro, syntax, notation, axiom, sorry.
-/
import Derived.Test.YtoeibflkihlloaaGreatDoorRows
import GoSem.ClaimSeven
namespace Go.Proofs.YtoeibflkihlloaaGreatDoor
namespace Rows

/-- THE TIED CARD OF 'crimplaw21.CoversWalk'. -/
def coversWalkCard : Claim7 := { stood := { row := coversWalkRow, standIns := [], harness := (true, "b47c3943672f366c93e02577c8fbe36062f48b09201a50760c3c05561bcf456c"), looks := false }, kinds := [], alts := [], laidByText := true, laidKinds := [.wider, .data, .data, .widerDeep], laidTests := true, laidLooks := .later }
def CoversWalkCardSaid : Prop := Claim7.holds Tryz.pinned (.plain (OpenSpec.ofChange coversWalkSpec)) coversWalkCard

/-- THE TIED CARD OF 'crimplaw21.CoversErrors'. -/
def coversErrorsCard : Claim7 := { stood := { row := coversErrorsRow, standIns := [], harness := (true, "b47c3943672f366c93e02577c8fbe36062f48b09201a50760c3c05561bcf456c"), looks := false }, kinds := [], alts := [], laidByText := true, laidKinds := [.wider, .data, .data, .widerDeep], laidTests := true, laidLooks := .later }
def CoversErrorsCardSaid : Prop := Claim7.holds Tryz.pinned (.plain (OpenSpec.ofChange coversErrorsSpec)) coversErrorsCard

/-- THE SECOND FORM's CARD OF 'crimplaw21.CoversWalk'. -/
def coversWalkUptoCard : Claim7 := { stood := { row := coversWalkUptoRow, standIns := [], harness := (true, "b47c3943672f366c93e02577c8fbe36062f48b09201a50760c3c05561bcf456c"), looks := false }, kinds := [], alts := [], laidByText := true, laidKinds := [.wider, .data, .data, .widerDeep], laidTests := true, laidLooks := .later }
def CoversWalkUptoCardSaid : Prop := Claim7.holds Tryz.pinned (.plain (OpenSpec.upto coversWalkSpec)) coversWalkUptoCard

/-- THE SECOND FORM's CARD OF 'crimplaw21.CoversErrors'. -/
def coversErrorsUptoCard : Claim7 := { stood := { row := coversErrorsUptoRow, standIns := [], harness := (true, "b47c3943672f366c93e02577c8fbe36062f48b09201a50760c3c05561bcf456c"), looks := false }, kinds := [], alts := [], laidByText := true, laidKinds := [.wider, .data, .data, .widerDeep], laidTests := true, laidLooks := .later }
def CoversErrorsUptoCardSaid : Prop := Claim7.holds Tryz.pinned (.plain (OpenSpec.upto coversErrorsSpec)) coversErrorsUptoCard
end Rows
end Go.Proofs.YtoeibflkihlloaaGreatDoor
