/-
  DERIVED. GIVEN WITH THE SEED: THE CARDS: each row of YtoccchebipfncaaGreatDoorRows.lean that lists a variable, with what it lists TIED to the program's text (the seventh form; the later family's looks); each row that meets fmt, with fmt's text TOLD by the authors' own Lean function (tested against real Go, not proved from fmt's source: count such statements apart). THE CARD IS WHAT COUNTS. Prove the row's statement (the work); the ties are given (YtoccchebipfncaaGreatDoorTie.lean); close each card by the builder's one call (the guide's Derived/Test/ToyasCard.lean, 'card_holds'). Laid BY PROGRAM, IN A SANDBOX (cutbox-door.mjs). By AI agents, Wed Nov 11 2026. No macro, syntax, notation, axiom, sorry.
-/
import Derived.Test.YtoccchebipfncaaGreatDoorRows
import GoSem.ClaimSeven
namespace Go.Proofs.YtoccchebipfncaaGreatDoor
namespace Rows

/-- THE TIED CARD OF 'crimplaw09.CornersKnown'. -/
def cornersKnownCard : Claim7 := { stood := { row := cornersKnownRow, standIns := [], harness := (true, "b27647f9d2f66198fd64cbedbbee10c7899d5b3e5e2df637e277a6a8e1b3dda1"), looks := false }, kinds := [], alts := [], laidByText := true, laidKinds := [.data, .data, .widerDeep], laidTests := true, laidLooks := .later }
def CornersKnownCardSaid : Prop := Claim7.holds Tryz.pinned (.plain (OpenSpec.ofChange cornersKnownSpec)) cornersKnownCard

/-- THE SECOND FORM's CARD OF 'crimplaw09.CornersKnown'. -/
def cornersKnownUptoCard : Claim7 := { stood := { row := cornersKnownUptoRow, standIns := [], harness := (true, "b27647f9d2f66198fd64cbedbbee10c7899d5b3e5e2df637e277a6a8e1b3dda1"), looks := false }, kinds := [], alts := [], laidByText := true, laidKinds := [.data, .data, .widerDeep], laidTests := true, laidLooks := .later }
def CornersKnownUptoCardSaid : Prop := Claim7.holds Tryz.pinned (.plain (OpenSpec.upto cornersKnownSpec)) cornersKnownUptoCard
end Rows
end Go.Proofs.YtoccchebipfncaaGreatDoor
