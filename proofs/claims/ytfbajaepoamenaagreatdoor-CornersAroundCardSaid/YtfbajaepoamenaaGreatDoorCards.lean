/-
  DERIVED. GIVEN WITH THE SEED: THE CARDS: each row of YtfbajaepoamenaaGreatDoorRows.lean that lists a variable, with what it lists TIED to the program's text (the seventh form; the later family's looks); each row that meets fmt, with fmt's text TOLD by the authors' own Lean function (tested against real Go, not proved from fmt's source: count such statements apart). THE CARD IS WHAT COUNTS. Prove the row's statement (the work); the ties are given (YtfbajaepoamenaaGreatDoorTie.lean); close each card by the builder's one call (the guide's Derived/Test/ToyasCard.lean, 'card_holds'). Laid BY PROGRAM, IN A SANDBOX (cutbox-door.mjs). By AI agents, Wed Nov 11 2026. No macro, syntax, notation, axiom, sorry.
-/
import Derived.Test.YtfbajaepoamenaaGreatDoorRows
import GoSem.ClaimSeven
namespace Go.Proofs.YtfbajaepoamenaaGreatDoor
namespace Rows

/-- THE TIED CARD OF 'crimplaw09.CornersAround'. -/
def cornersAroundCard : Claim7 := { stood := { row := cornersAroundRow, standIns := [], harness := (true, "c278d0162194c1710abab0c2633f1015ee6c38bb6fcff160d31491eb8744d38b"), looks := false }, kinds := [], alts := [], laidByText := true, laidKinds := [.data, .widerDeep], laidTests := true, laidLooks := .later }
def CornersAroundCardSaid : Prop := Claim7.holds Tryz.pinned (.plain (OpenSpec.ofChange cornersAroundSpec)) cornersAroundCard

/-- THE SECOND FORM's CARD OF 'crimplaw09.CornersAround'. -/
def cornersAroundUptoCard : Claim7 := { stood := { row := cornersAroundUptoRow, standIns := [], harness := (true, "c278d0162194c1710abab0c2633f1015ee6c38bb6fcff160d31491eb8744d38b"), looks := false }, kinds := [], alts := [], laidByText := true, laidKinds := [.data, .widerDeep], laidTests := true, laidLooks := .later }
def CornersAroundUptoCardSaid : Prop := Claim7.holds Tryz.pinned (.plain (OpenSpec.upto cornersAroundSpec)) cornersAroundUptoCard
end Rows
end Go.Proofs.YtfbajaepoamenaaGreatDoor
