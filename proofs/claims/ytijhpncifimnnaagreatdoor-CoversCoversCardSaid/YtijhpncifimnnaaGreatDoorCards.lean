/-
  DERIVED. GIVEN WITH THE SEED: THE CARDS: each row of YtijhpncifimnnaaGreatDoorRows.lean that lists a variable, with what it lists TIED to the program's text (the seventh form; the later family's looks); each row that meets fmt, with fmt's text TOLD by the authors' own Lean function (tested against real Go, not proved from fmt's source: count such statements apart). THE CARD IS WHAT COUNTS. Prove the row's statement (the work); the ties are given (YtijhpncifimnnaaGreatDoorTie.lean); close each card by the builder's one call (the guide's Derived/Test/ToyasCard.lean, 'card_holds'). Laid BY PROGRAM, IN A SANDBOX (cutbox-door.mjs). By AI agents, Wed Nov 11 2026. No macro, syntax, notation, axiom, sorry.
-/
import Derived.Test.YtijhpncifimnnaaGreatDoorRows
import GoSem.ClaimSeven
namespace Go.Proofs.YtijhpncifimnnaaGreatDoor
namespace Rows

/-- THE TIED CARD OF 'crimplaw21.CoversCovers'. -/
def coversCoversCard : Claim7 := { stood := { row := coversCoversRow, standIns := [], harness := (true, "37948d8e8b83d570fe726edfd84e390f7b68480c88336c0ebdc4b4c1d591a50a"), looks := false }, kinds := [], alts := [], laidByText := true, laidKinds := [.wider, .data, .data, .widerDeep], laidTests := true, laidLooks := .later }
def CoversCoversCardSaid : Prop := Claim7.holds Tryz.pinned (.plain (OpenSpec.ofChange coversCoversSpec)) coversCoversCard

/-- THE SECOND FORM's CARD OF 'crimplaw21.CoversCovers'. -/
def coversCoversUptoCard : Claim7 := { stood := { row := coversCoversUptoRow, standIns := [], harness := (true, "37948d8e8b83d570fe726edfd84e390f7b68480c88336c0ebdc4b4c1d591a50a"), looks := false }, kinds := [], alts := [], laidByText := true, laidKinds := [.wider, .data, .data, .widerDeep], laidTests := true, laidLooks := .later }
def CoversCoversUptoCardSaid : Prop := Claim7.holds Tryz.pinned (.plain (OpenSpec.upto coversCoversSpec)) coversCoversUptoCard
end Rows
end Go.Proofs.YtijhpncifimnnaaGreatDoor
