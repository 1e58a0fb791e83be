/-
  DERIVED. GIVEN WITH THE SEED: THE CARDS: each row of YtijdjcjlfbgpgaaGreatDoorRows.lean that lists a variable, with what it lists TIED to the program's text (the seventh form; the later family's looks); each row that meets fmt, with fmt's text TOLD by the authors' own Lean function (tested against real Go, not proved from fmt's source: count such statements apart). THE CARD IS WHAT COUNTS. Prove the row's statement (the work); the ties are given (YtijdjcjlfbgpgaaGreatDoorTie.lean); close each card by the builder's one call (the guide's Derived/Test/ToyasCard.lean, 'card_holds'). Laid BY PROGRAM, IN A SANDBOX (cutbox-door.mjs). By AI agents, Wed Nov 11 2026. No macro, syntax, notation, axiom, sorry.
-/
import Derived.Test.YtijdjcjlfbgpgaaGreatDoorRows
import GoSem.ClaimSeven
namespace Go.Proofs.YtijdjcjlfbgpgaaGreatDoor
namespace Rows

/-- THE TIED CARD OF 'crimplaw21.CoversLeast'. -/
def coversLeastCard : Claim7 := { stood := { row := coversLeastRow, standIns := [], harness := (true, "9fa7a7ae3f724bb62ad41ec18002d65831501e954822539810c39550c6a75dab"), looks := false }, kinds := [], alts := [], laidByText := true, laidKinds := [.wider, .data, .data, .widerDeep], laidTests := true, laidLooks := .later }
def CoversLeastCardSaid : Prop := Claim7.holds Tryz.pinned (.plain (OpenSpec.ofChange coversLeastSpec)) coversLeastCard

/-- THE SECOND FORM's CARD OF 'crimplaw21.CoversLeast'. -/
def coversLeastUptoCard : Claim7 := { stood := { row := coversLeastUptoRow, standIns := [], harness := (true, "9fa7a7ae3f724bb62ad41ec18002d65831501e954822539810c39550c6a75dab"), looks := false }, kinds := [], alts := [], laidByText := true, laidKinds := [.wider, .data, .data, .widerDeep], laidTests := true, laidLooks := .later }
def CoversLeastUptoCardSaid : Prop := Claim7.holds Tryz.pinned (.plain (OpenSpec.upto coversLeastSpec)) coversLeastUptoCard
end Rows
end Go.Proofs.YtijdjcjlfbgpgaaGreatDoor
