/-
  DERIVED. GIVEN WITH THE SEED: THE CARDS: each row of YtijjginiohlgoaaGreatDoorRows.lean that lists a variable, with what it lists TIED to the program's text (the seventh form; the later family's looks); each row that meets fmt, with fmt's text TOLD by the authors' own Lean function (tested against real Go, not proved from fmt's source: count such statements apart). THE CARD IS WHAT COUNTS. Prove the row's statement (the work); the ties are given (YtijjginiohlgoaaGreatDoorTie.lean); close each card by the builder's one call (the guide's Derived/Test/ToyasCard.lean, 'card_holds'). Laid BY PROGRAM, IN A SANDBOX (cutbox-door.mjs). By AI agents, Wed Nov 11 2026. No macro, syntax, notation, axiom, sorry.
-/
import Derived.Test.YtijjginiohlgoaaGreatDoorRows
import GoSem.ClaimSeven
namespace Go.Proofs.YtijjginiohlgoaaGreatDoor
namespace Rows

/-- THE TIED CARD OF 'crimplaw21.CoversTree'. -/
def coversTreeCard : Claim7 := { stood := { row := coversTreeRow, standIns := [], harness := (true, "36676c09196e40ac4c37bb93fcb1355919a678b3ae9118924fc8004aa438168c"), looks := false }, kinds := [], alts := [], laidByText := true, laidKinds := [.wider, .data, .data, .widerDeep], laidTests := true, laidLooks := .later }
def CoversTreeCardSaid : Prop := Claim7.holds Tryz.pinned (.plain (OpenSpec.ofChange coversTreeSpec)) coversTreeCard

/-- THE SECOND FORM's CARD OF 'crimplaw21.CoversTree'. -/
def coversTreeUptoCard : Claim7 := { stood := { row := coversTreeUptoRow, standIns := [], harness := (true, "36676c09196e40ac4c37bb93fcb1355919a678b3ae9118924fc8004aa438168c"), looks := false }, kinds := [], alts := [], laidByText := true, laidKinds := [.wider, .data, .data, .widerDeep], laidTests := true, laidLooks := .later }
def CoversTreeUptoCardSaid : Prop := Claim7.holds Tryz.pinned (.plain (OpenSpec.upto coversTreeSpec)) coversTreeUptoCard
end Rows
end Go.Proofs.YtijjginiohlgoaaGreatDoor
