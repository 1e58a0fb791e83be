/-
  DERIVED. GIVEN WITH THE SEED: THE CARDS: each row of YtnoemfdfghfkoaaGreatDoorRows.lean that lists a variable, with what it lists TIED to the program's text (the seventh form; the later family's looks); each row that meets fmt, with fmt's text TOLD by the authors' own Lean function (tested against real Go, not proved from fmt's source: count such statements apart). THE CARD IS WHAT COUNTS. Prove the row's statement (the work); the ties are given (YtnoemfdfghfkoaaGreatDoorTie.lean); close each card by the builder's one call (the guide's Derived/Test/ToyasCard.lean, 'card_holds'). Laid BY PROGRAM, IN A SANDBOX (cutbox-door.mjs). By AI agents, Wed Nov 11 2026. No macro, syntax, notation, axiom, sorry.
-/
import Derived.Test.YtnoemfdfghfkoaaGreatDoorRows
import GoSem.ClaimSeven
namespace Go.Proofs.YtnoemfdfghfkoaaGreatDoor
namespace Rows

/-- THE TIED CARD OF 'crimplaw21.CoversLong'. -/
def coversLongCard : Claim7 := { stood := { row := coversLongRow, standIns := [], harness := (true, "30861df5971baab587ec9e05048b256d953a1ef4f502336c99ad16ef61b6e11e"), looks := false }, kinds := [], alts := [], laidByText := true, laidKinds := [.wider, .data, .data, .widerDeep], laidTests := true, laidLooks := .later }
def CoversLongCardSaid : Prop := Claim7.holds Tryz.pinned (.plain (OpenSpec.ofChange coversLongSpec)) coversLongCard

/-- THE TIED CARD OF 'crimplaw21.CoversKnown'. -/
def coversKnownCard : Claim7 := { stood := { row := coversKnownRow, standIns := [], harness := (true, "30861df5971baab587ec9e05048b256d953a1ef4f502336c99ad16ef61b6e11e"), looks := false }, kinds := [], alts := [], laidByText := true, laidKinds := [.wider, .data, .data, .widerDeep], laidTests := true, laidLooks := .later }
def CoversKnownCardSaid : Prop := Claim7.holds Tryz.pinned (.plain (OpenSpec.ofChange coversKnownSpec)) coversKnownCard

/-- THE SECOND FORM's CARD OF 'crimplaw21.CoversLong'. -/
def coversLongUptoCard : Claim7 := { stood := { row := coversLongUptoRow, standIns := [], harness := (true, "30861df5971baab587ec9e05048b256d953a1ef4f502336c99ad16ef61b6e11e"), looks := false }, kinds := [], alts := [], laidByText := true, laidKinds := [.wider, .data, .data, .widerDeep], laidTests := true, laidLooks := .later }
def CoversLongUptoCardSaid : Prop := Claim7.holds Tryz.pinned (.plain (OpenSpec.upto coversLongSpec)) coversLongUptoCard

/-- THE SECOND FORM's CARD OF 'crimplaw21.CoversKnown'. -/
def coversKnownUptoCard : Claim7 := { stood := { row := coversKnownUptoRow, standIns := [], harness := (true, "30861df5971baab587ec9e05048b256d953a1ef4f502336c99ad16ef61b6e11e"), looks := false }, kinds := [], alts := [], laidByText := true, laidKinds := [.wider, .data, .data, .widerDeep], laidTests := true, laidLooks := .later }
def CoversKnownUptoCardSaid : Prop := Claim7.holds Tryz.pinned (.plain (OpenSpec.upto coversKnownSpec)) coversKnownUptoCard
end Rows
end Go.Proofs.YtnoemfdfghfkoaaGreatDoor
