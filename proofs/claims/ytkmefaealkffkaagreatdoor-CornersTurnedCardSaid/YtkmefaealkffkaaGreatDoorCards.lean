/-
  DERIVED. GIVEN WITH THE SEED: THE CARDS: each row of YtkmefaealkffkaaGreatDoorRows.lean that lists a variable, with what it lists TIED to the program's text (the seventh form; the later family's looks); each row that meets fmt, with fmt's text TOLD by the authors' own Lean function (tested against real Go, not proved from fmt's source: count such statements apart). THE CARD IS WHAT COUNTS. Prove the row's statement (the work); the ties are given (YtkmefaealkffkaaGreatDoorTie.lean); close each card by the builder's one call (the guide's Derived/Test/ToyasCard.lean, 'card_holds'). Laid BY PROGRAM, IN A SANDBOX (cutbox-door.mjs). By AI agents, Wed Nov 11 2026. No macro, syntax, notation, axiom, sorry.
-/
import Derived.Test.YtkmefaealkffkaaGreatDoorRows
import GoSem.ClaimSeven
namespace Go.Proofs.YtkmefaealkffkaaGreatDoor
namespace Rows

/-- THE TIED CARD OF 'crimplaw09.CornersTurned'. -/
def cornersTurnedCard : Claim7 := { stood := { row := cornersTurnedRow, standIns := [], harness := (true, "606e3bc5060d5e7d7d7c7233db4c5abe09684b4f697695e6b31ce36dfb0cac20"), looks := false }, kinds := [], alts := [], laidByText := true, laidKinds := [.data, .data, .widerDeep], laidTests := true, laidLooks := .later }
def CornersTurnedCardSaid : Prop := Claim7.holds Tryz.pinned (.plain (OpenSpec.ofChange cornersTurnedSpec)) cornersTurnedCard

/-- THE SECOND FORM's CARD OF 'crimplaw09.CornersTurned'. -/
def cornersTurnedUptoCard : Claim7 := { stood := { row := cornersTurnedUptoRow, standIns := [], harness := (true, "606e3bc5060d5e7d7d7c7233db4c5abe09684b4f697695e6b31ce36dfb0cac20"), looks := false }, kinds := [], alts := [], laidByText := true, laidKinds := [.data, .data, .widerDeep], laidTests := true, laidLooks := .later }
def CornersTurnedUptoCardSaid : Prop := Claim7.holds Tryz.pinned (.plain (OpenSpec.upto cornersTurnedSpec)) cornersTurnedUptoCard
end Rows
end Go.Proofs.YtkmefaealkffkaaGreatDoor
