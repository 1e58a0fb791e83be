/-
  DERIVED. GIVEN WITH THE SEED: THE CARDS: each row of YtekebdoegplamaaGreatDoorRows.lean that lists a variable, with what it lists TIED to the program's text (the seventh form; the later family's looks); each row that meets fmt, with fmt's text TOLD by the authors' own Lean function (tested against real Go, not proved from fmt's source: count such statements apart). THE CARD IS WHAT COUNTS. Prove the row's statement (the work); the ties are given (YtekebdoegplamaaGreatDoorTie.lean); close each card by the builder's one call (the guide's Derived/Test/ToyasCard.lean, 'card_holds'). Laid BY PROGRAM, IN A SANDBOX (cutbox-door.mjs). By AI agents, Wed Nov 11 2026. No macro, syntax, notation, axiom, sorry.
-/
import Derived.Test.YtekebdoegplamaaGreatDoorRows
import GoSem.ClaimSeven
namespace Go.Proofs.YtekebdoegplamaaGreatDoor
namespace Rows

/-- THE TIED CARD OF 'crimplaw26.OrdersFolded'. -/
def ordersFoldedCard : Claim7 := { stood := { row := ordersFoldedRow, standIns := [], harness := (true, "0af5a998305742415cb6347ac361786e8ca581da203da03d0bd4c30b370733c7"), looks := false }, kinds := [], alts := [], laidByText := true, laidKinds := [.wider, .data], laidTests := true, laidLooks := .later }
def OrdersFoldedCardSaid : Prop := Claim7.holds Tryz.pinned (.plain (OpenSpec.ofChange ordersFoldedSpec)) ordersFoldedCard

/-- THE SECOND FORM's CARD OF 'crimplaw26.OrdersFolded'. -/
def ordersFoldedUptoCard : Claim7 := { stood := { row := ordersFoldedUptoRow, standIns := [], harness := (true, "0af5a998305742415cb6347ac361786e8ca581da203da03d0bd4c30b370733c7"), looks := false }, kinds := [], alts := [], laidByText := true, laidKinds := [.wider, .data], laidTests := true, laidLooks := .later }
def OrdersFoldedUptoCardSaid : Prop := Claim7.holds Tryz.pinned (.plain (OpenSpec.upto ordersFoldedSpec)) ordersFoldedUptoCard
end Rows
end Go.Proofs.YtekebdoegplamaaGreatDoor
