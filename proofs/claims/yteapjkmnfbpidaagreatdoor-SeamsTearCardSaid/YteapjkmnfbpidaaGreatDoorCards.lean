/-
  DERIVED. GIVEN WITH THE SEED: THE CARDS: each row of YteapjkmnfbpidaaGreatDoorRows.lean that lists a variable, with what it lists TIED to the program's text (the seventh form; the later family's looks); each row that meets fmt, with fmt's text TOLD by the authors' own Lean function (tested against real Go, not proved from fmt's source: count such statements apart). THE CARD IS WHAT COUNTS. Prove the row's statement (the work); the ties are given (YteapjkmnfbpidaaGreatDoorTie.lean); close each card by the builder's one call (the guide's Derived/Test/ToyasCard.lean, 'card_holds'). Laid BY PROGRAM, IN A SANDBOX (cutbox-door.mjs). By AI agents, Wed Nov 11 2026. No macro, syntax, notation, axiom, sorry.
-/
import Derived.Test.YteapjkmnfbpidaaGreatDoorRows
import GoSem.ClaimSeven
namespace Go.Proofs.YteapjkmnfbpidaaGreatDoor
namespace Rows

/-- THE TIED CARD OF 'crimplaw24.SeamsTear'. -/
def seamsTearCard : Claim7 := { stood := { row := seamsTearRow, standIns := [], harness := (true, "66fbb449a9f746804cabcac65fbf5cc8b64b284e975efad733adfa9ae96ed73e"), looks := false }, kinds := [], alts := [], laidByText := true, laidKinds := [.wider, .data], laidTests := true, laidLooks := .later }
def SeamsTearCardSaid : Prop := Claim7.holds Tryz.pinned (.plain (OpenSpec.ofChange seamsTearSpec)) seamsTearCard

/-- THE SECOND FORM's CARD OF 'crimplaw24.SeamsTear'. -/
def seamsTearUptoCard : Claim7 := { stood := { row := seamsTearUptoRow, standIns := [], harness := (true, "66fbb449a9f746804cabcac65fbf5cc8b64b284e975efad733adfa9ae96ed73e"), looks := false }, kinds := [], alts := [], laidByText := true, laidKinds := [.wider, .data], laidTests := true, laidLooks := .later }
def SeamsTearUptoCardSaid : Prop := Claim7.holds Tryz.pinned (.plain (OpenSpec.upto seamsTearSpec)) seamsTearUptoCard
end Rows
end Go.Proofs.YteapjkmnfbpidaaGreatDoor
