/-
  DERIVED. GIVEN WITH THE SEED: THE CARDS: each row of YtdafccenakomlaaGreatDoorRows.lean that lists a variable, with what it lists TIED to the program's text (the seventh form; the later family's looks); each row that meets fmt, with fmt's text TOLD by the authors' own Lean function (tested against real Go, not proved from fmt's source: count such statements apart). THE CARD IS WHAT COUNTS. Prove the row's statement (the work); the ties are given (YtdafccenakomlaaGreatDoorTie.lean); close each card by the builder's one call (the guide's Derived/Test/ToyasCard.lean, 'card_holds'). Laid BY PROGRAM, IN A SANDBOX (cutbox-door.mjs). By AI agents, Wed Nov 11 2026. No macro, syntax, notation, axiom, sorry.
-/
import Derived.Test.YtdafccenakomlaaGreatDoorRows
import GoSem.ClaimSeven
namespace Go.Proofs.YtdafccenakomlaaGreatDoor
namespace Rows

/-- THE TIED CARD OF 'crimplaw26.OrdersCompare'. -/
def ordersCompareCard : Claim7 := { stood := { row := ordersCompareRow, standIns := [], harness := (true, "291fa797f1f8445234d11f3ebb85c41a9b6bba2e2d8c23197187d712eb0daf8f"), looks := false }, kinds := [], alts := [], laidByText := true, laidKinds := [.wider, .data], laidTests := true, laidLooks := .later }
def OrdersCompareCardSaid : Prop := Claim7.holds Tryz.pinned (.plain (OpenSpec.ofChange ordersCompareSpec)) ordersCompareCard

/-- THE SECOND FORM's CARD OF 'crimplaw26.OrdersCompare'. -/
def ordersCompareUptoCard : Claim7 := { stood := { row := ordersCompareUptoRow, standIns := [], harness := (true, "291fa797f1f8445234d11f3ebb85c41a9b6bba2e2d8c23197187d712eb0daf8f"), looks := false }, kinds := [], alts := [], laidByText := true, laidKinds := [.wider, .data], laidTests := true, laidLooks := .later }
def OrdersCompareUptoCardSaid : Prop := Claim7.holds Tryz.pinned (.plain (OpenSpec.upto ordersCompareSpec)) ordersCompareUptoCard
end Rows
end Go.Proofs.YtdafccenakomlaaGreatDoor
