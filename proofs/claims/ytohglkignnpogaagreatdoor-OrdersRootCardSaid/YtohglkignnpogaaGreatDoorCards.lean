/-
  DERIVED. GIVEN WITH THE SEED: THE CARDS: each row of YtohglkignnpogaaGreatDoorRows.lean that lists a variable, with what it lists TIED to the program's text (the seventh form; the later family's looks); each row that meets fmt, with fmt's text TOLD by the authors' own Lean function (tested against real Go, not proved from fmt's source: count such statements apart). THE CARD IS WHAT COUNTS. Prove the row's statement (the work); the ties are given (YtohglkignnpogaaGreatDoorTie.lean); close each card by the builder's one call (the guide's Derived/Test/ToyasCard.lean, 'card_holds'). Laid BY PROGRAM, IN A SANDBOX (cutbox-door.mjs). By AI agents, Wed Nov 11 2026. No macro, syntax, notation, axiom, sorry.
-/
import Derived.Test.YtohglkignnpogaaGreatDoorRows
import GoSem.ClaimSeven
namespace Go.Proofs.YtohglkignnpogaaGreatDoor
namespace Rows

/-- THE TIED CARD OF 'crimplaw26.OrdersRoot'. -/
def ordersRootCard : Claim7 := { stood := { row := ordersRootRow, standIns := [], harness := (true, "c46e0790a2e406fe84886291177a5c3fe6db89dccc33925b90502a7d88d0a157"), looks := false }, kinds := [], alts := [], laidByText := true, laidKinds := [.wider, .data, .data], laidTests := true, laidLooks := .later }
def OrdersRootCardSaid : Prop := Claim7.holds Tryz.pinned (.plain (OpenSpec.ofChange ordersRootSpec)) ordersRootCard

/-- THE SECOND FORM's CARD OF 'crimplaw26.OrdersRoot'. -/
def ordersRootUptoCard : Claim7 := { stood := { row := ordersRootUptoRow, standIns := [], harness := (true, "c46e0790a2e406fe84886291177a5c3fe6db89dccc33925b90502a7d88d0a157"), looks := false }, kinds := [], alts := [], laidByText := true, laidKinds := [.wider, .data, .data], laidTests := true, laidLooks := .later }
def OrdersRootUptoCardSaid : Prop := Claim7.holds Tryz.pinned (.plain (OpenSpec.upto ordersRootSpec)) ordersRootUptoCard
end Rows
end Go.Proofs.YtohglkignnpogaaGreatDoor
