/-
  DERIVED. GIVEN WITH THE SEED: THE CARDS: each row of YtohimaenikegoaaGreatDoorRows.lean that lists a variable, with what it lists TIED to the program's text (the seventh form; the later family's looks); each row that meets fmt, with fmt's text TOLD by the authors' own Lean function (tested against real Go, not proved from fmt's source: count such statements apart). THE CARD IS WHAT COUNTS. Prove the row's statement (the work); the ties are given (YtohimaenikegoaaGreatDoorTie.lean); close each card by the builder's one call (the guide's Derived/Test/ToyasCard.lean, 'card_holds'). Laid BY PROGRAM, IN A SANDBOX (cutbox-door.mjs). By AI agents, Wed Nov 11 2026. No macro, syntax, notation, axiom, sorry.
-/
import Derived.Test.YtohimaenikegoaaGreatDoorRows
import GoSem.ClaimSeven
namespace Go.Proofs.YtohimaenikegoaaGreatDoor
namespace Rows

/-- THE TIED CARD OF 'crimplaw26.OrdersAll'. -/
def ordersAllCard : Claim7 := { stood := { row := ordersAllRow, standIns := [], harness := (true, "e051e1a9fca8d7fc1925c37f3edfe9a3d87de4bd682072506759e7ce1e3c7385"), looks := false }, kinds := [], alts := [], laidByText := true, laidKinds := [.wider, .data], laidTests := true, laidLooks := .later }
def OrdersAllCardSaid : Prop := Claim7.holds Tryz.pinned (.plain (OpenSpec.ofChange ordersAllSpec)) ordersAllCard

/-- THE TIED CARD OF 'crimplaw26.OrdersAny'. -/
def ordersAnyCard : Claim7 := { stood := { row := ordersAnyRow, standIns := [], harness := (true, "e051e1a9fca8d7fc1925c37f3edfe9a3d87de4bd682072506759e7ce1e3c7385"), looks := false }, kinds := [], alts := [], laidByText := true, laidKinds := [.wider, .data], laidTests := true, laidLooks := .later }
def OrdersAnyCardSaid : Prop := Claim7.holds Tryz.pinned (.plain (OpenSpec.ofChange ordersAnySpec)) ordersAnyCard

/-- THE TIED CARD OF 'crimplaw26.OrdersErrors'. -/
def ordersErrorsCard : Claim7 := { stood := { row := ordersErrorsRow, standIns := [], harness := (true, "e051e1a9fca8d7fc1925c37f3edfe9a3d87de4bd682072506759e7ce1e3c7385"), looks := false }, kinds := [], alts := [], laidByText := true, laidKinds := [.wider, .data], laidTests := true, laidLooks := .later }
def OrdersErrorsCardSaid : Prop := Claim7.holds Tryz.pinned (.plain (OpenSpec.ofChange ordersErrorsSpec)) ordersErrorsCard

/-- THE TIED CARD OF 'crimplaw26.OrdersRoot'. -/
def ordersRootCard : Claim7 := { stood := { row := ordersRootRow, standIns := [], harness := (true, "e051e1a9fca8d7fc1925c37f3edfe9a3d87de4bd682072506759e7ce1e3c7385"), looks := false }, kinds := [], alts := [], laidByText := true, laidKinds := [.wider, .data, .data], laidTests := true, laidLooks := .later }
def OrdersRootCardSaid : Prop := Claim7.holds Tryz.pinned (.plain (OpenSpec.ofChange ordersRootSpec)) ordersRootCard

/-- THE TIED CARD OF 'crimplaw26.OrdersFolded'. -/
def ordersFoldedCard : Claim7 := { stood := { row := ordersFoldedRow, standIns := [], harness := (true, "e051e1a9fca8d7fc1925c37f3edfe9a3d87de4bd682072506759e7ce1e3c7385"), looks := false }, kinds := [], alts := [], laidByText := true, laidKinds := [.wider, .data], laidTests := true, laidLooks := .later }
def OrdersFoldedCardSaid : Prop := Claim7.holds Tryz.pinned (.plain (OpenSpec.ofChange ordersFoldedSpec)) ordersFoldedCard

/-- THE SECOND FORM's CARD OF 'crimplaw26.OrdersAll'. -/
def ordersAllUptoCard : Claim7 := { stood := { row := ordersAllUptoRow, standIns := [], harness := (true, "e051e1a9fca8d7fc1925c37f3edfe9a3d87de4bd682072506759e7ce1e3c7385"), looks := false }, kinds := [], alts := [], laidByText := true, laidKinds := [.wider, .data], laidTests := true, laidLooks := .later }
def OrdersAllUptoCardSaid : Prop := Claim7.holds Tryz.pinned (.plain (OpenSpec.upto ordersAllSpec)) ordersAllUptoCard

/-- THE SECOND FORM's CARD OF 'crimplaw26.OrdersAny'. -/
def ordersAnyUptoCard : Claim7 := { stood := { row := ordersAnyUptoRow, standIns := [], harness := (true, "e051e1a9fca8d7fc1925c37f3edfe9a3d87de4bd682072506759e7ce1e3c7385"), looks := false }, kinds := [], alts := [], laidByText := true, laidKinds := [.wider, .data], laidTests := true, laidLooks := .later }
def OrdersAnyUptoCardSaid : Prop := Claim7.holds Tryz.pinned (.plain (OpenSpec.upto ordersAnySpec)) ordersAnyUptoCard

/-- THE SECOND FORM's CARD OF 'crimplaw26.OrdersErrors'. -/
def ordersErrorsUptoCard : Claim7 := { stood := { row := ordersErrorsUptoRow, standIns := [], harness := (true, "e051e1a9fca8d7fc1925c37f3edfe9a3d87de4bd682072506759e7ce1e3c7385"), looks := false }, kinds := [], alts := [], laidByText := true, laidKinds := [.wider, .data], laidTests := true, laidLooks := .later }
def OrdersErrorsUptoCardSaid : Prop := Claim7.holds Tryz.pinned (.plain (OpenSpec.upto ordersErrorsSpec)) ordersErrorsUptoCard

/-- THE SECOND FORM's CARD OF 'crimplaw26.OrdersRoot'. -/
def ordersRootUptoCard : Claim7 := { stood := { row := ordersRootUptoRow, standIns := [], harness := (true, "e051e1a9fca8d7fc1925c37f3edfe9a3d87de4bd682072506759e7ce1e3c7385"), looks := false }, kinds := [], alts := [], laidByText := true, laidKinds := [.wider, .data, .data], laidTests := true, laidLooks := .later }
def OrdersRootUptoCardSaid : Prop := Claim7.holds Tryz.pinned (.plain (OpenSpec.upto ordersRootSpec)) ordersRootUptoCard

/-- THE SECOND FORM's CARD OF 'crimplaw26.OrdersFolded'. -/
def ordersFoldedUptoCard : Claim7 := { stood := { row := ordersFoldedUptoRow, standIns := [], harness := (true, "e051e1a9fca8d7fc1925c37f3edfe9a3d87de4bd682072506759e7ce1e3c7385"), looks := false }, kinds := [], alts := [], laidByText := true, laidKinds := [.wider, .data], laidTests := true, laidLooks := .later }
def OrdersFoldedUptoCardSaid : Prop := Claim7.holds Tryz.pinned (.plain (OpenSpec.upto ordersFoldedSpec)) ordersFoldedUptoCard
end Rows
end Go.Proofs.YtohimaenikegoaaGreatDoor
