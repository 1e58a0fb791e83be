/-
  DERIVED. GIVEN WITH THE SEED: THE CARDS: each row of YtbkoinpgfbingaaGreatDoorRows.lean that lists a variable, with what it lists TIED to the program's text (the seventh form; the later family's looks); each row that meets fmt, with fmt's text TOLD by the authors' own Lean function (tested against real Go, not proved from fmt's source: count such statements apart). THE CARD IS WHAT COUNTS. Prove the row's statement (the work); the ties are given (YtbkoinpgfbingaaGreatDoorTie.lean); close each card by the builder's one call (the guide's Derived/Test/ToyasCard.lean, 'card_holds'). Laid BY PROGRAM, IN A SANDBOX (cutbox-door.mjs). By AI agents, Wed Nov 11 2026. No macro, syntax, notation, axiom, sorry.
-/
import Derived.Test.YtbkoinpgfbingaaGreatDoorRows
import GoSem.ClaimSeven
namespace Go.Proofs.YtbkoinpgfbingaaGreatDoor
namespace Rows

/-- THE TIED CARD OF 'crimplaw09.CornersCreases'. -/
def cornersCreasesCard : Claim7 := { stood := { row := cornersCreasesRow, standIns := [], harness := (true, "b8ad8e6668c4e481e6b7ccc0b9db5f2482c31e5a0eab4ed38991bd4243e6da7b"), looks := false }, kinds := [], alts := [], laidByText := true, laidKinds := [.data, .widerDeep], laidTests := true, laidLooks := .later }
def CornersCreasesCardSaid : Prop := Claim7.holds Tryz.pinned (.plain (OpenSpec.ofChange cornersCreasesSpec)) cornersCreasesCard

/-- THE TIED CARD OF 'crimplaw09.CornersBoth'. -/
def cornersBothCard : Claim7 := { stood := { row := cornersBothRow, standIns := [], harness := (true, "b8ad8e6668c4e481e6b7ccc0b9db5f2482c31e5a0eab4ed38991bd4243e6da7b"), looks := false }, kinds := [], alts := [], laidByText := true, laidKinds := [.data, .widerDeep], laidTests := true, laidLooks := .later }
def CornersBothCardSaid : Prop := Claim7.holds Tryz.pinned (.plain (OpenSpec.ofChange cornersBothSpec)) cornersBothCard

/-- THE SECOND FORM's CARD OF 'crimplaw09.CornersCreases'. -/
def cornersCreasesUptoCard : Claim7 := { stood := { row := cornersCreasesUptoRow, standIns := [], harness := (true, "b8ad8e6668c4e481e6b7ccc0b9db5f2482c31e5a0eab4ed38991bd4243e6da7b"), looks := false }, kinds := [], alts := [], laidByText := true, laidKinds := [.data, .widerDeep], laidTests := true, laidLooks := .later }
def CornersCreasesUptoCardSaid : Prop := Claim7.holds Tryz.pinned (.plain (OpenSpec.upto cornersCreasesSpec)) cornersCreasesUptoCard

/-- THE SECOND FORM's CARD OF 'crimplaw09.CornersBoth'. -/
def cornersBothUptoCard : Claim7 := { stood := { row := cornersBothUptoRow, standIns := [], harness := (true, "b8ad8e6668c4e481e6b7ccc0b9db5f2482c31e5a0eab4ed38991bd4243e6da7b"), looks := false }, kinds := [], alts := [], laidByText := true, laidKinds := [.data, .widerDeep], laidTests := true, laidLooks := .later }
def CornersBothUptoCardSaid : Prop := Claim7.holds Tryz.pinned (.plain (OpenSpec.upto cornersBothSpec)) cornersBothUptoCard
end Rows
end Go.Proofs.YtbkoinpgfbingaaGreatDoor
