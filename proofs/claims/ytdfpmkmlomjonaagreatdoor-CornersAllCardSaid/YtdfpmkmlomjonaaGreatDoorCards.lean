/-
  DERIVED. GIVEN WITH THE SEED: THE CARDS: each row of YtdfpmkmlomjonaaGreatDoorRows.lean that lists a variable, with what it lists TIED to the program's text (the seventh form; the later family's looks); each row that meets fmt, with fmt's text TOLD by the authors' own Lean function (tested against real Go, not proved from fmt's source: count such statements apart). THE CARD IS WHAT COUNTS. Prove the row's statement (the work); the ties are given (YtdfpmkmlomjonaaGreatDoorTie.lean); close each card by the builder's one call (the guide's Derived/Test/ToyasCard.lean, 'card_holds'). Laid BY PROGRAM, IN A SANDBOX (cutbox-door.mjs). By AI agents, Wed Nov 11 2026. No macro, syntax, notation, axiom, sorry.
-/
import Derived.Test.YtdfpmkmlomjonaaGreatDoorRows
import GoSem.ClaimSeven
namespace Go.Proofs.YtdfpmkmlomjonaaGreatDoor
namespace Rows

/-- THE TIED CARD OF 'crimplaw09.CornersAround'. -/
def cornersAroundCard : Claim7 := { stood := { row := cornersAroundRow, standIns := [], harness := (true, "59327f7060f8dfdec924886562560bf772256ceb0b8470aeec5cbc2e1394566f"), looks := false }, kinds := [], alts := [], laidByText := true, laidKinds := [.data, .widerDeep], laidTests := true, laidLooks := .later }
def CornersAroundCardSaid : Prop := Claim7.holds Tryz.pinned (.plain (OpenSpec.ofChange cornersAroundSpec)) cornersAroundCard

/-- THE TIED CARD OF 'crimplaw09.CornersAll'. -/
def cornersAllCard : Claim7 := { stood := { row := cornersAllRow, standIns := [], harness := (true, "59327f7060f8dfdec924886562560bf772256ceb0b8470aeec5cbc2e1394566f"), looks := false }, kinds := [], alts := [], laidByText := true, laidKinds := [.data, .widerDeep], laidTests := true, laidLooks := .later }
def CornersAllCardSaid : Prop := Claim7.holds Tryz.pinned (.plain (OpenSpec.ofChange cornersAllSpec)) cornersAllCard

/-- THE TIED CARD OF 'crimplaw09.CornersCreases'. -/
def cornersCreasesCard : Claim7 := { stood := { row := cornersCreasesRow, standIns := [], harness := (true, "59327f7060f8dfdec924886562560bf772256ceb0b8470aeec5cbc2e1394566f"), looks := false }, kinds := [], alts := [], laidByText := true, laidKinds := [.data, .widerDeep], laidTests := true, laidLooks := .later }
def CornersCreasesCardSaid : Prop := Claim7.holds Tryz.pinned (.plain (OpenSpec.ofChange cornersCreasesSpec)) cornersCreasesCard

/-- THE TIED CARD OF 'crimplaw09.CornersBoth'. -/
def cornersBothCard : Claim7 := { stood := { row := cornersBothRow, standIns := [], harness := (true, "59327f7060f8dfdec924886562560bf772256ceb0b8470aeec5cbc2e1394566f"), looks := false }, kinds := [], alts := [], laidByText := true, laidKinds := [.data, .widerDeep], laidTests := true, laidLooks := .later }
def CornersBothCardSaid : Prop := Claim7.holds Tryz.pinned (.plain (OpenSpec.ofChange cornersBothSpec)) cornersBothCard

/-- THE TIED CARD OF 'crimplaw09.CornersErrors'. -/
def cornersErrorsCard : Claim7 := { stood := { row := cornersErrorsRow, standIns := [], harness := (true, "59327f7060f8dfdec924886562560bf772256ceb0b8470aeec5cbc2e1394566f"), looks := false }, kinds := [], alts := [], laidByText := true, laidKinds := [.data, .widerDeep], laidTests := true, laidLooks := .later }
def CornersErrorsCardSaid : Prop := Claim7.holds Tryz.pinned (.plain (OpenSpec.ofChange cornersErrorsSpec)) cornersErrorsCard

/-- THE TIED CARD OF 'crimplaw09.CornersTurned'. -/
def cornersTurnedCard : Claim7 := { stood := { row := cornersTurnedRow, standIns := [], harness := (true, "59327f7060f8dfdec924886562560bf772256ceb0b8470aeec5cbc2e1394566f"), looks := false }, kinds := [], alts := [], laidByText := true, laidKinds := [.data, .data, .widerDeep], laidTests := true, laidLooks := .later }
def CornersTurnedCardSaid : Prop := Claim7.holds Tryz.pinned (.plain (OpenSpec.ofChange cornersTurnedSpec)) cornersTurnedCard

/-- THE TIED CARD OF 'crimplaw09.CornersKnown'. -/
def cornersKnownCard : Claim7 := { stood := { row := cornersKnownRow, standIns := [], harness := (true, "59327f7060f8dfdec924886562560bf772256ceb0b8470aeec5cbc2e1394566f"), looks := false }, kinds := [], alts := [], laidByText := true, laidKinds := [.data, .data, .widerDeep], laidTests := true, laidLooks := .later }
def CornersKnownCardSaid : Prop := Claim7.holds Tryz.pinned (.plain (OpenSpec.ofChange cornersKnownSpec)) cornersKnownCard

/-- THE SECOND FORM's CARD OF 'crimplaw09.CornersAround'. -/
def cornersAroundUptoCard : Claim7 := { stood := { row := cornersAroundUptoRow, standIns := [], harness := (true, "59327f7060f8dfdec924886562560bf772256ceb0b8470aeec5cbc2e1394566f"), looks := false }, kinds := [], alts := [], laidByText := true, laidKinds := [.data, .widerDeep], laidTests := true, laidLooks := .later }
def CornersAroundUptoCardSaid : Prop := Claim7.holds Tryz.pinned (.plain (OpenSpec.upto cornersAroundSpec)) cornersAroundUptoCard

/-- THE SECOND FORM's CARD OF 'crimplaw09.CornersAll'. -/
def cornersAllUptoCard : Claim7 := { stood := { row := cornersAllUptoRow, standIns := [], harness := (true, "59327f7060f8dfdec924886562560bf772256ceb0b8470aeec5cbc2e1394566f"), looks := false }, kinds := [], alts := [], laidByText := true, laidKinds := [.data, .widerDeep], laidTests := true, laidLooks := .later }
def CornersAllUptoCardSaid : Prop := Claim7.holds Tryz.pinned (.plain (OpenSpec.upto cornersAllSpec)) cornersAllUptoCard

/-- THE SECOND FORM's CARD OF 'crimplaw09.CornersCreases'. -/
def cornersCreasesUptoCard : Claim7 := { stood := { row := cornersCreasesUptoRow, standIns := [], harness := (true, "59327f7060f8dfdec924886562560bf772256ceb0b8470aeec5cbc2e1394566f"), looks := false }, kinds := [], alts := [], laidByText := true, laidKinds := [.data, .widerDeep], laidTests := true, laidLooks := .later }
def CornersCreasesUptoCardSaid : Prop := Claim7.holds Tryz.pinned (.plain (OpenSpec.upto cornersCreasesSpec)) cornersCreasesUptoCard

/-- THE SECOND FORM's CARD OF 'crimplaw09.CornersBoth'. -/
def cornersBothUptoCard : Claim7 := { stood := { row := cornersBothUptoRow, standIns := [], harness := (true, "59327f7060f8dfdec924886562560bf772256ceb0b8470aeec5cbc2e1394566f"), looks := false }, kinds := [], alts := [], laidByText := true, laidKinds := [.data, .widerDeep], laidTests := true, laidLooks := .later }
def CornersBothUptoCardSaid : Prop := Claim7.holds Tryz.pinned (.plain (OpenSpec.upto cornersBothSpec)) cornersBothUptoCard

/-- THE SECOND FORM's CARD OF 'crimplaw09.CornersErrors'. -/
def cornersErrorsUptoCard : Claim7 := { stood := { row := cornersErrorsUptoRow, standIns := [], harness := (true, "59327f7060f8dfdec924886562560bf772256ceb0b8470aeec5cbc2e1394566f"), looks := false }, kinds := [], alts := [], laidByText := true, laidKinds := [.data, .widerDeep], laidTests := true, laidLooks := .later }
def CornersErrorsUptoCardSaid : Prop := Claim7.holds Tryz.pinned (.plain (OpenSpec.upto cornersErrorsSpec)) cornersErrorsUptoCard

/-- THE SECOND FORM's CARD OF 'crimplaw09.CornersTurned'. -/
def cornersTurnedUptoCard : Claim7 := { stood := { row := cornersTurnedUptoRow, standIns := [], harness := (true, "59327f7060f8dfdec924886562560bf772256ceb0b8470aeec5cbc2e1394566f"), looks := false }, kinds := [], alts := [], laidByText := true, laidKinds := [.data, .data, .widerDeep], laidTests := true, laidLooks := .later }
def CornersTurnedUptoCardSaid : Prop := Claim7.holds Tryz.pinned (.plain (OpenSpec.upto cornersTurnedSpec)) cornersTurnedUptoCard

/-- THE SECOND FORM's CARD OF 'crimplaw09.CornersKnown'. -/
def cornersKnownUptoCard : Claim7 := { stood := { row := cornersKnownUptoRow, standIns := [], harness := (true, "59327f7060f8dfdec924886562560bf772256ceb0b8470aeec5cbc2e1394566f"), looks := false }, kinds := [], alts := [], laidByText := true, laidKinds := [.data, .data, .widerDeep], laidTests := true, laidLooks := .later }
def CornersKnownUptoCardSaid : Prop := Claim7.holds Tryz.pinned (.plain (OpenSpec.upto cornersKnownSpec)) cornersKnownUptoCard
end Rows
end Go.Proofs.YtdfpmkmlomjonaaGreatDoor
