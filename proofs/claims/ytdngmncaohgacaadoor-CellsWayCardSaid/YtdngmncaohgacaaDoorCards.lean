/-
  DERIVED. GIVEN WITH THE SEED: THE CARDS: each row of YtdngmncaohgacaaDoorRows.lean that lists a variable, with what it lists TIED to the program's text (the seventh form; the later family's looks); each row that meets fmt, with fmt's text TOLD by the authors' own Lean function (tested against real Go, not proved from fmt's source: count such statements apart). THE CARD IS WHAT COUNTS. Prove the row's statement (the work); the ties are given (YtdngmncaohgacaaDoorTie.lean); close each card by the builder's one call (the guide's Derived/Test/ToyasCard.lean, 'card_holds'). Laid BY PROGRAM, IN A SANDBOX (cutbox-door.mjs). By AI agents, Wed Nov 11 2026. No macro, syntax, notation, axiom, sorry.
-/
import Derived.Test.YtdngmncaohgacaaDoorRows
import GoSem.ClaimSeven
namespace Go.Proofs.YtdngmncaohgacaaDoor
namespace Rows

/-- THE TIED CARD OF 'crimplaw05.SheetsNeighbour'. -/
def sheetsNeighbourCard : Claim7 := { stood := { row := sheetsNeighbourRow, standIns := [], harness := (true, "5322ce7c994bb8f456b6a3e29e3f4d738235be5bec9dfe569c55de057caa8fdd"), looks := false }, kinds := [], alts := [], laidByText := true, laidKinds := [.data], laidTests := true, laidLooks := .later }
def SheetsNeighbourCardSaid : Prop := Claim7.holds Tryd.pinned (.plain (OpenSpec.ofChange sheetsNeighbourSpec)) sheetsNeighbourCard

/-- THE TIED CARD OF 'crimplaw05.SheetsUnits'. -/
def sheetsUnitsCard : Claim7 := { stood := { row := sheetsUnitsRow, standIns := [], harness := (true, "5322ce7c994bb8f456b6a3e29e3f4d738235be5bec9dfe569c55de057caa8fdd"), looks := false }, kinds := [], alts := [], laidByText := true, laidKinds := [.data], laidTests := true, laidLooks := .later }
def SheetsUnitsCardSaid : Prop := Claim7.holds Tryd.pinned (.plain (OpenSpec.ofChange sheetsUnitsSpec)) sheetsUnitsCard

/-- THE TIED CARD OF 'crimplaw05.SheetsNone'. -/
def sheetsNoneCard : Claim7 := { stood := { row := sheetsNoneRow, standIns := [], harness := (true, "5322ce7c994bb8f456b6a3e29e3f4d738235be5bec9dfe569c55de057caa8fdd"), looks := false }, kinds := [], alts := [], laidByText := true, laidKinds := [.data], laidTests := true, laidLooks := .later }
def SheetsNoneCardSaid : Prop := Claim7.holds Tryd.pinned (.plain (OpenSpec.ofChange sheetsNoneSpec)) sheetsNoneCard

/-- THE TIED CARD OF 'crimplaw05.SheetsCheck'. -/
def sheetsCheckCard : Claim7 := { stood := { row := sheetsCheckRow, standIns := [], harness := (true, "5322ce7c994bb8f456b6a3e29e3f4d738235be5bec9dfe569c55de057caa8fdd"), looks := false }, kinds := [], alts := [], laidByText := true, laidKinds := [.data], laidTests := true, laidLooks := .later }
def SheetsCheckCardSaid : Prop := Claim7.holds Tryd.pinned (.plain (OpenSpec.ofChange sheetsCheckSpec)) sheetsCheckCard

/-- THE TIED CARD OF 'crimplaw05.SheetsCell'. -/
def sheetsCellCard : Claim7 := { stood := { row := sheetsCellRow, standIns := [], harness := (true, "5322ce7c994bb8f456b6a3e29e3f4d738235be5bec9dfe569c55de057caa8fdd"), looks := false }, kinds := [], alts := [], laidByText := true, laidKinds := [.data], laidTests := true, laidLooks := .later }
def SheetsCellCardSaid : Prop := Claim7.holds Tryd.pinned (.plain (OpenSpec.ofChange sheetsCellSpec)) sheetsCellCard

/-- THE TIED CARD OF 'crimplaw05.SheetsKnown'. -/
def sheetsKnownCard : Claim7 := { stood := { row := sheetsKnownRow, standIns := [], harness := (true, "5322ce7c994bb8f456b6a3e29e3f4d738235be5bec9dfe569c55de057caa8fdd"), looks := false }, kinds := [], alts := [], laidByText := true, laidKinds := [.data], laidTests := true, laidLooks := .later }
def SheetsKnownCardSaid : Prop := Claim7.holds Tryd.pinned (.plain (OpenSpec.ofChange sheetsKnownSpec)) sheetsKnownCard

/-- THE TIED CARD OF 'crimplaw03.CellsLine'. -/
def cellsLineCard : Claim7 := { stood := { row := cellsLineRow, standIns := [], harness := (true, "5322ce7c994bb8f456b6a3e29e3f4d738235be5bec9dfe569c55de057caa8fdd"), looks := false }, kinds := [], alts := [], laidByText := true, laidKinds := [.wider, .data], laidTests := true, laidLooks := .later }
def CellsLineCardSaid : Prop := Claim7.holds Tryd.pinned (.plain (OpenSpec.ofChange cellsLineSpec)) cellsLineCard

/-- THE TIED CARD OF 'crimplaw03.CellsNeighbour'. -/
def cellsNeighbourCard : Claim7 := { stood := { row := cellsNeighbourRow, standIns := [], harness := (true, "5322ce7c994bb8f456b6a3e29e3f4d738235be5bec9dfe569c55de057caa8fdd"), looks := false }, kinds := [], alts := [], laidByText := true, laidKinds := [.wider, .data], laidTests := true, laidLooks := .later }
def CellsNeighbourCardSaid : Prop := Claim7.holds Tryd.pinned (.plain (OpenSpec.ofChange cellsNeighbourSpec)) cellsNeighbourCard

/-- THE TIED CARD OF 'crimplaw03.CellsSide'. -/
def cellsSideCard : Claim7 := { stood := { row := cellsSideRow, standIns := [], harness := (true, "5322ce7c994bb8f456b6a3e29e3f4d738235be5bec9dfe569c55de057caa8fdd"), looks := false }, kinds := [], alts := [], laidByText := true, laidKinds := [.wider, .data], laidTests := true, laidLooks := .later }
def CellsSideCardSaid : Prop := Claim7.holds Tryd.pinned (.plain (OpenSpec.ofChange cellsSideSpec)) cellsSideCard

/-- THE TIED CARD OF 'crimplaw03.CellsMove'. -/
def cellsMoveCard : Claim7 := { stood := { row := cellsMoveRow, standIns := [], harness := (true, "5322ce7c994bb8f456b6a3e29e3f4d738235be5bec9dfe569c55de057caa8fdd"), looks := false }, kinds := [], alts := [], laidByText := true, laidKinds := [.wider, .data], laidTests := true, laidLooks := .later }
def CellsMoveCardSaid : Prop := Claim7.holds Tryd.pinned (.plain (OpenSpec.ofChange cellsMoveSpec)) cellsMoveCard

/-- THE TIED CARD OF 'crimplaw03.CellsBetween'. -/
def cellsBetweenCard : Claim7 := { stood := { row := cellsBetweenRow, standIns := [], harness := (true, "5322ce7c994bb8f456b6a3e29e3f4d738235be5bec9dfe569c55de057caa8fdd"), looks := false }, kinds := [], alts := [], laidByText := true, laidKinds := [.wider, .data], laidTests := true, laidLooks := .later }
def CellsBetweenCardSaid : Prop := Claim7.holds Tryd.pinned (.plain (OpenSpec.ofChange cellsBetweenSpec)) cellsBetweenCard

/-- THE TIED CARD OF 'crimplaw03.CellsCompare'. -/
def cellsCompareCard : Claim7 := { stood := { row := cellsCompareRow, standIns := [], harness := (true, "5322ce7c994bb8f456b6a3e29e3f4d738235be5bec9dfe569c55de057caa8fdd"), looks := false }, kinds := [], alts := [], laidByText := true, laidKinds := [.wider, .data], laidTests := true, laidLooks := .later }
def CellsCompareCardSaid : Prop := Claim7.holds Tryd.pinned (.plain (OpenSpec.ofChange cellsCompareSpec)) cellsCompareCard

/-- THE TIED CARD OF 'crimplaw03.CellsWay'. -/
def cellsWayCard : Claim7 := { stood := { row := cellsWayRow, standIns := [], harness := (true, "5322ce7c994bb8f456b6a3e29e3f4d738235be5bec9dfe569c55de057caa8fdd"), looks := false }, kinds := [], alts := [], laidByText := true, laidKinds := [.wider, .data], laidTests := true, laidLooks := .later }
def CellsWayCardSaid : Prop := Claim7.holds Tryd.pinned (.plain (OpenSpec.ofChange cellsWaySpec)) cellsWayCard

/-- THE TIED CARD OF 'crimplaw03.CellsKnown'. -/
def cellsKnownCard : Claim7 := { stood := { row := cellsKnownRow, standIns := [], harness := (true, "5322ce7c994bb8f456b6a3e29e3f4d738235be5bec9dfe569c55de057caa8fdd"), looks := false }, kinds := [], alts := [], laidByText := true, laidKinds := [.wider, .data], laidTests := true, laidLooks := .later }
def CellsKnownCardSaid : Prop := Claim7.holds Tryd.pinned (.plain (OpenSpec.ofChange cellsKnownSpec)) cellsKnownCard

/-- THE SECOND FORM's CARD OF 'crimplaw05.SheetsNeighbour'. -/
def sheetsNeighbourUptoCard : Claim7 := { stood := { row := sheetsNeighbourUptoRow, standIns := [], harness := (true, "5322ce7c994bb8f456b6a3e29e3f4d738235be5bec9dfe569c55de057caa8fdd"), looks := false }, kinds := [], alts := [], laidByText := true, laidKinds := [.data], laidTests := true, laidLooks := .later }
def SheetsNeighbourUptoCardSaid : Prop := Claim7.holds Tryd.pinned (.plain (OpenSpec.upto sheetsNeighbourSpec)) sheetsNeighbourUptoCard

/-- THE SECOND FORM's CARD OF 'crimplaw05.SheetsUnits'. -/
def sheetsUnitsUptoCard : Claim7 := { stood := { row := sheetsUnitsUptoRow, standIns := [], harness := (true, "5322ce7c994bb8f456b6a3e29e3f4d738235be5bec9dfe569c55de057caa8fdd"), looks := false }, kinds := [], alts := [], laidByText := true, laidKinds := [.data], laidTests := true, laidLooks := .later }
def SheetsUnitsUptoCardSaid : Prop := Claim7.holds Tryd.pinned (.plain (OpenSpec.upto sheetsUnitsSpec)) sheetsUnitsUptoCard

/-- THE SECOND FORM's CARD OF 'crimplaw05.SheetsNone'. -/
def sheetsNoneUptoCard : Claim7 := { stood := { row := sheetsNoneUptoRow, standIns := [], harness := (true, "5322ce7c994bb8f456b6a3e29e3f4d738235be5bec9dfe569c55de057caa8fdd"), looks := false }, kinds := [], alts := [], laidByText := true, laidKinds := [.data], laidTests := true, laidLooks := .later }
def SheetsNoneUptoCardSaid : Prop := Claim7.holds Tryd.pinned (.plain (OpenSpec.upto sheetsNoneSpec)) sheetsNoneUptoCard

/-- THE SECOND FORM's CARD OF 'crimplaw05.SheetsCheck'. -/
def sheetsCheckUptoCard : Claim7 := { stood := { row := sheetsCheckUptoRow, standIns := [], harness := (true, "5322ce7c994bb8f456b6a3e29e3f4d738235be5bec9dfe569c55de057caa8fdd"), looks := false }, kinds := [], alts := [], laidByText := true, laidKinds := [.data], laidTests := true, laidLooks := .later }
def SheetsCheckUptoCardSaid : Prop := Claim7.holds Tryd.pinned (.plain (OpenSpec.upto sheetsCheckSpec)) sheetsCheckUptoCard

/-- THE SECOND FORM's CARD OF 'crimplaw05.SheetsCell'. -/
def sheetsCellUptoCard : Claim7 := { stood := { row := sheetsCellUptoRow, standIns := [], harness := (true, "5322ce7c994bb8f456b6a3e29e3f4d738235be5bec9dfe569c55de057caa8fdd"), looks := false }, kinds := [], alts := [], laidByText := true, laidKinds := [.data], laidTests := true, laidLooks := .later }
def SheetsCellUptoCardSaid : Prop := Claim7.holds Tryd.pinned (.plain (OpenSpec.upto sheetsCellSpec)) sheetsCellUptoCard

/-- THE SECOND FORM's CARD OF 'crimplaw05.SheetsKnown'. -/
def sheetsKnownUptoCard : Claim7 := { stood := { row := sheetsKnownUptoRow, standIns := [], harness := (true, "5322ce7c994bb8f456b6a3e29e3f4d738235be5bec9dfe569c55de057caa8fdd"), looks := false }, kinds := [], alts := [], laidByText := true, laidKinds := [.data], laidTests := true, laidLooks := .later }
def SheetsKnownUptoCardSaid : Prop := Claim7.holds Tryd.pinned (.plain (OpenSpec.upto sheetsKnownSpec)) sheetsKnownUptoCard

/-- THE SECOND FORM's CARD OF 'crimplaw03.CellsLine'. -/
def cellsLineUptoCard : Claim7 := { stood := { row := cellsLineUptoRow, standIns := [], harness := (true, "5322ce7c994bb8f456b6a3e29e3f4d738235be5bec9dfe569c55de057caa8fdd"), looks := false }, kinds := [], alts := [], laidByText := true, laidKinds := [.wider, .data], laidTests := true, laidLooks := .later }
def CellsLineUptoCardSaid : Prop := Claim7.holds Tryd.pinned (.plain (OpenSpec.upto cellsLineSpec)) cellsLineUptoCard

/-- THE SECOND FORM's CARD OF 'crimplaw03.CellsNeighbour'. -/
def cellsNeighbourUptoCard : Claim7 := { stood := { row := cellsNeighbourUptoRow, standIns := [], harness := (true, "5322ce7c994bb8f456b6a3e29e3f4d738235be5bec9dfe569c55de057caa8fdd"), looks := false }, kinds := [], alts := [], laidByText := true, laidKinds := [.wider, .data], laidTests := true, laidLooks := .later }
def CellsNeighbourUptoCardSaid : Prop := Claim7.holds Tryd.pinned (.plain (OpenSpec.upto cellsNeighbourSpec)) cellsNeighbourUptoCard

/-- THE SECOND FORM's CARD OF 'crimplaw03.CellsSide'. -/
def cellsSideUptoCard : Claim7 := { stood := { row := cellsSideUptoRow, standIns := [], harness := (true, "5322ce7c994bb8f456b6a3e29e3f4d738235be5bec9dfe569c55de057caa8fdd"), looks := false }, kinds := [], alts := [], laidByText := true, laidKinds := [.wider, .data], laidTests := true, laidLooks := .later }
def CellsSideUptoCardSaid : Prop := Claim7.holds Tryd.pinned (.plain (OpenSpec.upto cellsSideSpec)) cellsSideUptoCard

/-- THE SECOND FORM's CARD OF 'crimplaw03.CellsMove'. -/
def cellsMoveUptoCard : Claim7 := { stood := { row := cellsMoveUptoRow, standIns := [], harness := (true, "5322ce7c994bb8f456b6a3e29e3f4d738235be5bec9dfe569c55de057caa8fdd"), looks := false }, kinds := [], alts := [], laidByText := true, laidKinds := [.wider, .data], laidTests := true, laidLooks := .later }
def CellsMoveUptoCardSaid : Prop := Claim7.holds Tryd.pinned (.plain (OpenSpec.upto cellsMoveSpec)) cellsMoveUptoCard

/-- THE SECOND FORM's CARD OF 'crimplaw03.CellsBetween'. -/
def cellsBetweenUptoCard : Claim7 := { stood := { row := cellsBetweenUptoRow, standIns := [], harness := (true, "5322ce7c994bb8f456b6a3e29e3f4d738235be5bec9dfe569c55de057caa8fdd"), looks := false }, kinds := [], alts := [], laidByText := true, laidKinds := [.wider, .data], laidTests := true, laidLooks := .later }
def CellsBetweenUptoCardSaid : Prop := Claim7.holds Tryd.pinned (.plain (OpenSpec.upto cellsBetweenSpec)) cellsBetweenUptoCard

/-- THE SECOND FORM's CARD OF 'crimplaw03.CellsCompare'. -/
def cellsCompareUptoCard : Claim7 := { stood := { row := cellsCompareUptoRow, standIns := [], harness := (true, "5322ce7c994bb8f456b6a3e29e3f4d738235be5bec9dfe569c55de057caa8fdd"), looks := false }, kinds := [], alts := [], laidByText := true, laidKinds := [.wider, .data], laidTests := true, laidLooks := .later }
def CellsCompareUptoCardSaid : Prop := Claim7.holds Tryd.pinned (.plain (OpenSpec.upto cellsCompareSpec)) cellsCompareUptoCard

/-- THE SECOND FORM's CARD OF 'crimplaw03.CellsWay'. -/
def cellsWayUptoCard : Claim7 := { stood := { row := cellsWayUptoRow, standIns := [], harness := (true, "5322ce7c994bb8f456b6a3e29e3f4d738235be5bec9dfe569c55de057caa8fdd"), looks := false }, kinds := [], alts := [], laidByText := true, laidKinds := [.wider, .data], laidTests := true, laidLooks := .later }
def CellsWayUptoCardSaid : Prop := Claim7.holds Tryd.pinned (.plain (OpenSpec.upto cellsWaySpec)) cellsWayUptoCard

/-- THE SECOND FORM's CARD OF 'crimplaw03.CellsKnown'. -/
def cellsKnownUptoCard : Claim7 := { stood := { row := cellsKnownUptoRow, standIns := [], harness := (true, "5322ce7c994bb8f456b6a3e29e3f4d738235be5bec9dfe569c55de057caa8fdd"), looks := false }, kinds := [], alts := [], laidByText := true, laidKinds := [.wider, .data], laidTests := true, laidLooks := .later }
def CellsKnownUptoCardSaid : Prop := Claim7.holds Tryd.pinned (.plain (OpenSpec.upto cellsKnownSpec)) cellsKnownUptoCard
end Rows
end Go.Proofs.YtdngmncaohgacaaDoor
