/-
  NARROWER THAN 'FOR EVERY INPUT', by the rows' own cells (each row's printed sentence says how): SheetsNeighbour: laid · SheetsUnits: laid · SheetsNone: laid · SheetsCheck: laid · SheetsCell: laid · SheetsKnown: laid · CellsLine: laid · CellsNeighbour: laid · CellsSide: laid · CellsMove: laid · CellsBetween: laid · CellsCompare: laid · CellsWay: laid · CellsKnown: laid.
  DERIVED. THE GIVEN ROWS OF THIS SEAT. 14 by the template 'for every input the law returns true; each argument reads behind the call as it read before'; 0 by the template 'total and deterministic' (their statements: YtdngmncaohgacaaDoorTotals.lean).
  GIVEN WITH THE SEED: the statements are not yours to turn. If you find one false, say at which input.
  Laid BY PROGRAM, IN A SANDBOX (cutbox-rows.mjs): the forced cells as the released guide's own fill.sh prints them over the translation aec9b42682691892… (all of the seat's roots in one cut). By AI agents, Wed Nov 11 2026. No macro, syntax, notation, axiom, sorry.
-/
import Derived.Test.YtdngmncaohgacaaDoorChecked
import GoSem.Claim
import GoSem.ClaimJoined
import GoSem.ClaimMapViews
import Derived.JoinedTies
import Derived.KernelRfl
namespace Go.Proofs.YtdngmncaohgacaaDoor
/- THE CELL 'sum', in the pinned program and in every row, IS THE sha256 OF THE DUMP (.gsa) THAT YtdngmncaohgacaaDoorProg.lean LOADS. Nothing in Lean hashes anything: it is a label: what it is worth is what the hold of that sum in a sandbox is worth. -/
noncomputable def Tryd.pinned : Pinned := { name := "ytdngmncaohgacaadoor", sum := "aec9b42682691892dd590c3c23f432836d029a83a58cfde7615416d617e46bc1", checked := Tryd.checked }
namespace Rows
def none {H : Type} : Left H := { results := [], args := [] }

/- WHAT THE LISTED PACKAGE-LEVEL VARIABLES READ AS WHEN THE CALL BEGINS. Each datum BY PROGRAM (the guide's laid-datum.mjs) off the statement by which the dump's own 'gosem.cut.vars' lays the variable. In a bare row this is a premise. The card (YtdngmncaohgacaaDoorCards.lean) ties it to the program's text. -/
def laid_crimp_cells_quarters {H : Type} : DataW H := .agg [.agg [.agg [.lit (.int .i64 0), .lit (.int .i64 (-1))], .lit (.int .u8 2), .lit (.int .i64 0), .agg [.agg [.lit (.int .i64 0), .lit (.int .i64 (-1)), .lit (.int .u8 2)], .agg [.lit (.int .i64 0), .lit (.int .i64 0), .lit (.int .u8 1)], .agg [.lit (.int .i64 0), .lit (.int .i64 0), .lit (.int .u8 3)]], .agg [.lit (.int .i64 0), .lit (.int .i64 0)], .agg [.lit (.int .i64 2), .lit (.int .i64 0)]], .agg [.agg [.lit (.int .i64 1), .lit (.int .i64 0)], .lit (.int .u8 1), .lit (.int .i64 1), .agg [.agg [.lit (.int .i64 1), .lit (.int .i64 0), .lit (.int .u8 3)], .agg [.lit (.int .i64 0), .lit (.int .i64 0), .lit (.int .u8 0)], .agg [.lit (.int .i64 0), .lit (.int .i64 0), .lit (.int .u8 2)]], .agg [.lit (.int .i64 2), .lit (.int .i64 2)], .agg [.lit (.int .i64 2), .lit (.int .i64 0)]], .agg [.agg [.lit (.int .i64 0), .lit (.int .i64 1)], .lit (.int .u8 2), .lit (.int .i64 1), .agg [.agg [.lit (.int .i64 0), .lit (.int .i64 1), .lit (.int .u8 0)], .agg [.lit (.int .i64 0), .lit (.int .i64 0), .lit (.int .u8 3)], .agg [.lit (.int .i64 0), .lit (.int .i64 0), .lit (.int .u8 1)]], .agg [.lit (.int .i64 2), .lit (.int .i64 2)], .agg [.lit (.int .i64 0), .lit (.int .i64 2)]], .agg [.agg [.lit (.int .i64 (-1)), .lit (.int .i64 0)], .lit (.int .u8 1), .lit (.int .i64 0), .agg [.agg [.lit (.int .i64 (-1)), .lit (.int .i64 0), .lit (.int .u8 1)], .agg [.lit (.int .i64 0), .lit (.int .i64 0), .lit (.int .u8 2)], .agg [.lit (.int .i64 0), .lit (.int .i64 0), .lit (.int .u8 0)]], .agg [.lit (.int .i64 0), .lit (.int .i64 0)], .agg [.lit (.int .i64 0), .lit (.int .i64 2)]]]
def laid_crimp_moves_turns {H : Type} : DataW H := .agg [.agg [.lit (.int .i64 1), .lit (.int .i64 0), .lit (.int .i64 0), .lit (.int .i64 1)], .agg [.lit (.int .i64 0), .lit (.int .i64 (-1)), .lit (.int .i64 1), .lit (.int .i64 0)], .agg [.lit (.int .i64 (-1)), .lit (.int .i64 0), .lit (.int .i64 0), .lit (.int .i64 (-1))], .agg [.lit (.int .i64 0), .lit (.int .i64 1), .lit (.int .i64 (-1)), .lit (.int .i64 0)], .agg [.lit (.int .i64 (-1)), .lit (.int .i64 0), .lit (.int .i64 0), .lit (.int .i64 1)], .agg [.lit (.int .i64 0), .lit (.int .i64 (-1)), .lit (.int .i64 (-1)), .lit (.int .i64 0)], .agg [.lit (.int .i64 1), .lit (.int .i64 0), .lit (.int .i64 0), .lit (.int .i64 (-1))], .agg [.lit (.int .i64 0), .lit (.int .i64 1), .lit (.int .i64 1), .lit (.int .i64 0)]]

/-- 'crimplaw05.SheetsNeighbour': WHATEVER THE INPUT: true; the input reads as it did. -/
def sheetsNeighbourSpec : ChangeSpec := { name := "sheetsNeighbour", fn := fun _ => fun
  | [d1, d2, d3] => { results := [.lit (.bool true)], args := [d1, d2, d3] }
  | _ => none }
def sheetsNeighbourRow : OpenClaim := { program := "ytdngmncaohgacaadoor", sum := "aec9b42682691892dd590c3c23f432836d029a83a58cfde7615416d617e46bc1", func := "crimp/crimplaw05.SheetsNeighbour", spec := "sheetsNeighbour", unfollowed := true, recurses := true, named := ["crimp/cells.quarters"], plainKeys := false, apart := false, laid := [("crimp/cells.quarters", laid_crimp_cells_quarters)] }
def SheetsNeighbourSaid : Prop := sheetsNeighbourRow.holds Tryd.pinned (OpenSpec.ofChange sheetsNeighbourSpec)

/-- ITS FALSE NEIGHBOUR: 'it returns false'. Refute it at one input. -/
def sheetsNeighbourWrong : ChangeSpec := { name := "sheetsNeighbour", fn := fun _ => fun
  | [d1, d2, d3] => { results := [.lit (.bool false)], args := [d1, d2, d3] }
  | _ => none }
def SheetsNeighbourWrongFalsely : Prop := sheetsNeighbourRow.holds Tryd.pinned (OpenSpec.ofChange sheetsNeighbourWrong)

/-- 'crimplaw05.SheetsUnits': WHATEVER THE INPUT: true; the input reads as it did. -/
def sheetsUnitsSpec : ChangeSpec := { name := "sheetsUnits", fn := fun _ => fun
  | [d] => { results := [.lit (.bool true)], args := [d] }
  | _ => none }
def sheetsUnitsRow : OpenClaim := { program := "ytdngmncaohgacaadoor", sum := "aec9b42682691892dd590c3c23f432836d029a83a58cfde7615416d617e46bc1", func := "crimp/crimplaw05.SheetsUnits", spec := "sheetsUnits", unfollowed := true, recurses := true, named := ["crimp/cells.quarters"], plainKeys := false, apart := false, laid := [("crimp/cells.quarters", laid_crimp_cells_quarters)] }
def SheetsUnitsSaid : Prop := sheetsUnitsRow.holds Tryd.pinned (OpenSpec.ofChange sheetsUnitsSpec)

/-- ITS FALSE NEIGHBOUR: 'it returns false'. Refute it at one input. -/
def sheetsUnitsWrong : ChangeSpec := { name := "sheetsUnits", fn := fun _ => fun
  | [d] => { results := [.lit (.bool false)], args := [d] }
  | _ => none }
def SheetsUnitsWrongFalsely : Prop := sheetsUnitsRow.holds Tryd.pinned (OpenSpec.ofChange sheetsUnitsWrong)

/-- 'crimplaw05.SheetsNone': WHATEVER THE INPUT: true; the input reads as it did. -/
def sheetsNoneSpec : ChangeSpec := { name := "sheetsNone", fn := fun _ => fun
  | [d1, d2] => { results := [.lit (.bool true)], args := [d1, d2] }
  | _ => none }
def sheetsNoneRow : OpenClaim := { program := "ytdngmncaohgacaadoor", sum := "aec9b42682691892dd590c3c23f432836d029a83a58cfde7615416d617e46bc1", func := "crimp/crimplaw05.SheetsNone", spec := "sheetsNone", unfollowed := true, recurses := true, named := ["crimp/cells.quarters"], plainKeys := false, apart := false, laid := [("crimp/cells.quarters", laid_crimp_cells_quarters)] }
def SheetsNoneSaid : Prop := sheetsNoneRow.holds Tryd.pinned (OpenSpec.ofChange sheetsNoneSpec)

/-- ITS FALSE NEIGHBOUR: 'it returns false'. Refute it at one input. -/
def sheetsNoneWrong : ChangeSpec := { name := "sheetsNone", fn := fun _ => fun
  | [d1, d2] => { results := [.lit (.bool false)], args := [d1, d2] }
  | _ => none }
def SheetsNoneWrongFalsely : Prop := sheetsNoneRow.holds Tryd.pinned (OpenSpec.ofChange sheetsNoneWrong)

/-- 'crimplaw05.SheetsCheck': WHATEVER THE INPUT: true; the input reads as it did. -/
def sheetsCheckSpec : ChangeSpec := { name := "sheetsCheck", fn := fun _ => fun
  | [d1, d2] => { results := [.lit (.bool true)], args := [d1, d2] }
  | _ => none }
def sheetsCheckRow : OpenClaim := { program := "ytdngmncaohgacaadoor", sum := "aec9b42682691892dd590c3c23f432836d029a83a58cfde7615416d617e46bc1", func := "crimp/crimplaw05.SheetsCheck", spec := "sheetsCheck", unfollowed := true, recurses := true, named := ["crimp/cells.quarters"], plainKeys := false, apart := false, laid := [("crimp/cells.quarters", laid_crimp_cells_quarters)] }
def SheetsCheckSaid : Prop := sheetsCheckRow.holds Tryd.pinned (OpenSpec.ofChange sheetsCheckSpec)

/-- ITS FALSE NEIGHBOUR: 'it returns false'. Refute it at one input. -/
def sheetsCheckWrong : ChangeSpec := { name := "sheetsCheck", fn := fun _ => fun
  | [d1, d2] => { results := [.lit (.bool false)], args := [d1, d2] }
  | _ => none }
def SheetsCheckWrongFalsely : Prop := sheetsCheckRow.holds Tryd.pinned (OpenSpec.ofChange sheetsCheckWrong)

/-- 'crimplaw05.SheetsCell': WHATEVER THE INPUT: true; the input reads as it did. -/
def sheetsCellSpec : ChangeSpec := { name := "sheetsCell", fn := fun _ => fun
  | [d1, d2, d3] => { results := [.lit (.bool true)], args := [d1, d2, d3] }
  | _ => none }
def sheetsCellRow : OpenClaim := { program := "ytdngmncaohgacaadoor", sum := "aec9b42682691892dd590c3c23f432836d029a83a58cfde7615416d617e46bc1", func := "crimp/crimplaw05.SheetsCell", spec := "sheetsCell", unfollowed := true, recurses := true, named := ["crimp/cells.quarters"], plainKeys := false, apart := false, laid := [("crimp/cells.quarters", laid_crimp_cells_quarters)] }
def SheetsCellSaid : Prop := sheetsCellRow.holds Tryd.pinned (OpenSpec.ofChange sheetsCellSpec)

/-- ITS FALSE NEIGHBOUR: 'it returns false'. Refute it at one input. -/
def sheetsCellWrong : ChangeSpec := { name := "sheetsCell", fn := fun _ => fun
  | [d1, d2, d3] => { results := [.lit (.bool false)], args := [d1, d2, d3] }
  | _ => none }
def SheetsCellWrongFalsely : Prop := sheetsCellRow.holds Tryd.pinned (OpenSpec.ofChange sheetsCellWrong)

/-- 'crimplaw05.SheetsKnown': WHATEVER THE INPUT: true; the input reads as it did. -/
def sheetsKnownSpec : ChangeSpec := { name := "sheetsKnown", fn := fun _ => fun
  | [] => { results := [.lit (.bool true)], args := [] }
  | _ => none }
def sheetsKnownRow : OpenClaim := { program := "ytdngmncaohgacaadoor", sum := "aec9b42682691892dd590c3c23f432836d029a83a58cfde7615416d617e46bc1", func := "crimp/crimplaw05.SheetsKnown", spec := "sheetsKnown", unfollowed := true, recurses := true, named := ["crimp/cells.quarters"], plainKeys := false, apart := false, laid := [("crimp/cells.quarters", laid_crimp_cells_quarters)] }
def SheetsKnownSaid : Prop := sheetsKnownRow.holds Tryd.pinned (OpenSpec.ofChange sheetsKnownSpec)

/-- ITS FALSE NEIGHBOUR: 'it returns false'. Refute it at one input. -/
def sheetsKnownWrong : ChangeSpec := { name := "sheetsKnown", fn := fun _ => fun
  | [] => { results := [.lit (.bool false)], args := [] }
  | _ => none }
def SheetsKnownWrongFalsely : Prop := sheetsKnownRow.holds Tryd.pinned (OpenSpec.ofChange sheetsKnownWrong)

/-- 'crimplaw03.CellsLine': WHATEVER THE INPUT: true; the input reads as it did. -/
def cellsLineSpec : ChangeSpec := { name := "cellsLine", fn := fun _ => fun
  | [d1, d2] => { results := [.lit (.bool true)], args := [d1, d2] }
  | _ => none }
def cellsLineRow : OpenClaim := { program := "ytdngmncaohgacaadoor", sum := "aec9b42682691892dd590c3c23f432836d029a83a58cfde7615416d617e46bc1", func := "crimp/crimplaw03.CellsLine", spec := "cellsLine", unfollowed := true, recurses := true, named := ["crimp/cells.quarters", "crimp/moves.turns"], plainKeys := false, apart := false, laid := [("crimp/moves.turns", laid_crimp_moves_turns), ("crimp/cells.quarters", laid_crimp_cells_quarters)] }
def CellsLineSaid : Prop := cellsLineRow.holds Tryd.pinned (OpenSpec.ofChange cellsLineSpec)

/-- ITS FALSE NEIGHBOUR: 'it returns false'. Refute it at one input. -/
def cellsLineWrong : ChangeSpec := { name := "cellsLine", fn := fun _ => fun
  | [d1, d2] => { results := [.lit (.bool false)], args := [d1, d2] }
  | _ => none }
def CellsLineWrongFalsely : Prop := cellsLineRow.holds Tryd.pinned (OpenSpec.ofChange cellsLineWrong)

/-- 'crimplaw03.CellsNeighbour': WHATEVER THE INPUT: true; the input reads as it did. -/
def cellsNeighbourSpec : ChangeSpec := { name := "cellsNeighbour", fn := fun _ => fun
  | [d1, d2, d3] => { results := [.lit (.bool true)], args := [d1, d2, d3] }
  | _ => none }
def cellsNeighbourRow : OpenClaim := { program := "ytdngmncaohgacaadoor", sum := "aec9b42682691892dd590c3c23f432836d029a83a58cfde7615416d617e46bc1", func := "crimp/crimplaw03.CellsNeighbour", spec := "cellsNeighbour", unfollowed := true, recurses := true, named := ["crimp/cells.quarters", "crimp/moves.turns"], plainKeys := false, apart := false, laid := [("crimp/moves.turns", laid_crimp_moves_turns), ("crimp/cells.quarters", laid_crimp_cells_quarters)] }
def CellsNeighbourSaid : Prop := cellsNeighbourRow.holds Tryd.pinned (OpenSpec.ofChange cellsNeighbourSpec)

/-- ITS FALSE NEIGHBOUR: 'it returns false'. Refute it at one input. -/
def cellsNeighbourWrong : ChangeSpec := { name := "cellsNeighbour", fn := fun _ => fun
  | [d1, d2, d3] => { results := [.lit (.bool false)], args := [d1, d2, d3] }
  | _ => none }
def CellsNeighbourWrongFalsely : Prop := cellsNeighbourRow.holds Tryd.pinned (OpenSpec.ofChange cellsNeighbourWrong)

/-- 'crimplaw03.CellsSide': WHATEVER THE INPUT: true; the input reads as it did. -/
def cellsSideSpec : ChangeSpec := { name := "cellsSide", fn := fun _ => fun
  | [d1, d2] => { results := [.lit (.bool true)], args := [d1, d2] }
  | _ => none }
def cellsSideRow : OpenClaim := { program := "ytdngmncaohgacaadoor", sum := "aec9b42682691892dd590c3c23f432836d029a83a58cfde7615416d617e46bc1", func := "crimp/crimplaw03.CellsSide", spec := "cellsSide", unfollowed := true, recurses := true, named := ["crimp/cells.quarters", "crimp/moves.turns"], plainKeys := false, apart := false, laid := [("crimp/moves.turns", laid_crimp_moves_turns), ("crimp/cells.quarters", laid_crimp_cells_quarters)] }
def CellsSideSaid : Prop := cellsSideRow.holds Tryd.pinned (OpenSpec.ofChange cellsSideSpec)

/-- ITS FALSE NEIGHBOUR: 'it returns false'. Refute it at one input. -/
def cellsSideWrong : ChangeSpec := { name := "cellsSide", fn := fun _ => fun
  | [d1, d2] => { results := [.lit (.bool false)], args := [d1, d2] }
  | _ => none }
def CellsSideWrongFalsely : Prop := cellsSideRow.holds Tryd.pinned (OpenSpec.ofChange cellsSideWrong)

/-- 'crimplaw03.CellsMove': WHATEVER THE INPUT: true; the input reads as it did. -/
def cellsMoveSpec : ChangeSpec := { name := "cellsMove", fn := fun _ => fun
  | [d1, d2, d3] => { results := [.lit (.bool true)], args := [d1, d2, d3] }
  | _ => none }
def cellsMoveRow : OpenClaim := { program := "ytdngmncaohgacaadoor", sum := "aec9b42682691892dd590c3c23f432836d029a83a58cfde7615416d617e46bc1", func := "crimp/crimplaw03.CellsMove", spec := "cellsMove", unfollowed := true, recurses := true, named := ["crimp/cells.quarters", "crimp/moves.turns"], plainKeys := false, apart := false, laid := [("crimp/moves.turns", laid_crimp_moves_turns), ("crimp/cells.quarters", laid_crimp_cells_quarters)] }
def CellsMoveSaid : Prop := cellsMoveRow.holds Tryd.pinned (OpenSpec.ofChange cellsMoveSpec)

/-- ITS FALSE NEIGHBOUR: 'it returns false'. Refute it at one input. -/
def cellsMoveWrong : ChangeSpec := { name := "cellsMove", fn := fun _ => fun
  | [d1, d2, d3] => { results := [.lit (.bool false)], args := [d1, d2, d3] }
  | _ => none }
def CellsMoveWrongFalsely : Prop := cellsMoveRow.holds Tryd.pinned (OpenSpec.ofChange cellsMoveWrong)

/-- 'crimplaw03.CellsBetween': WHATEVER THE INPUT: true; the input reads as it did. -/
def cellsBetweenSpec : ChangeSpec := { name := "cellsBetween", fn := fun _ => fun
  | [d1, d2] => { results := [.lit (.bool true)], args := [d1, d2] }
  | _ => none }
def cellsBetweenRow : OpenClaim := { program := "ytdngmncaohgacaadoor", sum := "aec9b42682691892dd590c3c23f432836d029a83a58cfde7615416d617e46bc1", func := "crimp/crimplaw03.CellsBetween", spec := "cellsBetween", unfollowed := true, recurses := true, named := ["crimp/moves.turns", "crimp/cells.quarters"], plainKeys := false, apart := false, laid := [("crimp/moves.turns", laid_crimp_moves_turns), ("crimp/cells.quarters", laid_crimp_cells_quarters)] }
def CellsBetweenSaid : Prop := cellsBetweenRow.holds Tryd.pinned (OpenSpec.ofChange cellsBetweenSpec)

/-- ITS FALSE NEIGHBOUR: 'it returns false'. Refute it at one input. -/
def cellsBetweenWrong : ChangeSpec := { name := "cellsBetween", fn := fun _ => fun
  | [d1, d2] => { results := [.lit (.bool false)], args := [d1, d2] }
  | _ => none }
def CellsBetweenWrongFalsely : Prop := cellsBetweenRow.holds Tryd.pinned (OpenSpec.ofChange cellsBetweenWrong)

/-- 'crimplaw03.CellsCompare': WHATEVER THE INPUT: true; the input reads as it did. -/
def cellsCompareSpec : ChangeSpec := { name := "cellsCompare", fn := fun _ => fun
  | [d1, d2, d3] => { results := [.lit (.bool true)], args := [d1, d2, d3] }
  | _ => none }
def cellsCompareRow : OpenClaim := { program := "ytdngmncaohgacaadoor", sum := "aec9b42682691892dd590c3c23f432836d029a83a58cfde7615416d617e46bc1", func := "crimp/crimplaw03.CellsCompare", spec := "cellsCompare", unfollowed := true, recurses := true, named := ["crimp/cells.quarters", "crimp/moves.turns"], plainKeys := false, apart := false, laid := [("crimp/moves.turns", laid_crimp_moves_turns), ("crimp/cells.quarters", laid_crimp_cells_quarters)] }
def CellsCompareSaid : Prop := cellsCompareRow.holds Tryd.pinned (OpenSpec.ofChange cellsCompareSpec)

/-- ITS FALSE NEIGHBOUR: 'it returns false'. Refute it at one input. -/
def cellsCompareWrong : ChangeSpec := { name := "cellsCompare", fn := fun _ => fun
  | [d1, d2, d3] => { results := [.lit (.bool false)], args := [d1, d2, d3] }
  | _ => none }
def CellsCompareWrongFalsely : Prop := cellsCompareRow.holds Tryd.pinned (OpenSpec.ofChange cellsCompareWrong)

/-- 'crimplaw03.CellsWay': WHATEVER THE INPUT: true; the input reads as it did. -/
def cellsWaySpec : ChangeSpec := { name := "cellsWay", fn := fun _ => fun
  | [d1, d2] => { results := [.lit (.bool true)], args := [d1, d2] }
  | _ => none }
def cellsWayRow : OpenClaim := { program := "ytdngmncaohgacaadoor", sum := "aec9b42682691892dd590c3c23f432836d029a83a58cfde7615416d617e46bc1", func := "crimp/crimplaw03.CellsWay", spec := "cellsWay", unfollowed := true, recurses := true, named := ["crimp/cells.quarters", "crimp/moves.turns"], plainKeys := false, apart := false, laid := [("crimp/moves.turns", laid_crimp_moves_turns), ("crimp/cells.quarters", laid_crimp_cells_quarters)] }
def CellsWaySaid : Prop := cellsWayRow.holds Tryd.pinned (OpenSpec.ofChange cellsWaySpec)

/-- ITS FALSE NEIGHBOUR: 'it returns false'. Refute it at one input. -/
def cellsWayWrong : ChangeSpec := { name := "cellsWay", fn := fun _ => fun
  | [d1, d2] => { results := [.lit (.bool false)], args := [d1, d2] }
  | _ => none }
def CellsWayWrongFalsely : Prop := cellsWayRow.holds Tryd.pinned (OpenSpec.ofChange cellsWayWrong)

/-- 'crimplaw03.CellsKnown': WHATEVER THE INPUT: true; the input reads as it did. -/
def cellsKnownSpec : ChangeSpec := { name := "cellsKnown", fn := fun _ => fun
  | [] => { results := [.lit (.bool true)], args := [] }
  | _ => none }
def cellsKnownRow : OpenClaim := { program := "ytdngmncaohgacaadoor", sum := "aec9b42682691892dd590c3c23f432836d029a83a58cfde7615416d617e46bc1", func := "crimp/crimplaw03.CellsKnown", spec := "cellsKnown", unfollowed := true, recurses := true, named := ["crimp/cells.quarters", "crimp/moves.turns"], plainKeys := false, apart := false, laid := [("crimp/moves.turns", laid_crimp_moves_turns), ("crimp/cells.quarters", laid_crimp_cells_quarters)] }
def CellsKnownSaid : Prop := cellsKnownRow.holds Tryd.pinned (OpenSpec.ofChange cellsKnownSpec)

/-- ITS FALSE NEIGHBOUR: 'it returns false'. Refute it at one input. -/
def cellsKnownWrong : ChangeSpec := { name := "cellsKnown", fn := fun _ => fun
  | [] => { results := [.lit (.bool false)], args := [] }
  | _ => none }
def CellsKnownWrongFalsely : Prop := cellsKnownRow.holds Tryd.pinned (OpenSpec.ofChange cellsKnownWrong)

/- THE SECOND FORM. 'bulk': how many values and letters a reading holds, each counted each time it is reached (what is shared counts as often as it is met; a slice's spare places count too). A statement '..UptoSaid' is the law's where the arguments, and the package variables that the reading takes, are together of bulk at most 1048576: NARROWER than '..Said'. Prove '..Said' where nothing that the law and all that it calls make is longer than what came in: it says more and counts as full. Else prove '..UptoSaid'. A law counts once. -/
mutual
def uptoBulk {H : Type} : DataW H → Nat
  | .lit (.string bytes) => bytes.length + 1
  | .lit _ => 1
  | .nil => 1
  | .ptr d => uptoBulk d + 1
  | .slice elems spare => uptoBulkAll elems + uptoBulkAll spare + 1
  | .agg parts => uptoBulkAll parts + 1
  | .iface _ d => uptoBulk d + 1
  | .map entries => uptoBulkEntries entries + 1
  | .held _ => 1
def uptoBulkAll {H : Type} : List (DataW H) → Nat
  | [] => 0
  | d :: r => uptoBulk d + uptoBulkAll r
def uptoBulkEntries {H : Type} : List (Lit × DataW H) → Nat
  | [] => 0
  | x :: r => uptoBulkEntry x + uptoBulkEntries r
def uptoBulkEntry {H : Type} : Lit × DataW H → Nat
  | (.string bytes, d) => bytes.length + uptoBulk d + 1
  | (_, d) => uptoBulk d + 1
 end
def uptoSmall : (H : Type) → List (DataW H) → Bool := fun _ ds => decide (uptoBulkAll ds ≤ 1048576)
def OpenSpec.upto (s : _root_.Go.ChangeSpec) : _root_.Go.OpenSpec := { _root_.Go.OpenSpec.ofChange s with cond := some uptoSmall }

/-- 'crimplaw05.SheetsNeighbour', WHERE WHAT IT READS IS OF BULK AT MOST 1048576: true; the input reads as it did. -/
def sheetsNeighbourUptoRow : OpenClaim := { program := "ytdngmncaohgacaadoor", sum := "aec9b42682691892dd590c3c23f432836d029a83a58cfde7615416d617e46bc1", func := "crimp/crimplaw05.SheetsNeighbour", spec := "sheetsNeighbour", unfollowed := true, recurses := true, named := ["crimp/cells.quarters"], plainKeys := false, apart := false, laid := [("crimp/cells.quarters", laid_crimp_cells_quarters)], narrowed := true }
def SheetsNeighbourUptoSaid : Prop := sheetsNeighbourUptoRow.holds Tryd.pinned (OpenSpec.upto sheetsNeighbourSpec)

/-- 'crimplaw05.SheetsUnits', WHERE WHAT IT READS IS OF BULK AT MOST 1048576: true; the input reads as it did. -/
def sheetsUnitsUptoRow : OpenClaim := { program := "ytdngmncaohgacaadoor", sum := "aec9b42682691892dd590c3c23f432836d029a83a58cfde7615416d617e46bc1", func := "crimp/crimplaw05.SheetsUnits", spec := "sheetsUnits", unfollowed := true, recurses := true, named := ["crimp/cells.quarters"], plainKeys := false, apart := false, laid := [("crimp/cells.quarters", laid_crimp_cells_quarters)], narrowed := true }
def SheetsUnitsUptoSaid : Prop := sheetsUnitsUptoRow.holds Tryd.pinned (OpenSpec.upto sheetsUnitsSpec)

/-- 'crimplaw05.SheetsNone', WHERE WHAT IT READS IS OF BULK AT MOST 1048576: true; the input reads as it did. -/
def sheetsNoneUptoRow : OpenClaim := { program := "ytdngmncaohgacaadoor", sum := "aec9b42682691892dd590c3c23f432836d029a83a58cfde7615416d617e46bc1", func := "crimp/crimplaw05.SheetsNone", spec := "sheetsNone", unfollowed := true, recurses := true, named := ["crimp/cells.quarters"], plainKeys := false, apart := false, laid := [("crimp/cells.quarters", laid_crimp_cells_quarters)], narrowed := true }
def SheetsNoneUptoSaid : Prop := sheetsNoneUptoRow.holds Tryd.pinned (OpenSpec.upto sheetsNoneSpec)

/-- 'crimplaw05.SheetsCheck', WHERE WHAT IT READS IS OF BULK AT MOST 1048576: true; the input reads as it did. -/
def sheetsCheckUptoRow : OpenClaim := { program := "ytdngmncaohgacaadoor", sum := "aec9b42682691892dd590c3c23f432836d029a83a58cfde7615416d617e46bc1", func := "crimp/crimplaw05.SheetsCheck", spec := "sheetsCheck", unfollowed := true, recurses := true, named := ["crimp/cells.quarters"], plainKeys := false, apart := false, laid := [("crimp/cells.quarters", laid_crimp_cells_quarters)], narrowed := true }
def SheetsCheckUptoSaid : Prop := sheetsCheckUptoRow.holds Tryd.pinned (OpenSpec.upto sheetsCheckSpec)

/-- 'crimplaw05.SheetsCell', WHERE WHAT IT READS IS OF BULK AT MOST 1048576: true; the input reads as it did. -/
def sheetsCellUptoRow : OpenClaim := { program := "ytdngmncaohgacaadoor", sum := "aec9b42682691892dd590c3c23f432836d029a83a58cfde7615416d617e46bc1", func := "crimp/crimplaw05.SheetsCell", spec := "sheetsCell", unfollowed := true, recurses := true, named := ["crimp/cells.quarters"], plainKeys := false, apart := false, laid := [("crimp/cells.quarters", laid_crimp_cells_quarters)], narrowed := true }
def SheetsCellUptoSaid : Prop := sheetsCellUptoRow.holds Tryd.pinned (OpenSpec.upto sheetsCellSpec)

/-- 'crimplaw05.SheetsKnown', WHERE WHAT IT READS IS OF BULK AT MOST 1048576: true; the input reads as it did. -/
def sheetsKnownUptoRow : OpenClaim := { program := "ytdngmncaohgacaadoor", sum := "aec9b42682691892dd590c3c23f432836d029a83a58cfde7615416d617e46bc1", func := "crimp/crimplaw05.SheetsKnown", spec := "sheetsKnown", unfollowed := true, recurses := true, named := ["crimp/cells.quarters"], plainKeys := false, apart := false, laid := [("crimp/cells.quarters", laid_crimp_cells_quarters)], narrowed := true }
def SheetsKnownUptoSaid : Prop := sheetsKnownUptoRow.holds Tryd.pinned (OpenSpec.upto sheetsKnownSpec)

/-- 'crimplaw03.CellsLine', WHERE WHAT IT READS IS OF BULK AT MOST 1048576: true; the input reads as it did. -/
def cellsLineUptoRow : OpenClaim := { program := "ytdngmncaohgacaadoor", sum := "aec9b42682691892dd590c3c23f432836d029a83a58cfde7615416d617e46bc1", func := "crimp/crimplaw03.CellsLine", spec := "cellsLine", unfollowed := true, recurses := true, named := ["crimp/cells.quarters", "crimp/moves.turns"], plainKeys := false, apart := false, laid := [("crimp/moves.turns", laid_crimp_moves_turns), ("crimp/cells.quarters", laid_crimp_cells_quarters)], narrowed := true }
def CellsLineUptoSaid : Prop := cellsLineUptoRow.holds Tryd.pinned (OpenSpec.upto cellsLineSpec)

/-- 'crimplaw03.CellsNeighbour', WHERE WHAT IT READS IS OF BULK AT MOST 1048576: true; the input reads as it did. -/
def cellsNeighbourUptoRow : OpenClaim := { program := "ytdngmncaohgacaadoor", sum := "aec9b42682691892dd590c3c23f432836d029a83a58cfde7615416d617e46bc1", func := "crimp/crimplaw03.CellsNeighbour", spec := "cellsNeighbour", unfollowed := true, recurses := true, named := ["crimp/cells.quarters", "crimp/moves.turns"], plainKeys := false, apart := false, laid := [("crimp/moves.turns", laid_crimp_moves_turns), ("crimp/cells.quarters", laid_crimp_cells_quarters)], narrowed := true }
def CellsNeighbourUptoSaid : Prop := cellsNeighbourUptoRow.holds Tryd.pinned (OpenSpec.upto cellsNeighbourSpec)

/-- 'crimplaw03.CellsSide', WHERE WHAT IT READS IS OF BULK AT MOST 1048576: true; the input reads as it did. -/
def cellsSideUptoRow : OpenClaim := { program := "ytdngmncaohgacaadoor", sum := "aec9b42682691892dd590c3c23f432836d029a83a58cfde7615416d617e46bc1", func := "crimp/crimplaw03.CellsSide", spec := "cellsSide", unfollowed := true, recurses := true, named := ["crimp/cells.quarters", "crimp/moves.turns"], plainKeys := false, apart := false, laid := [("crimp/moves.turns", laid_crimp_moves_turns), ("crimp/cells.quarters", laid_crimp_cells_quarters)], narrowed := true }
def CellsSideUptoSaid : Prop := cellsSideUptoRow.holds Tryd.pinned (OpenSpec.upto cellsSideSpec)

/-- 'crimplaw03.CellsMove', WHERE WHAT IT READS IS OF BULK AT MOST 1048576: true; the input reads as it did. -/
def cellsMoveUptoRow : OpenClaim := { program := "ytdngmncaohgacaadoor", sum := "aec9b42682691892dd590c3c23f432836d029a83a58cfde7615416d617e46bc1", func := "crimp/crimplaw03.CellsMove", spec := "cellsMove", unfollowed := true, recurses := true, named := ["crimp/cells.quarters", "crimp/moves.turns"], plainKeys := false, apart := false, laid := [("crimp/moves.turns", laid_crimp_moves_turns), ("crimp/cells.quarters", laid_crimp_cells_quarters)], narrowed := true }
def CellsMoveUptoSaid : Prop := cellsMoveUptoRow.holds Tryd.pinned (OpenSpec.upto cellsMoveSpec)

/-- 'crimplaw03.CellsBetween', WHERE WHAT IT READS IS OF BULK AT MOST 1048576: true; the input reads as it did. -/
def cellsBetweenUptoRow : OpenClaim := { program := "ytdngmncaohgacaadoor", sum := "aec9b42682691892dd590c3c23f432836d029a83a58cfde7615416d617e46bc1", func := "crimp/crimplaw03.CellsBetween", spec := "cellsBetween", unfollowed := true, recurses := true, named := ["crimp/moves.turns", "crimp/cells.quarters"], plainKeys := false, apart := false, laid := [("crimp/moves.turns", laid_crimp_moves_turns), ("crimp/cells.quarters", laid_crimp_cells_quarters)], narrowed := true }
def CellsBetweenUptoSaid : Prop := cellsBetweenUptoRow.holds Tryd.pinned (OpenSpec.upto cellsBetweenSpec)

/-- 'crimplaw03.CellsCompare', WHERE WHAT IT READS IS OF BULK AT MOST 1048576: true; the input reads as it did. -/
def cellsCompareUptoRow : OpenClaim := { program := "ytdngmncaohgacaadoor", sum := "aec9b42682691892dd590c3c23f432836d029a83a58cfde7615416d617e46bc1", func := "crimp/crimplaw03.CellsCompare", spec := "cellsCompare", unfollowed := true, recurses := true, named := ["crimp/cells.quarters", "crimp/moves.turns"], plainKeys := false, apart := false, laid := [("crimp/moves.turns", laid_crimp_moves_turns), ("crimp/cells.quarters", laid_crimp_cells_quarters)], narrowed := true }
def CellsCompareUptoSaid : Prop := cellsCompareUptoRow.holds Tryd.pinned (OpenSpec.upto cellsCompareSpec)

/-- 'crimplaw03.CellsWay', WHERE WHAT IT READS IS OF BULK AT MOST 1048576: true; the input reads as it did. -/
def cellsWayUptoRow : OpenClaim := { program := "ytdngmncaohgacaadoor", sum := "aec9b42682691892dd590c3c23f432836d029a83a58cfde7615416d617e46bc1", func := "crimp/crimplaw03.CellsWay", spec := "cellsWay", unfollowed := true, recurses := true, named := ["crimp/cells.quarters", "crimp/moves.turns"], plainKeys := false, apart := false, laid := [("crimp/moves.turns", laid_crimp_moves_turns), ("crimp/cells.quarters", laid_crimp_cells_quarters)], narrowed := true }
def CellsWayUptoSaid : Prop := cellsWayUptoRow.holds Tryd.pinned (OpenSpec.upto cellsWaySpec)

/-- 'crimplaw03.CellsKnown', WHERE WHAT IT READS IS OF BULK AT MOST 1048576: true; the input reads as it did. -/
def cellsKnownUptoRow : OpenClaim := { program := "ytdngmncaohgacaadoor", sum := "aec9b42682691892dd590c3c23f432836d029a83a58cfde7615416d617e46bc1", func := "crimp/crimplaw03.CellsKnown", spec := "cellsKnown", unfollowed := true, recurses := true, named := ["crimp/cells.quarters", "crimp/moves.turns"], plainKeys := false, apart := false, laid := [("crimp/moves.turns", laid_crimp_moves_turns), ("crimp/cells.quarters", laid_crimp_cells_quarters)], narrowed := true }
def CellsKnownUptoSaid : Prop := cellsKnownUptoRow.holds Tryd.pinned (OpenSpec.upto cellsKnownSpec)

end Rows
end Go.Proofs.YtdngmncaohgacaaDoor
