/-
  NARROWER THAN 'FOR EVERY INPUT', by the rows' own cells (each row's printed sentence says how): CornersAround: laid · CornersAll: laid · CornersCreases: laid · CornersBoth: laid · CornersErrors: laid · CornersTurned: laid · CornersKnown: laid.
  DERIVED. THE GIVEN ROWS OF THIS SEAT. 7 by the template 'for every input the law returns true; each argument reads behind the call as it read before'; 0 by the template 'total and deterministic' (their statements: YtdfpmkmlomjonaaGreatDoorTotals.lean).
  GIVEN WITH THE SEED: the statements are not yours to turn. If you find one false, say at which input.
  Laid BY PROGRAM, IN A SANDBOX (cutbox-rows.mjs): the forced cells as the released guide's own fill.sh prints them over the translation c3adf15b329e5f99… (all of the seat's roots in one cut). By AI agents, Wed Nov 11 2026. No macro, syntax, notation, axiom, sorry.
-/
import Derived.Test.YtdfpmkmlomjonaaGreatDoorChecked
import GoSem.Claim
import GoSem.ClaimJoined
import GoSem.ClaimMapViews
import Derived.JoinedTies
import Derived.KernelRfl
namespace Go.Proofs.YtdfpmkmlomjonaaGreatDoor
/- THE CELL 'sum', in the pinned program and in every row, IS THE sha256 OF THE DUMP (.gsa) THAT YtdfpmkmlomjonaaGreatDoorProg.lean LOADS. Nothing in Lean hashes anything: it is a label: what it is worth is what the hold of that sum in a sandbox is worth. -/
noncomputable def Tryz.pinned : Pinned := { name := "ytdfpmkmlomjonaagreatdoor", sum := "c3adf15b329e5f99ab0695f8e5d9c5c3be80ee91f866e518d25a7b1e151b4d2a", checked := Tryz.checked }
namespace Rows
def none {H : Type} : Left H := { results := [], args := [] }

/- WHAT THE LISTED PACKAGE-LEVEL VARIABLES READ AS WHEN THE CALL BEGINS. Each datum BY PROGRAM (the guide's laid-datum.mjs) off the statement by which the dump's own 'gosem.cut.vars' lays the variable. In a bare row this is a premise. The card (YtdfpmkmlomjonaaGreatDoorCards.lean) ties it to the program's text. -/
def laid_crimp_cells_quarters {H : Type} : DataW H := .agg [.agg [.agg [.lit (.int .i64 0), .lit (.int .i64 (-1))], .lit (.int .u8 2), .lit (.int .i64 0), .agg [.agg [.lit (.int .i64 0), .lit (.int .i64 (-1)), .lit (.int .u8 2)], .agg [.lit (.int .i64 0), .lit (.int .i64 0), .lit (.int .u8 1)], .agg [.lit (.int .i64 0), .lit (.int .i64 0), .lit (.int .u8 3)]], .agg [.lit (.int .i64 0), .lit (.int .i64 0)], .agg [.lit (.int .i64 2), .lit (.int .i64 0)]], .agg [.agg [.lit (.int .i64 1), .lit (.int .i64 0)], .lit (.int .u8 1), .lit (.int .i64 1), .agg [.agg [.lit (.int .i64 1), .lit (.int .i64 0), .lit (.int .u8 3)], .agg [.lit (.int .i64 0), .lit (.int .i64 0), .lit (.int .u8 0)], .agg [.lit (.int .i64 0), .lit (.int .i64 0), .lit (.int .u8 2)]], .agg [.lit (.int .i64 2), .lit (.int .i64 2)], .agg [.lit (.int .i64 2), .lit (.int .i64 0)]], .agg [.agg [.lit (.int .i64 0), .lit (.int .i64 1)], .lit (.int .u8 2), .lit (.int .i64 1), .agg [.agg [.lit (.int .i64 0), .lit (.int .i64 1), .lit (.int .u8 0)], .agg [.lit (.int .i64 0), .lit (.int .i64 0), .lit (.int .u8 3)], .agg [.lit (.int .i64 0), .lit (.int .i64 0), .lit (.int .u8 1)]], .agg [.lit (.int .i64 2), .lit (.int .i64 2)], .agg [.lit (.int .i64 0), .lit (.int .i64 2)]], .agg [.agg [.lit (.int .i64 (-1)), .lit (.int .i64 0)], .lit (.int .u8 1), .lit (.int .i64 0), .agg [.agg [.lit (.int .i64 (-1)), .lit (.int .i64 0), .lit (.int .u8 1)], .agg [.lit (.int .i64 0), .lit (.int .i64 0), .lit (.int .u8 2)], .agg [.lit (.int .i64 0), .lit (.int .i64 0), .lit (.int .u8 0)]], .agg [.lit (.int .i64 0), .lit (.int .i64 0)], .agg [.lit (.int .i64 0), .lit (.int .i64 2)]]]
def laid_crimp_corners_ways {H : Type} : DataW H := .agg [.agg [.lit (.int .i64 1), .lit (.int .i64 0)], .agg [.lit (.int .i64 1), .lit (.int .i64 1)], .agg [.lit (.int .i64 0), .lit (.int .i64 1)], .agg [.lit (.int .i64 (-1)), .lit (.int .i64 1)], .agg [.lit (.int .i64 (-1)), .lit (.int .i64 0)], .agg [.lit (.int .i64 (-1)), .lit (.int .i64 (-1))], .agg [.lit (.int .i64 0), .lit (.int .i64 (-1))], .agg [.lit (.int .i64 1), .lit (.int .i64 (-1))]]
def laid_crimp_patterns_others {H : Type} : DataW H := .agg [.lit (.int .u8 0), .lit (.int .u8 2), .lit (.int .u8 1), .lit (.int .u8 3)]

/-- 'crimplaw09.CornersAround': WHATEVER THE INPUT: true; the input reads as it did. -/
def cornersAroundSpec : ChangeSpec := { name := "cornersAround", fn := fun _ => fun
  | [d1, d2] => { results := [.lit (.bool true)], args := [d1, d2] }
  | _ => none }
def cornersAroundRow : OpenClaim := { program := "ytdfpmkmlomjonaagreatdoor", sum := "c3adf15b329e5f99ab0695f8e5d9c5c3be80ee91f866e518d25a7b1e151b4d2a", func := "crimp/crimplaw09.CornersAround", spec := "cornersAround", unfollowed := true, recurses := true, named := ["crimp/cells.quarters", "crimp/corners.ways"], plainKeys := false, apart := false, laid := [("crimp/cells.quarters", laid_crimp_cells_quarters), ("crimp/corners.ways", laid_crimp_corners_ways)] }
def CornersAroundSaid : Prop := cornersAroundRow.holds Tryz.pinned (OpenSpec.ofChange cornersAroundSpec)

/-- ITS FALSE NEIGHBOUR: 'it returns false'. Refute it at one input. -/
def cornersAroundWrong : ChangeSpec := { name := "cornersAround", fn := fun _ => fun
  | [d1, d2] => { results := [.lit (.bool false)], args := [d1, d2] }
  | _ => none }
def CornersAroundWrongFalsely : Prop := cornersAroundRow.holds Tryz.pinned (OpenSpec.ofChange cornersAroundWrong)

/-- 'crimplaw09.CornersAll': WHATEVER THE INPUT: true; the input reads as it did. -/
def cornersAllSpec : ChangeSpec := { name := "cornersAll", fn := fun _ => fun
  | [d1, d2] => { results := [.lit (.bool true)], args := [d1, d2] }
  | _ => none }
def cornersAllRow : OpenClaim := { program := "ytdfpmkmlomjonaagreatdoor", sum := "c3adf15b329e5f99ab0695f8e5d9c5c3be80ee91f866e518d25a7b1e151b4d2a", func := "crimp/crimplaw09.CornersAll", spec := "cornersAll", unfollowed := true, recurses := true, named := ["crimp/cells.quarters", "crimp/corners.ways"], plainKeys := false, apart := false, laid := [("crimp/cells.quarters", laid_crimp_cells_quarters), ("crimp/corners.ways", laid_crimp_corners_ways)] }
def CornersAllSaid : Prop := cornersAllRow.holds Tryz.pinned (OpenSpec.ofChange cornersAllSpec)

/-- ITS FALSE NEIGHBOUR: 'it returns false'. Refute it at one input. -/
def cornersAllWrong : ChangeSpec := { name := "cornersAll", fn := fun _ => fun
  | [d1, d2] => { results := [.lit (.bool false)], args := [d1, d2] }
  | _ => none }
def CornersAllWrongFalsely : Prop := cornersAllRow.holds Tryz.pinned (OpenSpec.ofChange cornersAllWrong)

/-- 'crimplaw09.CornersCreases': WHATEVER THE INPUT: true; the input reads as it did. -/
def cornersCreasesSpec : ChangeSpec := { name := "cornersCreases", fn := fun _ => fun
  | [d1, d2] => { results := [.lit (.bool true)], args := [d1, d2] }
  | _ => none }
def cornersCreasesRow : OpenClaim := { program := "ytdfpmkmlomjonaagreatdoor", sum := "c3adf15b329e5f99ab0695f8e5d9c5c3be80ee91f866e518d25a7b1e151b4d2a", func := "crimp/crimplaw09.CornersCreases", spec := "cornersCreases", unfollowed := true, recurses := true, named := ["crimp/cells.quarters", "crimp/corners.ways"], plainKeys := false, apart := false, laid := [("crimp/cells.quarters", laid_crimp_cells_quarters), ("crimp/corners.ways", laid_crimp_corners_ways)] }
def CornersCreasesSaid : Prop := cornersCreasesRow.holds Tryz.pinned (OpenSpec.ofChange cornersCreasesSpec)

/-- ITS FALSE NEIGHBOUR: 'it returns false'. Refute it at one input. -/
def cornersCreasesWrong : ChangeSpec := { name := "cornersCreases", fn := fun _ => fun
  | [d1, d2] => { results := [.lit (.bool false)], args := [d1, d2] }
  | _ => none }
def CornersCreasesWrongFalsely : Prop := cornersCreasesRow.holds Tryz.pinned (OpenSpec.ofChange cornersCreasesWrong)

/-- 'crimplaw09.CornersBoth': WHATEVER THE INPUT: true; the input reads as it did. -/
def cornersBothSpec : ChangeSpec := { name := "cornersBoth", fn := fun _ => fun
  | [d] => { results := [.lit (.bool true)], args := [d] }
  | _ => none }
def cornersBothRow : OpenClaim := { program := "ytdfpmkmlomjonaagreatdoor", sum := "c3adf15b329e5f99ab0695f8e5d9c5c3be80ee91f866e518d25a7b1e151b4d2a", func := "crimp/crimplaw09.CornersBoth", spec := "cornersBoth", unfollowed := true, recurses := true, named := ["crimp/cells.quarters", "crimp/corners.ways"], plainKeys := false, apart := false, laid := [("crimp/cells.quarters", laid_crimp_cells_quarters), ("crimp/corners.ways", laid_crimp_corners_ways)] }
def CornersBothSaid : Prop := cornersBothRow.holds Tryz.pinned (OpenSpec.ofChange cornersBothSpec)

/-- ITS FALSE NEIGHBOUR: 'it returns false'. Refute it at one input. -/
def cornersBothWrong : ChangeSpec := { name := "cornersBoth", fn := fun _ => fun
  | [d] => { results := [.lit (.bool false)], args := [d] }
  | _ => none }
def CornersBothWrongFalsely : Prop := cornersBothRow.holds Tryz.pinned (OpenSpec.ofChange cornersBothWrong)

/-- 'crimplaw09.CornersErrors': WHATEVER THE INPUT: true; the input reads as it did. -/
def cornersErrorsSpec : ChangeSpec := { name := "cornersErrors", fn := fun _ => fun
  | [d1, d2] => { results := [.lit (.bool true)], args := [d1, d2] }
  | _ => none }
def cornersErrorsRow : OpenClaim := { program := "ytdfpmkmlomjonaagreatdoor", sum := "c3adf15b329e5f99ab0695f8e5d9c5c3be80ee91f866e518d25a7b1e151b4d2a", func := "crimp/crimplaw09.CornersErrors", spec := "cornersErrors", unfollowed := true, recurses := true, named := ["crimp/cells.quarters", "crimp/corners.ways"], plainKeys := false, apart := false, laid := [("crimp/cells.quarters", laid_crimp_cells_quarters), ("crimp/corners.ways", laid_crimp_corners_ways)] }
def CornersErrorsSaid : Prop := cornersErrorsRow.holds Tryz.pinned (OpenSpec.ofChange cornersErrorsSpec)

/-- ITS FALSE NEIGHBOUR: 'it returns false'. Refute it at one input. -/
def cornersErrorsWrong : ChangeSpec := { name := "cornersErrors", fn := fun _ => fun
  | [d1, d2] => { results := [.lit (.bool false)], args := [d1, d2] }
  | _ => none }
def CornersErrorsWrongFalsely : Prop := cornersErrorsRow.holds Tryz.pinned (OpenSpec.ofChange cornersErrorsWrong)

/-- 'crimplaw09.CornersTurned': WHATEVER THE INPUT: true; the input reads as it did. -/
def cornersTurnedSpec : ChangeSpec := { name := "cornersTurned", fn := fun _ => fun
  | [d1, d2] => { results := [.lit (.bool true)], args := [d1, d2] }
  | _ => none }
def cornersTurnedRow : OpenClaim := { program := "ytdfpmkmlomjonaagreatdoor", sum := "c3adf15b329e5f99ab0695f8e5d9c5c3be80ee91f866e518d25a7b1e151b4d2a", func := "crimp/crimplaw09.CornersTurned", spec := "cornersTurned", unfollowed := true, recurses := true, named := ["crimp/patterns.others", "crimp/cells.quarters", "crimp/corners.ways"], plainKeys := false, apart := false, laid := [("crimp/cells.quarters", laid_crimp_cells_quarters), ("crimp/patterns.others", laid_crimp_patterns_others), ("crimp/corners.ways", laid_crimp_corners_ways)] }
def CornersTurnedSaid : Prop := cornersTurnedRow.holds Tryz.pinned (OpenSpec.ofChange cornersTurnedSpec)

/-- ITS FALSE NEIGHBOUR: 'it returns false'. Refute it at one input. -/
def cornersTurnedWrong : ChangeSpec := { name := "cornersTurned", fn := fun _ => fun
  | [d1, d2] => { results := [.lit (.bool false)], args := [d1, d2] }
  | _ => none }
def CornersTurnedWrongFalsely : Prop := cornersTurnedRow.holds Tryz.pinned (OpenSpec.ofChange cornersTurnedWrong)

/-- 'crimplaw09.CornersKnown': WHATEVER THE INPUT: true; the input reads as it did. -/
def cornersKnownSpec : ChangeSpec := { name := "cornersKnown", fn := fun _ => fun
  | [] => { results := [.lit (.bool true)], args := [] }
  | _ => none }
def cornersKnownRow : OpenClaim := { program := "ytdfpmkmlomjonaagreatdoor", sum := "c3adf15b329e5f99ab0695f8e5d9c5c3be80ee91f866e518d25a7b1e151b4d2a", func := "crimp/crimplaw09.CornersKnown", spec := "cornersKnown", unfollowed := true, recurses := true, named := ["crimp/cells.quarters", "crimp/corners.ways", "crimp/patterns.others"], plainKeys := false, apart := false, laid := [("crimp/cells.quarters", laid_crimp_cells_quarters), ("crimp/patterns.others", laid_crimp_patterns_others), ("crimp/corners.ways", laid_crimp_corners_ways)] }
def CornersKnownSaid : Prop := cornersKnownRow.holds Tryz.pinned (OpenSpec.ofChange cornersKnownSpec)

/-- ITS FALSE NEIGHBOUR: 'it returns false'. Refute it at one input. -/
def cornersKnownWrong : ChangeSpec := { name := "cornersKnown", fn := fun _ => fun
  | [] => { results := [.lit (.bool false)], args := [] }
  | _ => none }
def CornersKnownWrongFalsely : Prop := cornersKnownRow.holds Tryz.pinned (OpenSpec.ofChange cornersKnownWrong)

/- THE SECOND FORM. 'bulk': how many values and letters a reading holds, each counted each time it is reached (what is shared counts as often as it is met; a slice's spare places count too). A statement '..UptoSaid' is the law's where the arguments, and the package variables that the reading takes, are together of bulk at most 1048576: NARROWER than '..Said'. Prove '..Said' where nothing that the law and all that it calls make is longer than what came in: it says more and counts as full. Else prove '..UptoSaid'. A law counts once. -/
mutual
def uptoBulk {H : Type} : DataW H → Nat
  | .lit (.string bytes) => bytes.length + 1
  | .lit _ => 1
  | .nil => 1
  | .ptr d => uptoBulk d + 1
  | .slice elems spare => uptoBulkAll elems + uptoBulkAll spare + 1
  | .agg parts => uptoBulkAll parts + 1
  | .iface _ d => uptoBulk d + 1
  | .map entries => uptoBulkEntries entries + 1
  | .held _ => 1
def uptoBulkAll {H : Type} : List (DataW H) → Nat
  | [] => 0
  | d :: r => uptoBulk d + uptoBulkAll r
def uptoBulkEntries {H : Type} : List (Lit × DataW H) → Nat
  | [] => 0
  | x :: r => uptoBulkEntry x + uptoBulkEntries r
def uptoBulkEntry {H : Type} : Lit × DataW H → Nat
  | (.string bytes, d) => bytes.length + uptoBulk d + 1
  | (_, d) => uptoBulk d + 1
 end
def uptoSmall : (H : Type) → List (DataW H) → Bool := fun _ ds => decide (uptoBulkAll ds ≤ 1048576)
def OpenSpec.upto (s : _root_.Go.ChangeSpec) : _root_.Go.OpenSpec := { _root_.Go.OpenSpec.ofChange s with cond := some uptoSmall }

/-- 'crimplaw09.CornersAround', WHERE WHAT IT READS IS OF BULK AT MOST 1048576: true; the input reads as it did. -/
def cornersAroundUptoRow : OpenClaim := { program := "ytdfpmkmlomjonaagreatdoor", sum := "c3adf15b329e5f99ab0695f8e5d9c5c3be80ee91f866e518d25a7b1e151b4d2a", func := "crimp/crimplaw09.CornersAround", spec := "cornersAround", unfollowed := true, recurses := true, named := ["crimp/cells.quarters", "crimp/corners.ways"], plainKeys := false, apart := false, laid := [("crimp/cells.quarters", laid_crimp_cells_quarters), ("crimp/corners.ways", laid_crimp_corners_ways)], narrowed := true }
def CornersAroundUptoSaid : Prop := cornersAroundUptoRow.holds Tryz.pinned (OpenSpec.upto cornersAroundSpec)

/-- 'crimplaw09.CornersAll', WHERE WHAT IT READS IS OF BULK AT MOST 1048576: true; the input reads as it did. -/
def cornersAllUptoRow : OpenClaim := { program := "ytdfpmkmlomjonaagreatdoor", sum := "c3adf15b329e5f99ab0695f8e5d9c5c3be80ee91f866e518d25a7b1e151b4d2a", func := "crimp/crimplaw09.CornersAll", spec := "cornersAll", unfollowed := true, recurses := true, named := ["crimp/cells.quarters", "crimp/corners.ways"], plainKeys := false, apart := false, laid := [("crimp/cells.quarters", laid_crimp_cells_quarters), ("crimp/corners.ways", laid_crimp_corners_ways)], narrowed := true }
def CornersAllUptoSaid : Prop := cornersAllUptoRow.holds Tryz.pinned (OpenSpec.upto cornersAllSpec)

/-- 'crimplaw09.CornersCreases', WHERE WHAT IT READS IS OF BULK AT MOST 1048576: true; the input reads as it did. -/
def cornersCreasesUptoRow : OpenClaim := { program := "ytdfpmkmlomjonaagreatdoor", sum := "c3adf15b329e5f99ab0695f8e5d9c5c3be80ee91f866e518d25a7b1e151b4d2a", func := "crimp/crimplaw09.CornersCreases", spec := "cornersCreases", unfollowed := true, recurses := true, named := ["crimp/cells.quarters", "crimp/corners.ways"], plainKeys := false, apart := false, laid := [("crimp/cells.quarters", laid_crimp_cells_quarters), ("crimp/corners.ways", laid_crimp_corners_ways)], narrowed := true }
def CornersCreasesUptoSaid : Prop := cornersCreasesUptoRow.holds Tryz.pinned (OpenSpec.upto cornersCreasesSpec)

/-- 'crimplaw09.CornersBoth', WHERE WHAT IT READS IS OF BULK AT MOST 1048576: true; the input reads as it did. -/
def cornersBothUptoRow : OpenClaim := { program := "ytdfpmkmlomjonaagreatdoor", sum := "c3adf15b329e5f99ab0695f8e5d9c5c3be80ee91f866e518d25a7b1e151b4d2a", func := "crimp/crimplaw09.CornersBoth", spec := "cornersBoth", unfollowed := true, recurses := true, named := ["crimp/cells.quarters", "crimp/corners.ways"], plainKeys := false, apart := false, laid := [("crimp/cells.quarters", laid_crimp_cells_quarters), ("crimp/corners.ways", laid_crimp_corners_ways)], narrowed := true }
def CornersBothUptoSaid : Prop := cornersBothUptoRow.holds Tryz.pinned (OpenSpec.upto cornersBothSpec)

/-- 'crimplaw09.CornersErrors', WHERE WHAT IT READS IS OF BULK AT MOST 1048576: true; the input reads as it did. -/
def cornersErrorsUptoRow : OpenClaim := { program := "ytdfpmkmlomjonaagreatdoor", sum := "c3adf15b329e5f99ab0695f8e5d9c5c3be80ee91f866e518d25a7b1e151b4d2a", func := "crimp/crimplaw09.CornersErrors", spec := "cornersErrors", unfollowed := true, recurses := true, named := ["crimp/cells.quarters", "crimp/corners.ways"], plainKeys := false, apart := false, laid := [("crimp/cells.quarters", laid_crimp_cells_quarters), ("crimp/corners.ways", laid_crimp_corners_ways)], narrowed := true }
def CornersErrorsUptoSaid : Prop := cornersErrorsUptoRow.holds Tryz.pinned (OpenSpec.upto cornersErrorsSpec)

/-- 'crimplaw09.CornersTurned', WHERE WHAT IT READS IS OF BULK AT MOST 1048576: true; the input reads as it did. -/
def cornersTurnedUptoRow : OpenClaim := { program := "ytdfpmkmlomjonaagreatdoor", sum := "c3adf15b329e5f99ab0695f8e5d9c5c3be80ee91f866e518d25a7b1e151b4d2a", func := "crimp/crimplaw09.CornersTurned", spec := "cornersTurned", unfollowed := true, recurses := true, named := ["crimp/patterns.others", "crimp/cells.quarters", "crimp/corners.ways"], plainKeys := false, apart := false, laid := [("crimp/cells.quarters", laid_crimp_cells_quarters), ("crimp/patterns.others", laid_crimp_patterns_others), ("crimp/corners.ways", laid_crimp_corners_ways)], narrowed := true }
def CornersTurnedUptoSaid : Prop := cornersTurnedUptoRow.holds Tryz.pinned (OpenSpec.upto cornersTurnedSpec)

/-- 'crimplaw09.CornersKnown', WHERE WHAT IT READS IS OF BULK AT MOST 1048576: true; the input reads as it did. -/
def cornersKnownUptoRow : OpenClaim := { program := "ytdfpmkmlomjonaagreatdoor", sum := "c3adf15b329e5f99ab0695f8e5d9c5c3be80ee91f866e518d25a7b1e151b4d2a", func := "crimp/crimplaw09.CornersKnown", spec := "cornersKnown", unfollowed := true, recurses := true, named := ["crimp/cells.quarters", "crimp/corners.ways", "crimp/patterns.others"], plainKeys := false, apart := false, laid := [("crimp/cells.quarters", laid_crimp_cells_quarters), ("crimp/patterns.others", laid_crimp_patterns_others), ("crimp/corners.ways", laid_crimp_corners_ways)], narrowed := true }
def CornersKnownUptoSaid : Prop := cornersKnownUptoRow.holds Tryz.pinned (OpenSpec.upto cornersKnownSpec)

end Rows
end Go.Proofs.YtdfpmkmlomjonaaGreatDoor
