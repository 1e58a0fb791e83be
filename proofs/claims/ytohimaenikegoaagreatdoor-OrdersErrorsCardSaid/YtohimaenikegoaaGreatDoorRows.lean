/-
  NARROWER THAN 'FOR EVERY INPUT', by the rows' own cells (each row's printed sentence says how): OrdersAll: laid · OrdersAny: laid · OrdersErrors: laid · OrdersRoot: laid · OrdersFolded: laid.
  DERIVED. THE GIVEN ROWS OF THIS SEAT. 5 by the template 'for every input the law returns true; each argument reads behind the call as it read before'; 0 by the template 'total and deterministic' (their statements: YtohimaenikegoaaGreatDoorTotals.lean).
  GIVEN WITH THE SEED: the statements are not yours to turn. If you find one false, say at which input.
  Laid BY PROGRAM, IN A SANDBOX (cutbox-rows.mjs): the forced cells as the released guide's own fill.sh prints them over the translation 07ae7cbe611ab49e… (all of the seat's roots in one cut). By AI agents, Wed Nov 11 2026. No macro, syntax, notation, axiom, sorry.
-/
import Derived.Test.YtohimaenikegoaaGreatDoorChecked
import GoSem.Claim
import GoSem.ClaimJoined
import GoSem.ClaimMapViews
import Derived.JoinedTies
import Derived.KernelRfl
namespace Go.Proofs.YtohimaenikegoaaGreatDoor
/- THE CELL 'sum', in the pinned program and in every row, IS THE sha256 OF THE DUMP (.gsa) THAT YtohimaenikegoaaGreatDoorProg.lean LOADS. Nothing in Lean hashes anything: it is a label: what it is worth is what the hold of that sum in a sandbox is worth. -/
noncomputable def Tryz.pinned : Pinned := { name := "ytohimaenikegoaagreatdoor", sum := "07ae7cbe611ab49ea3b3fc41651204df69b4d0971d7104a470b0db83d6c6ac3a", checked := Tryz.checked }
namespace Rows
def none {H : Type} : Left H := { results := [], args := [] }

/- WHAT THE LISTED PACKAGE-LEVEL VARIABLES READ AS WHEN THE CALL BEGINS. Each datum BY PROGRAM (the guide's laid-datum.mjs) off the statement by which the dump's own 'gosem.cut.vars' lays the variable. In a bare row this is a premise. The card (YtohimaenikegoaaGreatDoorCards.lean) ties it to the program's text. -/
def laid_crimp_moves_turns {H : Type} : DataW H := .agg [.agg [.lit (.int .i64 1), .lit (.int .i64 0), .lit (.int .i64 0), .lit (.int .i64 1)], .agg [.lit (.int .i64 0), .lit (.int .i64 (-1)), .lit (.int .i64 1), .lit (.int .i64 0)], .agg [.lit (.int .i64 (-1)), .lit (.int .i64 0), .lit (.int .i64 0), .lit (.int .i64 (-1))], .agg [.lit (.int .i64 0), .lit (.int .i64 1), .lit (.int .i64 (-1)), .lit (.int .i64 0)], .agg [.lit (.int .i64 (-1)), .lit (.int .i64 0), .lit (.int .i64 0), .lit (.int .i64 1)], .agg [.lit (.int .i64 0), .lit (.int .i64 (-1)), .lit (.int .i64 (-1)), .lit (.int .i64 0)], .agg [.lit (.int .i64 1), .lit (.int .i64 0), .lit (.int .i64 0), .lit (.int .i64 (-1))], .agg [.lit (.int .i64 0), .lit (.int .i64 1), .lit (.int .i64 1), .lit (.int .i64 0)]]
def laid_crimp_cells_quarters {H : Type} : DataW H := .agg [.agg [.agg [.lit (.int .i64 0), .lit (.int .i64 (-1))], .lit (.int .u8 2), .lit (.int .i64 0), .agg [.agg [.lit (.int .i64 0), .lit (.int .i64 (-1)), .lit (.int .u8 2)], .agg [.lit (.int .i64 0), .lit (.int .i64 0), .lit (.int .u8 1)], .agg [.lit (.int .i64 0), .lit (.int .i64 0), .lit (.int .u8 3)]], .agg [.lit (.int .i64 0), .lit (.int .i64 0)], .agg [.lit (.int .i64 2), .lit (.int .i64 0)]], .agg [.agg [.lit (.int .i64 1), .lit (.int .i64 0)], .lit (.int .u8 1), .lit (.int .i64 1), .agg [.agg [.lit (.int .i64 1), .lit (.int .i64 0), .lit (.int .u8 3)], .agg [.lit (.int .i64 0), .lit (.int .i64 0), .lit (.int .u8 0)], .agg [.lit (.int .i64 0), .lit (.int .i64 0), .lit (.int .u8 2)]], .agg [.lit (.int .i64 2), .lit (.int .i64 2)], .agg [.lit (.int .i64 2), .lit (.int .i64 0)]], .agg [.agg [.lit (.int .i64 0), .lit (.int .i64 1)], .lit (.int .u8 2), .lit (.int .i64 1), .agg [.agg [.lit (.int .i64 0), .lit (.int .i64 1), .lit (.int .u8 0)], .agg [.lit (.int .i64 0), .lit (.int .i64 0), .lit (.int .u8 3)], .agg [.lit (.int .i64 0), .lit (.int .i64 0), .lit (.int .u8 1)]], .agg [.lit (.int .i64 2), .lit (.int .i64 2)], .agg [.lit (.int .i64 0), .lit (.int .i64 2)]], .agg [.agg [.lit (.int .i64 (-1)), .lit (.int .i64 0)], .lit (.int .u8 1), .lit (.int .i64 0), .agg [.agg [.lit (.int .i64 (-1)), .lit (.int .i64 0), .lit (.int .u8 1)], .agg [.lit (.int .i64 0), .lit (.int .i64 0), .lit (.int .u8 2)], .agg [.lit (.int .i64 0), .lit (.int .i64 0), .lit (.int .u8 0)]], .agg [.lit (.int .i64 0), .lit (.int .i64 0)], .agg [.lit (.int .i64 0), .lit (.int .i64 2)]]]
def laid_crimp_patterns_others {H : Type} : DataW H := .agg [.lit (.int .u8 0), .lit (.int .u8 2), .lit (.int .u8 1), .lit (.int .u8 3)]

/-- 'crimplaw26.OrdersAll': WHATEVER THE INPUT: true; the input reads as it did. -/
def ordersAllSpec : ChangeSpec := { name := "ordersAll", fn := fun _ => fun
  | [d] => { results := [.lit (.bool true)], args := [d] }
  | _ => none }
def ordersAllRow : OpenClaim := { program := "ytohimaenikegoaagreatdoor", sum := "07ae7cbe611ab49ea3b3fc41651204df69b4d0971d7104a470b0db83d6c6ac3a", func := "crimp/crimplaw26.OrdersAll", spec := "ordersAll", unfollowed := true, recurses := true, named := ["crimp/cells.quarters", "crimp/moves.turns"], plainKeys := false, apart := false, laid := [("crimp/moves.turns", laid_crimp_moves_turns), ("crimp/cells.quarters", laid_crimp_cells_quarters)] }
def OrdersAllSaid : Prop := ordersAllRow.holds Tryz.pinned (OpenSpec.ofChange ordersAllSpec)

/-- ITS FALSE NEIGHBOUR: 'it returns false'. Refute it at one input. -/
def ordersAllWrong : ChangeSpec := { name := "ordersAll", fn := fun _ => fun
  | [d] => { results := [.lit (.bool false)], args := [d] }
  | _ => none }
def OrdersAllWrongFalsely : Prop := ordersAllRow.holds Tryz.pinned (OpenSpec.ofChange ordersAllWrong)

/-- 'crimplaw26.OrdersAny': WHATEVER THE INPUT: true; the input reads as it did. -/
def ordersAnySpec : ChangeSpec := { name := "ordersAny", fn := fun _ => fun
  | [d] => { results := [.lit (.bool true)], args := [d] }
  | _ => none }
def ordersAnyRow : OpenClaim := { program := "ytohimaenikegoaagreatdoor", sum := "07ae7cbe611ab49ea3b3fc41651204df69b4d0971d7104a470b0db83d6c6ac3a", func := "crimp/crimplaw26.OrdersAny", spec := "ordersAny", unfollowed := true, recurses := true, named := ["crimp/cells.quarters", "crimp/moves.turns"], plainKeys := false, apart := false, laid := [("crimp/moves.turns", laid_crimp_moves_turns), ("crimp/cells.quarters", laid_crimp_cells_quarters)] }
def OrdersAnySaid : Prop := ordersAnyRow.holds Tryz.pinned (OpenSpec.ofChange ordersAnySpec)

/-- ITS FALSE NEIGHBOUR: 'it returns false'. Refute it at one input. -/
def ordersAnyWrong : ChangeSpec := { name := "ordersAny", fn := fun _ => fun
  | [d] => { results := [.lit (.bool false)], args := [d] }
  | _ => none }
def OrdersAnyWrongFalsely : Prop := ordersAnyRow.holds Tryz.pinned (OpenSpec.ofChange ordersAnyWrong)

/-- 'crimplaw26.OrdersErrors': WHATEVER THE INPUT: true; the input reads as it did. -/
def ordersErrorsSpec : ChangeSpec := { name := "ordersErrors", fn := fun _ => fun
  | [d1, d2, d3] => { results := [.lit (.bool true)], args := [d1, d2, d3] }
  | _ => none }
def ordersErrorsRow : OpenClaim := { program := "ytohimaenikegoaagreatdoor", sum := "07ae7cbe611ab49ea3b3fc41651204df69b4d0971d7104a470b0db83d6c6ac3a", func := "crimp/crimplaw26.OrdersErrors", spec := "ordersErrors", unfollowed := true, recurses := true, named := ["crimp/cells.quarters", "crimp/moves.turns"], plainKeys := false, apart := false, laid := [("crimp/moves.turns", laid_crimp_moves_turns), ("crimp/cells.quarters", laid_crimp_cells_quarters)] }
def OrdersErrorsSaid : Prop := ordersErrorsRow.holds Tryz.pinned (OpenSpec.ofChange ordersErrorsSpec)

/-- ITS FALSE NEIGHBOUR: 'it returns false'. Refute it at one input. -/
def ordersErrorsWrong : ChangeSpec := { name := "ordersErrors", fn := fun _ => fun
  | [d1, d2, d3] => { results := [.lit (.bool false)], args := [d1, d2, d3] }
  | _ => none }
def OrdersErrorsWrongFalsely : Prop := ordersErrorsRow.holds Tryz.pinned (OpenSpec.ofChange ordersErrorsWrong)

/-- 'crimplaw26.OrdersRoot': WHATEVER THE INPUT: true; the input reads as it did. -/
def ordersRootSpec : ChangeSpec := { name := "ordersRoot", fn := fun _ => fun
  | [d1, d2] => { results := [.lit (.bool true)], args := [d1, d2] }
  | _ => none }
def ordersRootRow : OpenClaim := { program := "ytohimaenikegoaagreatdoor", sum := "07ae7cbe611ab49ea3b3fc41651204df69b4d0971d7104a470b0db83d6c6ac3a", func := "crimp/crimplaw26.OrdersRoot", spec := "ordersRoot", unfollowed := true, recurses := true, named := ["crimp/cells.quarters", "crimp/moves.turns", "crimp/patterns.others"], plainKeys := false, apart := false, laid := [("crimp/moves.turns", laid_crimp_moves_turns), ("crimp/cells.quarters", laid_crimp_cells_quarters), ("crimp/patterns.others", laid_crimp_patterns_others)] }
def OrdersRootSaid : Prop := ordersRootRow.holds Tryz.pinned (OpenSpec.ofChange ordersRootSpec)

/-- ITS FALSE NEIGHBOUR: 'it returns false'. Refute it at one input. -/
def ordersRootWrong : ChangeSpec := { name := "ordersRoot", fn := fun _ => fun
  | [d1, d2] => { results := [.lit (.bool false)], args := [d1, d2] }
  | _ => none }
def OrdersRootWrongFalsely : Prop := ordersRootRow.holds Tryz.pinned (OpenSpec.ofChange ordersRootWrong)

/-- 'crimplaw26.OrdersFolded': WHATEVER THE INPUT: true; the input reads as it did. -/
def ordersFoldedSpec : ChangeSpec := { name := "ordersFolded", fn := fun _ => fun
  | [d] => { results := [.lit (.bool true)], args := [d] }
  | _ => none }
def ordersFoldedRow : OpenClaim := { program := "ytohimaenikegoaagreatdoor", sum := "07ae7cbe611ab49ea3b3fc41651204df69b4d0971d7104a470b0db83d6c6ac3a", func := "crimp/crimplaw26.OrdersFolded", spec := "ordersFolded", unfollowed := true, recurses := true, named := ["crimp/cells.quarters", "crimp/moves.turns"], plainKeys := false, apart := false, laid := [("crimp/moves.turns", laid_crimp_moves_turns), ("crimp/cells.quarters", laid_crimp_cells_quarters)] }
def OrdersFoldedSaid : Prop := ordersFoldedRow.holds Tryz.pinned (OpenSpec.ofChange ordersFoldedSpec)

/-- ITS FALSE NEIGHBOUR: 'it returns false'. Refute it at one input. -/
def ordersFoldedWrong : ChangeSpec := { name := "ordersFolded", fn := fun _ => fun
  | [d] => { results := [.lit (.bool false)], args := [d] }
  | _ => none }
def OrdersFoldedWrongFalsely : Prop := ordersFoldedRow.holds Tryz.pinned (OpenSpec.ofChange ordersFoldedWrong)

/- THE SECOND FORM. 'bulk': how many values and letters a reading holds, each counted each time it is reached (what is shared counts as often as it is met; a slice's spare places count too). A statement '..UptoSaid' is the law's where the arguments, and the package variables that the reading takes, are together of bulk at most 1048576: NARROWER than '..Said'. Prove '..Said' where nothing that the law and all that it calls make is longer than what came in: it says more and counts as full. Else prove '..UptoSaid'. A law counts once. -/
mutual
def uptoBulk {H : Type} : DataW H → Nat
  | .lit (.string bytes) => bytes.length + 1
  | .lit _ => 1
  | .nil => 1
  | .ptr d => uptoBulk d + 1
  | .slice elems spare => uptoBulkAll elems + uptoBulkAll spare + 1
  | .agg parts => uptoBulkAll parts + 1
  | .iface _ d => uptoBulk d + 1
  | .map entries => uptoBulkEntries entries + 1
  | .held _ => 1
def uptoBulkAll {H : Type} : List (DataW H) → Nat
  | [] => 0
  | d :: r => uptoBulk d + uptoBulkAll r
def uptoBulkEntries {H : Type} : List (Lit × DataW H) → Nat
  | [] => 0
  | x :: r => uptoBulkEntry x + uptoBulkEntries r
def uptoBulkEntry {H : Type} : Lit × DataW H → Nat
  | (.string bytes, d) => bytes.length + uptoBulk d + 1
  | (_, d) => uptoBulk d + 1
 end
def uptoSmall : (H : Type) → List (DataW H) → Bool := fun _ ds => decide (uptoBulkAll ds ≤ 1048576)
def OpenSpec.upto (s : _root_.Go.ChangeSpec) : _root_.Go.OpenSpec := { _root_.Go.OpenSpec.ofChange s with cond := some uptoSmall }

/-- 'crimplaw26.OrdersAll', WHERE WHAT IT READS IS OF BULK AT MOST 1048576: true; the input reads as it did. -/
def ordersAllUptoRow : OpenClaim := { program := "ytohimaenikegoaagreatdoor", sum := "07ae7cbe611ab49ea3b3fc41651204df69b4d0971d7104a470b0db83d6c6ac3a", func := "crimp/crimplaw26.OrdersAll", spec := "ordersAll", unfollowed := true, recurses := true, named := ["crimp/cells.quarters", "crimp/moves.turns"], plainKeys := false, apart := false, laid := [("crimp/moves.turns", laid_crimp_moves_turns), ("crimp/cells.quarters", laid_crimp_cells_quarters)], narrowed := true }
def OrdersAllUptoSaid : Prop := ordersAllUptoRow.holds Tryz.pinned (OpenSpec.upto ordersAllSpec)

/-- 'crimplaw26.OrdersAny', WHERE WHAT IT READS IS OF BULK AT MOST 1048576: true; the input reads as it did. -/
def ordersAnyUptoRow : OpenClaim := { program := "ytohimaenikegoaagreatdoor", sum := "07ae7cbe611ab49ea3b3fc41651204df69b4d0971d7104a470b0db83d6c6ac3a", func := "crimp/crimplaw26.OrdersAny", spec := "ordersAny", unfollowed := true, recurses := true, named := ["crimp/cells.quarters", "crimp/moves.turns"], plainKeys := false, apart := false, laid := [("crimp/moves.turns", laid_crimp_moves_turns), ("crimp/cells.quarters", laid_crimp_cells_quarters)], narrowed := true }
def OrdersAnyUptoSaid : Prop := ordersAnyUptoRow.holds Tryz.pinned (OpenSpec.upto ordersAnySpec)

/-- 'crimplaw26.OrdersErrors', WHERE WHAT IT READS IS OF BULK AT MOST 1048576: true; the input reads as it did. -/
def ordersErrorsUptoRow : OpenClaim := { program := "ytohimaenikegoaagreatdoor", sum := "07ae7cbe611ab49ea3b3fc41651204df69b4d0971d7104a470b0db83d6c6ac3a", func := "crimp/crimplaw26.OrdersErrors", spec := "ordersErrors", unfollowed := true, recurses := true, named := ["crimp/cells.quarters", "crimp/moves.turns"], plainKeys := false, apart := false, laid := [("crimp/moves.turns", laid_crimp_moves_turns), ("crimp/cells.quarters", laid_crimp_cells_quarters)], narrowed := true }
def OrdersErrorsUptoSaid : Prop := ordersErrorsUptoRow.holds Tryz.pinned (OpenSpec.upto ordersErrorsSpec)

/-- 'crimplaw26.OrdersRoot', WHERE WHAT IT READS IS OF BULK AT MOST 1048576: true; the input reads as it did. -/
def ordersRootUptoRow : OpenClaim := { program := "ytohimaenikegoaagreatdoor", sum := "07ae7cbe611ab49ea3b3fc41651204df69b4d0971d7104a470b0db83d6c6ac3a", func := "crimp/crimplaw26.OrdersRoot", spec := "ordersRoot", unfollowed := true, recurses := true, named := ["crimp/cells.quarters", "crimp/moves.turns", "crimp/patterns.others"], plainKeys := false, apart := false, laid := [("crimp/moves.turns", laid_crimp_moves_turns), ("crimp/cells.quarters", laid_crimp_cells_quarters), ("crimp/patterns.others", laid_crimp_patterns_others)], narrowed := true }
def OrdersRootUptoSaid : Prop := ordersRootUptoRow.holds Tryz.pinned (OpenSpec.upto ordersRootSpec)

/-- 'crimplaw26.OrdersFolded', WHERE WHAT IT READS IS OF BULK AT MOST 1048576: true; the input reads as it did. -/
def ordersFoldedUptoRow : OpenClaim := { program := "ytohimaenikegoaagreatdoor", sum := "07ae7cbe611ab49ea3b3fc41651204df69b4d0971d7104a470b0db83d6c6ac3a", func := "crimp/crimplaw26.OrdersFolded", spec := "ordersFolded", unfollowed := true, recurses := true, named := ["crimp/cells.quarters", "crimp/moves.turns"], plainKeys := false, apart := false, laid := [("crimp/moves.turns", laid_crimp_moves_turns), ("crimp/cells.quarters", laid_crimp_cells_quarters)], narrowed := true }
def OrdersFoldedUptoSaid : Prop := ordersFoldedUptoRow.holds Tryz.pinned (OpenSpec.upto ordersFoldedSpec)

end Rows
end Go.Proofs.YtohimaenikegoaaGreatDoor
