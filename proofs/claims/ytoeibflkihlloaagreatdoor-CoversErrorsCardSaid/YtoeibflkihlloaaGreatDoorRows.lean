/-
  NARROWER THAN 'FOR EVERY INPUT', by the rows' own cells (each row's printed sentence says how): CoversWalk: laid · CoversErrors: laid.
  DERIVED. THE GIVEN ROWS OF THIS SEAT. 2 by the template 'for every input the law returns true; each argument reads behind the call as it read before'; 0 by the template 'total and deterministic' (their statements: YtoeibflkihlloaaGreatDoorTotals.lean).
  GIVEN WITH THE SEED: the statements are not yours to turn. If you find one false, say at which input.
  Laid BY PROGRAM, IN A SANDBOX (cutbox-rows.mjs): the forced cells as the released guide's own fill.sh prints them over the translation c6959c5d8c3d5df4… (all of the seat's roots in one cut). By AI agents, Wed Nov 11 2026. No macro, syntax, notation, axiom, sorry.
-/
import Derived.Test.YtoeibflkihlloaaGreatDoorChecked
import GoSem.Claim
import GoSem.ClaimJoined
import GoSem.ClaimMapViews
import Derived.JoinedTies
import Derived.KernelRfl
namespace Go.Proofs.YtoeibflkihlloaaGreatDoor
/- THE CELL 'sum', in the pinned program and in every row, IS THE sha256 OF THE DUMP (.gsa) THAT YtoeibflkihlloaaGreatDoorProg.lean LOADS. Nothing in Lean hashes anything: it is a label: what it is worth is what the hold of that sum in a sandbox is worth. -/
noncomputable def Tryz.pinned : Pinned := { name := "ytoeibflkihlloaagreatdoor", sum := "c6959c5d8c3d5df4604a63cc4e8e3de5d26a16d78cac6c59e1dd899fd8ac4f8a", checked := Tryz.checked }
namespace Rows
def none {H : Type} : Left H := { results := [], args := [] }

/- WHAT THE LISTED PACKAGE-LEVEL VARIABLES READ AS WHEN THE CALL BEGINS. Each datum BY PROGRAM (the guide's laid-datum.mjs) off the statement by which the dump's own 'gosem.cut.vars' lays the variable. In a bare row this is a premise. The card (YtoeibflkihlloaaGreatDoorCards.lean) ties it to the program's text. -/
def laid_crimp_moves_turns {H : Type} : DataW H := .agg [.agg [.lit (.int .i64 1), .lit (.int .i64 0), .lit (.int .i64 0), .lit (.int .i64 1)], .agg [.lit (.int .i64 0), .lit (.int .i64 (-1)), .lit (.int .i64 1), .lit (.int .i64 0)], .agg [.lit (.int .i64 (-1)), .lit (.int .i64 0), .lit (.int .i64 0), .lit (.int .i64 (-1))], .agg [.lit (.int .i64 0), .lit (.int .i64 1), .lit (.int .i64 (-1)), .lit (.int .i64 0)], .agg [.lit (.int .i64 (-1)), .lit (.int .i64 0), .lit (.int .i64 0), .lit (.int .i64 1)], .agg [.lit (.int .i64 0), .lit (.int .i64 (-1)), .lit (.int .i64 (-1)), .lit (.int .i64 0)], .agg [.lit (.int .i64 1), .lit (.int .i64 0), .lit (.int .i64 0), .lit (.int .i64 (-1))], .agg [.lit (.int .i64 0), .lit (.int .i64 1), .lit (.int .i64 1), .lit (.int .i64 0)]]
def laid_crimp_cells_quarters {H : Type} : DataW H := .agg [.agg [.agg [.lit (.int .i64 0), .lit (.int .i64 (-1))], .lit (.int .u8 2), .lit (.int .i64 0), .agg [.agg [.lit (.int .i64 0), .lit (.int .i64 (-1)), .lit (.int .u8 2)], .agg [.lit (.int .i64 0), .lit (.int .i64 0), .lit (.int .u8 1)], .agg [.lit (.int .i64 0), .lit (.int .i64 0), .lit (.int .u8 3)]], .agg [.lit (.int .i64 0), .lit (.int .i64 0)], .agg [.lit (.int .i64 2), .lit (.int .i64 0)]], .agg [.agg [.lit (.int .i64 1), .lit (.int .i64 0)], .lit (.int .u8 1), .lit (.int .i64 1), .agg [.agg [.lit (.int .i64 1), .lit (.int .i64 0), .lit (.int .u8 3)], .agg [.lit (.int .i64 0), .lit (.int .i64 0), .lit (.int .u8 0)], .agg [.lit (.int .i64 0), .lit (.int .i64 0), .lit (.int .u8 2)]], .agg [.lit (.int .i64 2), .lit (.int .i64 2)], .agg [.lit (.int .i64 2), .lit (.int .i64 0)]], .agg [.agg [.lit (.int .i64 0), .lit (.int .i64 1)], .lit (.int .u8 2), .lit (.int .i64 1), .agg [.agg [.lit (.int .i64 0), .lit (.int .i64 1), .lit (.int .u8 0)], .agg [.lit (.int .i64 0), .lit (.int .i64 0), .lit (.int .u8 3)], .agg [.lit (.int .i64 0), .lit (.int .i64 0), .lit (.int .u8 1)]], .agg [.lit (.int .i64 2), .lit (.int .i64 2)], .agg [.lit (.int .i64 0), .lit (.int .i64 2)]], .agg [.agg [.lit (.int .i64 (-1)), .lit (.int .i64 0)], .lit (.int .u8 1), .lit (.int .i64 0), .agg [.agg [.lit (.int .i64 (-1)), .lit (.int .i64 0), .lit (.int .u8 1)], .agg [.lit (.int .i64 0), .lit (.int .i64 0), .lit (.int .u8 2)], .agg [.lit (.int .i64 0), .lit (.int .i64 0), .lit (.int .u8 0)]], .agg [.lit (.int .i64 0), .lit (.int .i64 0)], .agg [.lit (.int .i64 0), .lit (.int .i64 2)]]]
def laid_crimp_covers_heads {H : Type} : DataW H := .agg [.agg [.lit (.int .i64 1), .lit (.int .i64 0)], .agg [.lit (.int .i64 0), .lit (.int .i64 1)], .agg [.lit (.int .i64 (-1)), .lit (.int .i64 0)], .agg [.lit (.int .i64 0), .lit (.int .i64 (-1))]]
def laid_crimp_covers_ways {H : Type} : DataW H := .agg [.slice [.lit (.int .u8 1)] [], .slice [.lit (.int .u8 2), .lit (.int .u8 4), .lit (.int .u8 1)] [], .slice [.lit (.int .u8 2), .lit (.int .u8 1)] [], .slice [.lit (.int .u8 2), .lit (.int .u8 3), .lit (.int .u8 1)] []]

/-- 'crimplaw21.CoversWalk': WHATEVER THE INPUT: true; the input reads as it did. -/
def coversWalkSpec : ChangeSpec := { name := "coversWalk", fn := fun _ => fun
  | [d] => { results := [.lit (.bool true)], args := [d] }
  | _ => none }
def coversWalkRow : OpenClaim := { program := "ytoeibflkihlloaagreatdoor", sum := "c6959c5d8c3d5df4604a63cc4e8e3de5d26a16d78cac6c59e1dd899fd8ac4f8a", func := "crimp/crimplaw21.CoversWalk", spec := "coversWalk", inPlace := ["internal/abi.NoEscape"], unfollowed := true, recurses := true, named := ["crimp/covers.heads", "crimp/covers.ways", "crimp/cells.quarters", "crimp/moves.turns"], plainKeys := false, apart := false, laid := [("crimp/moves.turns", laid_crimp_moves_turns), ("crimp/cells.quarters", laid_crimp_cells_quarters), ("crimp/covers.heads", laid_crimp_covers_heads), ("crimp/covers.ways", laid_crimp_covers_ways)] }
def CoversWalkSaid : Prop := coversWalkRow.holds Tryz.pinned (OpenSpec.ofChange coversWalkSpec)

/-- ITS FALSE NEIGHBOUR: 'it returns false'. Refute it at one input. -/
def coversWalkWrong : ChangeSpec := { name := "coversWalk", fn := fun _ => fun
  | [d] => { results := [.lit (.bool false)], args := [d] }
  | _ => none }
def CoversWalkWrongFalsely : Prop := coversWalkRow.holds Tryz.pinned (OpenSpec.ofChange coversWalkWrong)

/-- 'crimplaw21.CoversErrors': WHATEVER THE INPUT: true; the input reads as it did. -/
def coversErrorsSpec : ChangeSpec := { name := "coversErrors", fn := fun _ => fun
  | [d1, d2, d3] => { results := [.lit (.bool true)], args := [d1, d2, d3] }
  | _ => none }
def coversErrorsRow : OpenClaim := { program := "ytoeibflkihlloaagreatdoor", sum := "c6959c5d8c3d5df4604a63cc4e8e3de5d26a16d78cac6c59e1dd899fd8ac4f8a", func := "crimp/crimplaw21.CoversErrors", spec := "coversErrors", inPlace := ["internal/abi.NoEscape"], unfollowed := true, recurses := true, named := ["crimp/covers.heads", "crimp/covers.ways", "crimp/cells.quarters", "crimp/moves.turns"], plainKeys := false, apart := false, laid := [("crimp/moves.turns", laid_crimp_moves_turns), ("crimp/cells.quarters", laid_crimp_cells_quarters), ("crimp/covers.heads", laid_crimp_covers_heads), ("crimp/covers.ways", laid_crimp_covers_ways)] }
def CoversErrorsSaid : Prop := coversErrorsRow.holds Tryz.pinned (OpenSpec.ofChange coversErrorsSpec)

/-- ITS FALSE NEIGHBOUR: 'it returns false'. Refute it at one input. -/
def coversErrorsWrong : ChangeSpec := { name := "coversErrors", fn := fun _ => fun
  | [d1, d2, d3] => { results := [.lit (.bool false)], args := [d1, d2, d3] }
  | _ => none }
def CoversErrorsWrongFalsely : Prop := coversErrorsRow.holds Tryz.pinned (OpenSpec.ofChange coversErrorsWrong)

/- THE SECOND FORM. 'bulk': how many values and letters a reading holds, each counted each time it is reached (what is shared counts as often as it is met; a slice's spare places count too). A statement '..UptoSaid' is the law's where the arguments, and the package variables that the reading takes, are together of bulk at most 1048576: NARROWER than '..Said'. Prove '..Said' where nothing that the law and all that it calls make is longer than what came in: it says more and counts as full. Else prove '..UptoSaid'. A law counts once. -/
mutual
def uptoBulk {H : Type} : DataW H → Nat
  | .lit (.string bytes) => bytes.length + 1
  | .lit _ => 1
  | .nil => 1
  | .ptr d => uptoBulk d + 1
  | .slice elems spare => uptoBulkAll elems + uptoBulkAll spare + 1
  | .agg parts => uptoBulkAll parts + 1
  | .iface _ d => uptoBulk d + 1
  | .map entries => uptoBulkEntries entries + 1
  | .held _ => 1
def uptoBulkAll {H : Type} : List (DataW H) → Nat
  | [] => 0
  | d :: r => uptoBulk d + uptoBulkAll r
def uptoBulkEntries {H : Type} : List (Lit × DataW H) → Nat
  | [] => 0
  | x :: r => uptoBulkEntry x + uptoBulkEntries r
def uptoBulkEntry {H : Type} : Lit × DataW H → Nat
  | (.string bytes, d) => bytes.length + uptoBulk d + 1
  | (_, d) => uptoBulk d + 1
 end
def uptoSmall : (H : Type) → List (DataW H) → Bool := fun _ ds => decide (uptoBulkAll ds ≤ 1048576)
def OpenSpec.upto (s : _root_.Go.ChangeSpec) : _root_.Go.OpenSpec := { _root_.Go.OpenSpec.ofChange s with cond := some uptoSmall }

/-- 'crimplaw21.CoversWalk', WHERE WHAT IT READS IS OF BULK AT MOST 1048576: true; the input reads as it did. -/
def coversWalkUptoRow : OpenClaim := { program := "ytoeibflkihlloaagreatdoor", sum := "c6959c5d8c3d5df4604a63cc4e8e3de5d26a16d78cac6c59e1dd899fd8ac4f8a", func := "crimp/crimplaw21.CoversWalk", spec := "coversWalk", inPlace := ["internal/abi.NoEscape"], unfollowed := true, recurses := true, named := ["crimp/covers.heads", "crimp/covers.ways", "crimp/cells.quarters", "crimp/moves.turns"], plainKeys := false, apart := false, laid := [("crimp/moves.turns", laid_crimp_moves_turns), ("crimp/cells.quarters", laid_crimp_cells_quarters), ("crimp/covers.heads", laid_crimp_covers_heads), ("crimp/covers.ways", laid_crimp_covers_ways)], narrowed := true }
def CoversWalkUptoSaid : Prop := coversWalkUptoRow.holds Tryz.pinned (OpenSpec.upto coversWalkSpec)

/-- 'crimplaw21.CoversErrors', WHERE WHAT IT READS IS OF BULK AT MOST 1048576: true; the input reads as it did. -/
def coversErrorsUptoRow : OpenClaim := { program := "ytoeibflkihlloaagreatdoor", sum := "c6959c5d8c3d5df4604a63cc4e8e3de5d26a16d78cac6c59e1dd899fd8ac4f8a", func := "crimp/crimplaw21.CoversErrors", spec := "coversErrors", inPlace := ["internal/abi.NoEscape"], unfollowed := true, recurses := true, named := ["crimp/covers.heads", "crimp/covers.ways", "crimp/cells.quarters", "crimp/moves.turns"], plainKeys := false, apart := false, laid := [("crimp/moves.turns", laid_crimp_moves_turns), ("crimp/cells.quarters", laid_crimp_cells_quarters), ("crimp/covers.heads", laid_crimp_covers_heads), ("crimp/covers.ways", laid_crimp_covers_ways)], narrowed := true }
def CoversErrorsUptoSaid : Prop := coversErrorsUptoRow.holds Tryz.pinned (OpenSpec.upto coversErrorsSpec)

end Rows
end Go.Proofs.YtoeibflkihlloaaGreatDoor
