/-
  DERIVED. GIVEN WITH THE SEED: THE PROGRAM's TIES (one call each: nine closed facts by the kernel) AND EACH ROW's TIE, after the 31st guide's Derived/Test/Toyas{Tie, Card}.lean. No idea stands in it: it is a product of the set-up. Laid BY PROGRAM, IN A SANDBOX (cutbox-door.mjs). By AI agents, Wed Nov 11 2026. No macro, syntax, notation, axiom, sorry.
-/
import Derived.Test.YtoeibflkihlloaaGreatDoorRows
import Derived.LaidByTextLater
import Derived.SevenTiedAt
import Derived.LaidSub
import Derived.LaidOnce
namespace Go.Proofs.YtoeibflkihlloaaGreatDoor
open Go
set_option maxRecDepth 100000
theorem seatTie1 : Tryz.prog.laidByTextLater [("crimp/moves.turns", Rows.laid_crimp_moves_turns), ("crimp/cells.quarters", Rows.laid_crimp_cells_quarters), ("crimp/covers.heads", Rows.laid_crimp_covers_heads), ("crimp/covers.ways", Rows.laid_crimp_covers_ways)] [.wider, .data, .data, .widerDeep] true :=
  Program.laidByTextLater_by_one 77 8 69 (by kernel_rfl) (by kernel_rfl) (by kernel_rfl) (by kernel_rfl) (by kernel_rfl) (by kernel_rfl) (fun _ _ => by kernel_rfl)
theorem noOwnUnsafe : Tryz.pinned.checked.prog.headLifts.contains "ownunsafe" = false := by kernel_rfl
theorem tie : Tryz.prog.laidByTextLater [("crimp/moves.turns", Rows.laid_crimp_moves_turns), ("crimp/cells.quarters", Rows.laid_crimp_cells_quarters), ("crimp/covers.heads", Rows.laid_crimp_covers_heads), ("crimp/covers.ways", Rows.laid_crimp_covers_ways)] [.wider, .data, .data, .widerDeep] true :=
  Program.laidByTextLater.sub seatTie1 ["crimp/moves.turns", "crimp/cells.quarters", "crimp/covers.heads", "crimp/covers.ways"] (by kernel_rfl) (by kernel_rfl)
theorem coversWalk_row_tie : Rows.coversWalkRow.laidByTextAt .later Tryz.pinned [.wider, .data, .data, .widerDeep] true :=
  OpenClaim.laidByTextAt_later rfl rfl tie noOwnUnsafe
theorem coversErrors_row_tie : Rows.coversErrorsRow.laidByTextAt .later Tryz.pinned [.wider, .data, .data, .widerDeep] true :=
  OpenClaim.laidByTextAt_later rfl rfl tie noOwnUnsafe
theorem coversWalkUpto_row_tie : Rows.coversWalkUptoRow.laidByTextAt .later Tryz.pinned [.wider, .data, .data, .widerDeep] true :=
  OpenClaim.laidByTextAt_later rfl rfl tie noOwnUnsafe
theorem coversErrorsUpto_row_tie : Rows.coversErrorsUptoRow.laidByTextAt .later Tryz.pinned [.wider, .data, .data, .widerDeep] true :=
  OpenClaim.laidByTextAt_later rfl rfl tie noOwnUnsafe
end Go.Proofs.YtoeibflkihlloaaGreatDoor
