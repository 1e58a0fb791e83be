/-
  PART 8 OF THE PROOF: V2 (no conditions).
-/
import Derived.Test.YtdngmncaohgacaaDoorQk7
set_option linter.unusedSectionVars false
set_option linter.unusedSimpArgs false
set_option linter.unusedVariables false
set_option linter.constructorNameAsVariable false
set_option linter.defProp false
/-
  SheetsKnown: what its calls answer, part 2.
-/
set_option maxRecDepth 100000
namespace Go.Am
open Sx Go.Proofs
theorem v8SheetsUnits : ∀ H, CallL cc sgTab 4 [.i 8, .i 1] H [.b true] H := known_of (n := 60) rfl (by kernel_rfl) rfl (by kernel_rfl) (by kernel_rfl)
theorem v8SheetsCell : ∀ H, CallL cc sgTab 7 [.i 8, .i 1, .i 32, .i 1, .i 5, .i 2] H [.b true] H := known_of (n := 60) rfl (by kernel_rfl) rfl (by kernel_rfl) (by kernel_rfl)
theorem v8SheetsNeighbour : ∀ H, CallL cc sgTab 3 [.i 8, .i 1, .i 22, .i 0] H [.b true] H := known_of (n := 60) rfl (by kernel_rfl) rfl (by kernel_rfl) (by kernel_rfl)
theorem v8SheetsNone : ∀ H, CallL cc sgTab 5 [.i 8, .i 1, .i 12, .i 2] H [.b true] H := known_of (n := 60) rfl (by kernel_rfl) rfl (by kernel_rfl) (by kernel_rfl)
theorem v8SheetsCheck : ∀ H, CallL cc sgTab 6 [.i 104, .i 0, .i 8] H [.b true] H := known_of (n := 60) rfl (by kernel_rfl) rfl (by kernel_rfl) (by kernel_rfl)
theorem v9SheetsUnits : ∀ H, CallL cc sgTab 4 [.i 9, .i 1] H [.b true] H := known_of (n := 60) rfl (by kernel_rfl) rfl (by kernel_rfl) (by kernel_rfl)
theorem v9SheetsCell : ∀ H, CallL cc sgTab 7 [.i 9, .i 1, .i 44, .i 3, .i 3, .i 4] H [.b true] H := known_of (n := 60) rfl (by kernel_rfl) rfl (by kernel_rfl) (by kernel_rfl)
theorem v9SheetsNeighbour : ∀ H, CallL cc sgTab 3 [.i 9, .i 1, .i 94, .i 1] H [.b true] H := known_of (n := 60) rfl (by kernel_rfl) rfl (by kernel_rfl) (by kernel_rfl)
theorem v9SheetsNone : ∀ H, CallL cc sgTab 5 [.i 9, .i 1, .i 24, .i 2] H [.b true] H := known_of (n := 60) rfl (by kernel_rfl) rfl (by kernel_rfl) (by kernel_rfl)
theorem v9SheetsCheck : ∀ H, CallL cc sgTab 6 [.i 117, .i 12, .i 9] H [.b true] H := known_of (n := 60) rfl (by kernel_rfl) rfl (by kernel_rfl) (by kernel_rfl)
theorem v10SheetsUnits : ∀ H, CallL cc sgTab 4 [.i 10, .i 2] H [.b true] H := known_of (n := 60) rfl (by kernel_rfl) rfl (by kernel_rfl) (by kernel_rfl)
theorem v10SheetsCell : ∀ H, CallL cc sgTab 7 [.i 10, .i 2, .i 31, .i 4, .i 1, .i 1] H [.b true] H := known_of (n := 60) rfl (by kernel_rfl) rfl (by kernel_rfl) (by kernel_rfl)
theorem v10SheetsNeighbour : ∀ H, CallL cc sgTab 3 [.i 10, .i 2, .i 11, .i 2] H [.b true] H := known_of (n := 60) rfl (by kernel_rfl) rfl (by kernel_rfl) (by kernel_rfl)
theorem v10SheetsNone : ∀ H, CallL cc sgTab 5 [.i 10, .i 2, .i 71, .i 1] H [.b true] H := known_of (n := 60) rfl (by kernel_rfl) rfl (by kernel_rfl) (by kernel_rfl)
theorem v10SheetsCheck : ∀ H, CallL cc sgTab 6 [.i 130, .i (-1), .i 10] H [.b true] H := known_of (n := 60) rfl (by kernel_rfl) rfl (by kernel_rfl) (by kernel_rfl)
theorem v11SheetsUnits : ∀ H, CallL cc sgTab 4 [.i 11, .i 2] H [.b true] H := known_of (n := 60) rfl (by kernel_rfl) rfl (by kernel_rfl) (by kernel_rfl)
theorem v11SheetsCell : ∀ H, CallL cc sgTab 7 [.i 11, .i 2, .i 11, .i 6, .i 3, .i 1] H [.b true] H := known_of (n := 60) rfl (by kernel_rfl) rfl (by kernel_rfl) (by kernel_rfl)
theorem v11SheetsNeighbour : ∀ H, CallL cc sgTab 3 [.i 11, .i 2, .i 91, .i 3] H [.b true] H := known_of (n := 60) rfl (by kernel_rfl) rfl (by kernel_rfl) (by kernel_rfl)
theorem v11SheetsNone : ∀ H, CallL cc sgTab 5 [.i 11, .i 2, .i 81, .i 1] H [.b true] H := known_of (n := 60) rfl (by kernel_rfl) rfl (by kernel_rfl) (by kernel_rfl)
theorem v11SheetsCheck : ∀ H, CallL cc sgTab 6 [.i 143, .i (-1), .i 11] H [.b true] H := known_of (n := 60) rfl (by kernel_rfl) rfl (by kernel_rfl) (by kernel_rfl)
theorem v12SheetsUnits : ∀ H, CallL cc sgTab 4 [.i 12, .i 2] H [.b true] H := known_of (n := 60) rfl (by kernel_rfl) rfl (by kernel_rfl) (by kernel_rfl)
theorem v12SheetsCell : ∀ H, CallL cc sgTab 7 [.i 12, .i 2, .i 5, .i 1, .i 2, .i 0] H [.b true] H := known_of (n := 60) rfl (by kernel_rfl) rfl (by kernel_rfl) (by kernel_rfl)
theorem v12SheetsNeighbour : ∀ H, CallL cc sgTab 3 [.i 12, .i 2, .i 15, .i 0] H [.b true] H := known_of (n := 60) rfl (by kernel_rfl) rfl (by kernel_rfl) (by kernel_rfl)
theorem v12SheetsNone : ∀ H, CallL cc sgTab 5 [.i 12, .i 2, .i 75, .i 3] H [.b true] H := known_of (n := 60) rfl (by kernel_rfl) rfl (by kernel_rfl) (by kernel_rfl)
theorem v12SheetsCheck : ∀ H, CallL cc sgTab 6 [.i 156, .i 13, .i 12] H [.b true] H := known_of (n := 60) rfl (by kernel_rfl) rfl (by kernel_rfl) (by kernel_rfl)
theorem v13SheetsUnits : ∀ H, CallL cc sgTab 4 [.i 13, .i 2] H [.b true] H := known_of (n := 60) rfl (by kernel_rfl) rfl (by kernel_rfl) (by kernel_rfl)
theorem v13SheetsCell : ∀ H, CallL cc sgTab 7 [.i 13, .i 2, .i 104, .i 5, .i 1, .i 4] H [.b true] H := known_of (n := 60) rfl (by kernel_rfl) rfl (by kernel_rfl) (by kernel_rfl)
theorem v13SheetsNeighbour : ∀ H, CallL cc sgTab 3 [.i 13, .i 2, .i 94, .i 1] H [.b true] H := known_of (n := 60) rfl (by kernel_rfl) rfl (by kernel_rfl) (by kernel_rfl)
theorem v13SheetsNone : ∀ H, CallL cc sgTab 5 [.i 13, .i 2, .i 54, .i 2] H [.b true] H := known_of (n := 60) rfl (by kernel_rfl) rfl (by kernel_rfl) (by kernel_rfl)
theorem v13SheetsCheck : ∀ H, CallL cc sgTab 6 [.i 169, .i 12, .i 13] H [.b true] H := known_of (n := 60) rfl (by kernel_rfl) rfl (by kernel_rfl) (by kernel_rfl)
def kn2 : List KN1 := [(4, [.i 8, .i 1], [.b true]), (7, [.i 8, .i 1, .i 32, .i 1, .i 5, .i 2], [.b true]), (3, [.i 8, .i 1, .i 22, .i 0], [.b true]), (5, [.i 8, .i 1, .i 12, .i 2], [.b true]), (6, [.i 104, .i 0, .i 8], [.b true]), (4, [.i 9, .i 1], [.b true]), (7, [.i 9, .i 1, .i 44, .i 3, .i 3, .i 4], [.b true]), (3, [.i 9, .i 1, .i 94, .i 1], [.b true]), (5, [.i 9, .i 1, .i 24, .i 2], [.b true]), (6, [.i 117, .i 12, .i 9], [.b true]), (4, [.i 10, .i 2], [.b true]), (7, [.i 10, .i 2, .i 31, .i 4, .i 1, .i 1], [.b true]), (3, [.i 10, .i 2, .i 11, .i 2], [.b true]), (5, [.i 10, .i 2, .i 71, .i 1], [.b true]), (6, [.i 130, .i (-1), .i 10], [.b true]), (4, [.i 11, .i 2], [.b true]), (7, [.i 11, .i 2, .i 11, .i 6, .i 3, .i 1], [.b true]), (3, [.i 11, .i 2, .i 91, .i 3], [.b true]), (5, [.i 11, .i 2, .i 81, .i 1], [.b true]), (6, [.i 143, .i (-1), .i 11], [.b true]), (4, [.i 12, .i 2], [.b true]), (7, [.i 12, .i 2, .i 5, .i 1, .i 2, .i 0], [.b true]), (3, [.i 12, .i 2, .i 15, .i 0], [.b true]), (5, [.i 12, .i 2, .i 75, .i 3], [.b true]), (6, [.i 156, .i 13, .i 12], [.b true]), (4, [.i 13, .i 2], [.b true]), (7, [.i 13, .i 2, .i 104, .i 5, .i 1, .i 4], [.b true]), (3, [.i 13, .i 2, .i 94, .i 1], [.b true]), (5, [.i 13, .i 2, .i 54, .i 2], [.b true]), (6, [.i 169, .i 12, .i 13], [.b true])]
theorem kn2_ok : AllK cc sgTab kn2 := .cons v8SheetsUnits (.cons v8SheetsCell (.cons v8SheetsNeighbour (.cons v8SheetsNone (.cons v8SheetsCheck (.cons v9SheetsUnits (.cons v9SheetsCell (.cons v9SheetsNeighbour (.cons v9SheetsNone (.cons v9SheetsCheck (.cons v10SheetsUnits (.cons v10SheetsCell (.cons v10SheetsNeighbour (.cons v10SheetsNone (.cons v10SheetsCheck (.cons v11SheetsUnits (.cons v11SheetsCell (.cons v11SheetsNeighbour (.cons v11SheetsNone (.cons v11SheetsCheck (.cons v12SheetsUnits (.cons v12SheetsCell (.cons v12SheetsNeighbour (.cons v12SheetsNone (.cons v12SheetsCheck (.cons v13SheetsUnits (.cons v13SheetsCell (.cons v13SheetsNeighbour (.cons v13SheetsNone (.cons v13SheetsCheck .nil)))))))))))))))))))))))))))))
end Go.Am

