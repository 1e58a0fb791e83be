/-
  PART 7 OF THE PROOF: V1 (no conditions).
-/
import Derived.Test.YtdngmncaohgacaaDoorQk6
set_option linter.unusedSectionVars false
set_option linter.unusedSimpArgs false
set_option linter.unusedVariables false
set_option linter.constructorNameAsVariable false
set_option linter.defProp false
/-
  SheetsKnown: what its calls answer, part 1.
-/
set_option maxRecDepth 100000
namespace Go.Am
open Sx Go.Proofs
theorem v0SheetsUnits : ∀ H, CallL cc sgTab 4 [.i 0, .i 0] H [.b true] H := known_of (n := 60) rfl (by kernel_rfl) rfl (by kernel_rfl) (by kernel_rfl)
theorem v0SheetsCell : ∀ H, CallL cc sgTab 7 [.i 0, .i 0, .i (-9), .i 1, .i 0, .i 1] H [.b true] H := known_of (n := 60) rfl (by kernel_rfl) rfl (by kernel_rfl) (by kernel_rfl)
theorem v0SheetsNeighbour : ∀ H, CallL cc sgTab 3 [.i 0, .i 0, .i 1, .i 0] H [.b true] H := known_of (n := 60) rfl (by kernel_rfl) rfl (by kernel_rfl) (by kernel_rfl)
theorem v0SheetsNone : ∀ H, CallL cc sgTab 5 [.i 0, .i 0, .i 1, .i 1] H [.b true] H := known_of (n := 60) rfl (by kernel_rfl) rfl (by kernel_rfl) (by kernel_rfl)
theorem v0SheetsCheck : ∀ H, CallL cc sgTab 6 [.i 0, .i (-1), .i 0] H [.b true] H := known_of (n := 60) rfl (by kernel_rfl) rfl (by kernel_rfl) (by kernel_rfl)
theorem v1SheetsUnits : ∀ H, CallL cc sgTab 4 [.i 1, .i 0] H [.b true] H := known_of (n := 60) rfl (by kernel_rfl) rfl (by kernel_rfl) (by kernel_rfl)
theorem v1SheetsCell : ∀ H, CallL cc sgTab 7 [.i 1, .i 0, .i 32, .i 0, .i 0, .i 2] H [.b true] H := known_of (n := 60) rfl (by kernel_rfl) rfl (by kernel_rfl) (by kernel_rfl)
theorem v1SheetsNeighbour : ∀ H, CallL cc sgTab 3 [.i 1, .i 0, .i 42, .i 1] H [.b true] H := known_of (n := 60) rfl (by kernel_rfl) rfl (by kernel_rfl) (by kernel_rfl)
theorem v1SheetsNone : ∀ H, CallL cc sgTab 5 [.i 1, .i 0, .i 42, .i 2] H [.b true] H := known_of (n := 60) rfl (by kernel_rfl) rfl (by kernel_rfl) (by kernel_rfl)
theorem v1SheetsCheck : ∀ H, CallL cc sgTab 6 [.i 13, .i 0, .i 1] H [.b true] H := known_of (n := 60) rfl (by kernel_rfl) rfl (by kernel_rfl) (by kernel_rfl)
theorem v2SheetsUnits : ∀ H, CallL cc sgTab 4 [.i 2, .i 0] H [.b true] H := known_of (n := 60) rfl (by kernel_rfl) rfl (by kernel_rfl) (by kernel_rfl)
theorem v2SheetsCell : ∀ H, CallL cc sgTab 7 [.i 2, .i 0, .i (-10), .i 4, .i 2, .i 0] H [.b true] H := known_of (n := 60) rfl (by kernel_rfl) rfl (by kernel_rfl) (by kernel_rfl)
theorem v2SheetsNeighbour : ∀ H, CallL cc sgTab 3 [.i 2, .i 0, .i 0, .i 2] H [.b true] H := known_of (n := 60) rfl (by kernel_rfl) rfl (by kernel_rfl) (by kernel_rfl)
theorem v2SheetsNone : ∀ H, CallL cc sgTab 5 [.i 2, .i 0, .i 60, .i 0] H [.b true] H := known_of (n := 60) rfl (by kernel_rfl) rfl (by kernel_rfl) (by kernel_rfl)
theorem v2SheetsCheck : ∀ H, CallL cc sgTab 6 [.i 26, .i (-2), .i 2] H [.b true] H := known_of (n := 60) rfl (by kernel_rfl) rfl (by kernel_rfl) (by kernel_rfl)
theorem v3SheetsUnits : ∀ H, CallL cc sgTab 4 [.i 3, .i 0] H [.b true] H := known_of (n := 60) rfl (by kernel_rfl) rfl (by kernel_rfl) (by kernel_rfl)
theorem v3SheetsCell : ∀ H, CallL cc sgTab 7 [.i 3, .i 0, .i 15, .i 2, .i 5, .i 0] H [.b true] H := known_of (n := 60) rfl (by kernel_rfl) rfl (by kernel_rfl) (by kernel_rfl)
theorem v3SheetsNeighbour : ∀ H, CallL cc sgTab 3 [.i 3, .i 0, .i 25, .i 3] H [.b true] H := known_of (n := 60) rfl (by kernel_rfl) rfl (by kernel_rfl) (by kernel_rfl)
theorem v3SheetsNone : ∀ H, CallL cc sgTab 5 [.i 3, .i 0, .i 85, .i 1] H [.b true] H := known_of (n := 60) rfl (by kernel_rfl) rfl (by kernel_rfl) (by kernel_rfl)
theorem v3SheetsCheck : ∀ H, CallL cc sgTab 6 [.i 39, .i 3, .i 3] H [.b true] H := known_of (n := 60) rfl (by kernel_rfl) rfl (by kernel_rfl) (by kernel_rfl)
theorem v4SheetsUnits : ∀ H, CallL cc sgTab 4 [.i 4, .i 0] H [.b true] H := known_of (n := 60) rfl (by kernel_rfl) rfl (by kernel_rfl) (by kernel_rfl)
theorem v4SheetsCell : ∀ H, CallL cc sgTab 7 [.i 4, .i 0, .i 41, .i 5, .i 4, .i 1] H [.b true] H := known_of (n := 60) rfl (by kernel_rfl) rfl (by kernel_rfl) (by kernel_rfl)
theorem v4SheetsNeighbour : ∀ H, CallL cc sgTab 3 [.i 4, .i 0, .i 101, .i 0] H [.b true] H := known_of (n := 60) rfl (by kernel_rfl) rfl (by kernel_rfl) (by kernel_rfl)
theorem v4SheetsNone : ∀ H, CallL cc sgTab 5 [.i 4, .i 0, .i 81, .i 3] H [.b true] H := known_of (n := 60) rfl (by kernel_rfl) rfl (by kernel_rfl) (by kernel_rfl)
theorem v4SheetsCheck : ∀ H, CallL cc sgTab 6 [.i 52, .i 9, .i 4] H [.b true] H := known_of (n := 60) rfl (by kernel_rfl) rfl (by kernel_rfl) (by kernel_rfl)
theorem v5SheetsUnits : ∀ H, CallL cc sgTab 4 [.i 5, .i 1] H [.b true] H := known_of (n := 60) rfl (by kernel_rfl) rfl (by kernel_rfl) (by kernel_rfl)
theorem v5SheetsCell : ∀ H, CallL cc sgTab 7 [.i 5, .i 1, .i 107, .i 5, .i 4, .i 2] H [.b true] H := known_of (n := 60) rfl (by kernel_rfl) rfl (by kernel_rfl) (by kernel_rfl)
theorem v5SheetsNeighbour : ∀ H, CallL cc sgTab 3 [.i 5, .i 1, .i 37, .i 1] H [.b true] H := known_of (n := 60) rfl (by kernel_rfl) rfl (by kernel_rfl) (by kernel_rfl)
theorem v5SheetsNone : ∀ H, CallL cc sgTab 5 [.i 5, .i 1, .i 27, .i 1] H [.b true] H := known_of (n := 60) rfl (by kernel_rfl) rfl (by kernel_rfl) (by kernel_rfl)
theorem v5SheetsCheck : ∀ H, CallL cc sgTab 6 [.i 65, .i 15, .i 5] H [.b true] H := known_of (n := 60) rfl (by kernel_rfl) rfl (by kernel_rfl) (by kernel_rfl)
theorem v6SheetsUnits : ∀ H, CallL cc sgTab 4 [.i 6, .i 1] H [.b true] H := known_of (n := 60) rfl (by kernel_rfl) rfl (by kernel_rfl) (by kernel_rfl)
theorem v6SheetsCell : ∀ H, CallL cc sgTab 7 [.i 6, .i 1, .i 61, .i 5, .i 0, .i 1] H [.b true] H := known_of (n := 60) rfl (by kernel_rfl) rfl (by kernel_rfl) (by kernel_rfl)
theorem v6SheetsNeighbour : ∀ H, CallL cc sgTab 3 [.i 6, .i 1, .i 21, .i 2] H [.b true] H := known_of (n := 60) rfl (by kernel_rfl) rfl (by kernel_rfl) (by kernel_rfl)
theorem v6SheetsNone : ∀ H, CallL cc sgTab 5 [.i 6, .i 1, .i 71, .i 3] H [.b true] H := known_of (n := 60) rfl (by kernel_rfl) rfl (by kernel_rfl) (by kernel_rfl)
theorem v6SheetsCheck : ∀ H, CallL cc sgTab 6 [.i 78, .i 9, .i 6] H [.b true] H := known_of (n := 60) rfl (by kernel_rfl) rfl (by kernel_rfl) (by kernel_rfl)
theorem v7SheetsUnits : ∀ H, CallL cc sgTab 4 [.i 7, .i 1] H [.b true] H := known_of (n := 60) rfl (by kernel_rfl) rfl (by kernel_rfl) (by kernel_rfl)
theorem v7SheetsCell : ∀ H, CallL cc sgTab 7 [.i 7, .i 1, .i 3, .i 6, .i 1, .i 3] H [.b true] H := known_of (n := 60) rfl (by kernel_rfl) rfl (by kernel_rfl) (by kernel_rfl)
theorem v7SheetsNeighbour : ∀ H, CallL cc sgTab 3 [.i 7, .i 1, .i 23, .i 3] H [.b true] H := known_of (n := 60) rfl (by kernel_rfl) rfl (by kernel_rfl) (by kernel_rfl)
theorem v7SheetsNone : ∀ H, CallL cc sgTab 5 [.i 7, .i 1, .i 13, .i 1] H [.b true] H := known_of (n := 60) rfl (by kernel_rfl) rfl (by kernel_rfl) (by kernel_rfl)
theorem v7SheetsCheck : ∀ H, CallL cc sgTab 6 [.i 91, .i 11, .i 7] H [.b true] H := known_of (n := 60) rfl (by kernel_rfl) rfl (by kernel_rfl) (by kernel_rfl)
def kn1 : List KN1 := [(4, [.i 0, .i 0], [.b true]), (7, [.i 0, .i 0, .i (-9), .i 1, .i 0, .i 1], [.b true]), (3, [.i 0, .i 0, .i 1, .i 0], [.b true]), (5, [.i 0, .i 0, .i 1, .i 1], [.b true]), (6, [.i 0, .i (-1), .i 0], [.b true]), (4, [.i 1, .i 0], [.b true]), (7, [.i 1, .i 0, .i 32, .i 0, .i 0, .i 2], [.b true]), (3, [.i 1, .i 0, .i 42, .i 1], [.b true]), (5, [.i 1, .i 0, .i 42, .i 2], [.b true]), (6, [.i 13, .i 0, .i 1], [.b true]), (4, [.i 2, .i 0], [.b true]), (7, [.i 2, .i 0, .i (-10), .i 4, .i 2, .i 0], [.b true]), (3, [.i 2, .i 0, .i 0, .i 2], [.b true]), (5, [.i 2, .i 0, .i 60, .i 0], [.b true]), (6, [.i 26, .i (-2), .i 2], [.b true]), (4, [.i 3, .i 0], [.b true]), (7, [.i 3, .i 0, .i 15, .i 2, .i 5, .i 0], [.b true]), (3, [.i 3, .i 0, .i 25, .i 3], [.b true]), (5, [.i 3, .i 0, .i 85, .i 1], [.b true]), (6, [.i 39, .i 3, .i 3], [.b true]), (4, [.i 4, .i 0], [.b true]), (7, [.i 4, .i 0, .i 41, .i 5, .i 4, .i 1], [.b true]), (3, [.i 4, .i 0, .i 101, .i 0], [.b true]), (5, [.i 4, .i 0, .i 81, .i 3], [.b true]), (6, [.i 52, .i 9, .i 4], [.b true]), (4, [.i 5, .i 1], [.b true]), (7, [.i 5, .i 1, .i 107, .i 5, .i 4, .i 2], [.b true]), (3, [.i 5, .i 1, .i 37, .i 1], [.b true]), (5, [.i 5, .i 1, .i 27, .i 1], [.b true]), (6, [.i 65, .i 15, .i 5], [.b true]), (4, [.i 6, .i 1], [.b true]), (7, [.i 6, .i 1, .i 61, .i 5, .i 0, .i 1], [.b true]), (3, [.i 6, .i 1, .i 21, .i 2], [.b true]), (5, [.i 6, .i 1, .i 71, .i 3], [.b true]), (6, [.i 78, .i 9, .i 6], [.b true]), (4, [.i 7, .i 1], [.b true]), (7, [.i 7, .i 1, .i 3, .i 6, .i 1, .i 3], [.b true]), (3, [.i 7, .i 1, .i 23, .i 3], [.b true]), (5, [.i 7, .i 1, .i 13, .i 1], [.b true]), (6, [.i 91, .i 11, .i 7], [.b true])]
theorem kn1_ok : AllK cc sgTab kn1 := .cons v0SheetsUnits (.cons v0SheetsCell (.cons v0SheetsNeighbour (.cons v0SheetsNone (.cons v0SheetsCheck (.cons v1SheetsUnits (.cons v1SheetsCell (.cons v1SheetsNeighbour (.cons v1SheetsNone (.cons v1SheetsCheck (.cons v2SheetsUnits (.cons v2SheetsCell (.cons v2SheetsNeighbour (.cons v2SheetsNone (.cons v2SheetsCheck (.cons v3SheetsUnits (.cons v3SheetsCell (.cons v3SheetsNeighbour (.cons v3SheetsNone (.cons v3SheetsCheck (.cons v4SheetsUnits (.cons v4SheetsCell (.cons v4SheetsNeighbour (.cons v4SheetsNone (.cons v4SheetsCheck (.cons v5SheetsUnits (.cons v5SheetsCell (.cons v5SheetsNeighbour (.cons v5SheetsNone (.cons v5SheetsCheck (.cons v6SheetsUnits (.cons v6SheetsCell (.cons v6SheetsNeighbour (.cons v6SheetsNone (.cons v6SheetsCheck (.cons v7SheetsUnits (.cons v7SheetsCell (.cons v7SheetsNeighbour (.cons v7SheetsNone (.cons v7SheetsCheck .nil)))))))))))))))))))))))))))))))))))))))
end Go.Am

