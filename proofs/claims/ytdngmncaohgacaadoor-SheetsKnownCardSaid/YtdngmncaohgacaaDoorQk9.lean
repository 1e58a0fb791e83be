/-
  PART 9 OF THE PROOF: V3 (no conditions).
-/
import Derived.Test.YtdngmncaohgacaaDoorQk8
set_option linter.unusedSectionVars false
set_option linter.unusedSimpArgs false
set_option linter.unusedVariables false
set_option linter.constructorNameAsVariable false
set_option linter.defProp false
/-
  SheetsKnown: what its calls answer, part 3.
-/
set_option maxRecDepth 100000
namespace Go.Am
open Sx Go.Proofs
theorem v14SheetsUnits : ∀ H, CallL cc sgTab 4 [.i 14, .i 2] H [.b true] H := known_of (n := 60) rfl (by kernel_rfl) rfl (by kernel_rfl) (by kernel_rfl)
theorem v14SheetsCell : ∀ H, CallL cc sgTab 7 [.i 14, .i 2, .i 108, .i 0, .i 4, .i 3] H [.b true] H := known_of (n := 60) rfl (by kernel_rfl) rfl (by kernel_rfl) (by kernel_rfl)
theorem v14SheetsNeighbour : ∀ H, CallL cc sgTab 3 [.i 14, .i 2, .i 38, .i 2] H [.b true] H := known_of (n := 60) rfl (by kernel_rfl) rfl (by kernel_rfl) (by kernel_rfl)
theorem v14SheetsNone : ∀ H, CallL cc sgTab 5 [.i 14, .i 2, .i 88, .i 2] H [.b true] H := known_of (n := 60) rfl (by kernel_rfl) rfl (by kernel_rfl) (by kernel_rfl)
theorem v14SheetsCheck : ∀ H, CallL cc sgTab 6 [.i 182, .i 16, .i 14] H [.b true] H := known_of (n := 60) rfl (by kernel_rfl) rfl (by kernel_rfl) (by kernel_rfl)
theorem v15SheetsUnits : ∀ H, CallL cc sgTab 4 [.i 15, .i 3] H [.b true] H := known_of (n := 60) rfl (by kernel_rfl) rfl (by kernel_rfl) (by kernel_rfl)
theorem v15SheetsCell : ∀ H, CallL cc sgTab 7 [.i 15, .i 3, .i 67, .i 2, .i 3, .i 2] H [.b true] H := known_of (n := 60) rfl (by kernel_rfl) rfl (by kernel_rfl) (by kernel_rfl)
theorem v15SheetsNeighbour : ∀ H, CallL cc sgTab 3 [.i 15, .i 3, .i 17, .i 3] H [.b true] H := known_of (n := 60) rfl (by kernel_rfl) rfl (by kernel_rfl) (by kernel_rfl)
theorem v15SheetsNone : ∀ H, CallL cc sgTab 5 [.i 15, .i 3, .i 17, .i 1] H [.b true] H := known_of (n := 60) rfl (by kernel_rfl) rfl (by kernel_rfl) (by kernel_rfl)
theorem v15SheetsCheck : ∀ H, CallL cc sgTab 6 [.i 195, .i 15, .i 15] H [.b true] H := known_of (n := 60) rfl (by kernel_rfl) rfl (by kernel_rfl) (by kernel_rfl)
theorem v16SheetsUnits : ∀ H, CallL cc sgTab 4 [.i 16, .i 3] H [.b true] H := known_of (n := 60) rfl (by kernel_rfl) rfl (by kernel_rfl) (by kernel_rfl)
theorem v16SheetsCell : ∀ H, CallL cc sgTab 7 [.i 16, .i 3, .i 93, .i 3, .i 4, .i 3] H [.b true] H := known_of (n := 60) rfl (by kernel_rfl) rfl (by kernel_rfl) (by kernel_rfl)
theorem v16SheetsNeighbour : ∀ H, CallL cc sgTab 3 [.i 16, .i 3, .i 93, .i 0] H [.b true] H := known_of (n := 60) rfl (by kernel_rfl) rfl (by kernel_rfl) (by kernel_rfl)
theorem v16SheetsNone : ∀ H, CallL cc sgTab 5 [.i 16, .i 3, .i 13, .i 3] H [.b true] H := known_of (n := 60) rfl (by kernel_rfl) rfl (by kernel_rfl) (by kernel_rfl)
theorem v16SheetsCheck : ∀ H, CallL cc sgTab 6 [.i 208, .i 1, .i 16] H [.b true] H := known_of (n := 60) rfl (by kernel_rfl) rfl (by kernel_rfl) (by kernel_rfl)
theorem v17SheetsUnits : ∀ H, CallL cc sgTab 4 [.i 17, .i 3] H [.b true] H := known_of (n := 60) rfl (by kernel_rfl) rfl (by kernel_rfl) (by kernel_rfl)
theorem v17SheetsCell : ∀ H, CallL cc sgTab 7 [.i 17, .i 3, .i 89, .i 1, .i 2, .i 4] H [.b true] H := known_of (n := 60) rfl (by kernel_rfl) rfl (by kernel_rfl) (by kernel_rfl)
theorem v17SheetsNeighbour : ∀ H, CallL cc sgTab 3 [.i 17, .i 3, .i 9, .i 1] H [.b true] H := known_of (n := 60) rfl (by kernel_rfl) rfl (by kernel_rfl) (by kernel_rfl)
theorem v17SheetsNone : ∀ H, CallL cc sgTab 5 [.i 17, .i 3, .i 9, .i 3] H [.b true] H := known_of (n := 60) rfl (by kernel_rfl) rfl (by kernel_rfl) (by kernel_rfl)
theorem v17SheetsCheck : ∀ H, CallL cc sgTab 6 [.i 221, .i 17, .i 17] H [.b true] H := known_of (n := 60) rfl (by kernel_rfl) rfl (by kernel_rfl) (by kernel_rfl)
def kn3 : List KN1 := [(4, [.i 14, .i 2], [.b true]), (7, [.i 14, .i 2, .i 108, .i 0, .i 4, .i 3], [.b true]), (3, [.i 14, .i 2, .i 38, .i 2], [.b true]), (5, [.i 14, .i 2, .i 88, .i 2], [.b true]), (6, [.i 182, .i 16, .i 14], [.b true]), (4, [.i 15, .i 3], [.b true]), (7, [.i 15, .i 3, .i 67, .i 2, .i 3, .i 2], [.b true]), (3, [.i 15, .i 3, .i 17, .i 3], [.b true]), (5, [.i 15, .i 3, .i 17, .i 1], [.b true]), (6, [.i 195, .i 15, .i 15], [.b true]), (4, [.i 16, .i 3], [.b true]), (7, [.i 16, .i 3, .i 93, .i 3, .i 4, .i 3], [.b true]), (3, [.i 16, .i 3, .i 93, .i 0], [.b true]), (5, [.i 16, .i 3, .i 13, .i 3], [.b true]), (6, [.i 208, .i 1, .i 16], [.b true]), (4, [.i 17, .i 3], [.b true]), (7, [.i 17, .i 3, .i 89, .i 1, .i 2, .i 4], [.b true]), (3, [.i 17, .i 3, .i 9, .i 1], [.b true]), (5, [.i 17, .i 3, .i 9, .i 3], [.b true]), (6, [.i 221, .i 17, .i 17], [.b true])]
theorem kn3_ok : AllK cc sgTab kn3 := .cons v14SheetsUnits (.cons v14SheetsCell (.cons v14SheetsNeighbour (.cons v14SheetsNone (.cons v14SheetsCheck (.cons v15SheetsUnits (.cons v15SheetsCell (.cons v15SheetsNeighbour (.cons v15SheetsNone (.cons v15SheetsCheck (.cons v16SheetsUnits (.cons v16SheetsCell (.cons v16SheetsNeighbour (.cons v16SheetsNone (.cons v16SheetsCheck (.cons v17SheetsUnits (.cons v17SheetsCell (.cons v17SheetsNeighbour (.cons v17SheetsNone (.cons v17SheetsCheck .nil)))))))))))))))))))
end Go.Am

