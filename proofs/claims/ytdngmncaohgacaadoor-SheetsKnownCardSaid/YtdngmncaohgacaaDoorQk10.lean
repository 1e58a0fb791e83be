/-
  PART 10 OF THE PROOF: V4 (no conditions).
-/
import Derived.Test.YtdngmncaohgacaaDoorQk9
set_option linter.unusedSectionVars false
set_option linter.unusedSimpArgs false
set_option linter.unusedVariables false
set_option linter.constructorNameAsVariable false
set_option linter.defProp false
/-
  SheetsKnown: what its calls answer, part 4.
-/
set_option maxRecDepth 100000
namespace Go.Am
open Sx Go.Proofs
theorem v18SheetsUnits : ∀ H, CallL cc sgTab 4 [.i 18, .i 3] H [.b true] H := known_of (n := 60) rfl (by kernel_rfl) rfl (by kernel_rfl) (by kernel_rfl)
theorem v18SheetsCell : ∀ H, CallL cc sgTab 7 [.i 18, .i 3, .i 8, .i 0, .i 0, .i 3] H [.b true] H := known_of (n := 60) rfl (by kernel_rfl) rfl (by kernel_rfl) (by kernel_rfl)
theorem v18SheetsNeighbour : ∀ H, CallL cc sgTab 3 [.i 18, .i 3, .i 98, .i 2] H [.b true] H := known_of (n := 60) rfl (by kernel_rfl) rfl (by kernel_rfl) (by kernel_rfl)
theorem v18SheetsNone : ∀ H, CallL cc sgTab 5 [.i 18, .i 3, .i 48, .i 2] H [.b true] H := known_of (n := 60) rfl (by kernel_rfl) rfl (by kernel_rfl) (by kernel_rfl)
theorem v18SheetsCheck : ∀ H, CallL cc sgTab 6 [.i 234, .i 16, .i 18] H [.b true] H := known_of (n := 60) rfl (by kernel_rfl) rfl (by kernel_rfl) (by kernel_rfl)
theorem v19SheetsUnits : ∀ H, CallL cc sgTab 4 [.i 19, .i 3] H [.b true] H := known_of (n := 60) rfl (by kernel_rfl) rfl (by kernel_rfl) (by kernel_rfl)
theorem v19SheetsCell : ∀ H, CallL cc sgTab 7 [.i 19, .i 3, .i 42, .i 3, .i 1, .i 2] H [.b true] H := known_of (n := 60) rfl (by kernel_rfl) rfl (by kernel_rfl) (by kernel_rfl)
theorem v19SheetsNeighbour : ∀ H, CallL cc sgTab 3 [.i 19, .i 3, .i 82, .i 3] H [.b true] H := known_of (n := 60) rfl (by kernel_rfl) rfl (by kernel_rfl) (by kernel_rfl)
theorem v19SheetsNone : ∀ H, CallL cc sgTab 5 [.i 19, .i 3, .i 82, .i 0] H [.b true] H := known_of (n := 60) rfl (by kernel_rfl) rfl (by kernel_rfl) (by kernel_rfl)
theorem v19SheetsCheck : ∀ H, CallL cc sgTab 6 [.i 247, .i 10, .i 19] H [.b true] H := known_of (n := 60) rfl (by kernel_rfl) rfl (by kernel_rfl) (by kernel_rfl)
theorem v20SheetsUnits : ∀ H, CallL cc sgTab 4 [.i 20, .i 4] H [.b true] H := known_of (n := 60) rfl (by kernel_rfl) rfl (by kernel_rfl) (by kernel_rfl)
theorem v20SheetsCell : ∀ H, CallL cc sgTab 7 [.i 20, .i 4, .i 19, .i 5, .i 0, .i 4] H [.b true] H := known_of (n := 60) rfl (by kernel_rfl) rfl (by kernel_rfl) (by kernel_rfl)
theorem v20SheetsNeighbour : ∀ H, CallL cc sgTab 3 [.i 20, .i 4, .i 109, .i 0] H [.b true] H := known_of (n := 60) rfl (by kernel_rfl) rfl (by kernel_rfl) (by kernel_rfl)
theorem v20SheetsNone : ∀ H, CallL cc sgTab 5 [.i 20, .i 4, .i 59, .i 1] H [.b true] H := known_of (n := 60) rfl (by kernel_rfl) rfl (by kernel_rfl) (by kernel_rfl)
theorem v20SheetsCheck : ∀ H, CallL cc sgTab 6 [.i 260, .i 7, .i 20] H [.b true] H := known_of (n := 60) rfl (by kernel_rfl) rfl (by kernel_rfl) (by kernel_rfl)
theorem v21SheetsUnits : ∀ H, CallL cc sgTab 4 [.i 21, .i 4] H [.b true] H := known_of (n := 60) rfl (by kernel_rfl) rfl (by kernel_rfl) (by kernel_rfl)
theorem v21SheetsCell : ∀ H, CallL cc sgTab 7 [.i 21, .i 4, .i 105, .i 0, .i 1, .i 0] H [.b true] H := known_of (n := 60) rfl (by kernel_rfl) rfl (by kernel_rfl) (by kernel_rfl)
theorem v21SheetsNeighbour : ∀ H, CallL cc sgTab 3 [.i 21, .i 4, .i 55, .i 1] H [.b true] H := known_of (n := 60) rfl (by kernel_rfl) rfl (by kernel_rfl) (by kernel_rfl)
theorem v21SheetsNone : ∀ H, CallL cc sgTab 5 [.i 21, .i 4, .i 25, .i 3] H [.b true] H := known_of (n := 60) rfl (by kernel_rfl) rfl (by kernel_rfl) (by kernel_rfl)
theorem v21SheetsCheck : ∀ H, CallL cc sgTab 6 [.i 273, .i 13, .i 21] H [.b true] H := known_of (n := 60) rfl (by kernel_rfl) rfl (by kernel_rfl) (by kernel_rfl)
def kn4 : List KN1 := [(4, [.i 18, .i 3], [.b true]), (7, [.i 18, .i 3, .i 8, .i 0, .i 0, .i 3], [.b true]), (3, [.i 18, .i 3, .i 98, .i 2], [.b true]), (5, [.i 18, .i 3, .i 48, .i 2], [.b true]), (6, [.i 234, .i 16, .i 18], [.b true]), (4, [.i 19, .i 3], [.b true]), (7, [.i 19, .i 3, .i 42, .i 3, .i 1, .i 2], [.b true]), (3, [.i 19, .i 3, .i 82, .i 3], [.b true]), (5, [.i 19, .i 3, .i 82, .i 0], [.b true]), (6, [.i 247, .i 10, .i 19], [.b true]), (4, [.i 20, .i 4], [.b true]), (7, [.i 20, .i 4, .i 19, .i 5, .i 0, .i 4], [.b true]), (3, [.i 20, .i 4, .i 109, .i 0], [.b true]), (5, [.i 20, .i 4, .i 59, .i 1], [.b true]), (6, [.i 260, .i 7, .i 20], [.b true]), (4, [.i 21, .i 4], [.b true]), (7, [.i 21, .i 4, .i 105, .i 0, .i 1, .i 0], [.b true]), (3, [.i 21, .i 4, .i 55, .i 1], [.b true]), (5, [.i 21, .i 4, .i 25, .i 3], [.b true]), (6, [.i 273, .i 13, .i 21], [.b true])]
theorem kn4_ok : AllK cc sgTab kn4 := .cons v18SheetsUnits (.cons v18SheetsCell (.cons v18SheetsNeighbour (.cons v18SheetsNone (.cons v18SheetsCheck (.cons v19SheetsUnits (.cons v19SheetsCell (.cons v19SheetsNeighbour (.cons v19SheetsNone (.cons v19SheetsCheck (.cons v20SheetsUnits (.cons v20SheetsCell (.cons v20SheetsNeighbour (.cons v20SheetsNone (.cons v20SheetsCheck (.cons v21SheetsUnits (.cons v21SheetsCell (.cons v21SheetsNeighbour (.cons v21SheetsNone (.cons v21SheetsCheck .nil)))))))))))))))))))
end Go.Am

