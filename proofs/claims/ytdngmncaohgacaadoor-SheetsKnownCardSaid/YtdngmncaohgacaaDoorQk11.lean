/-
  PART 11 OF THE PROOF: V5 (no conditions).
-/
import Derived.Test.YtdngmncaohgacaaDoorQk10
set_option linter.unusedSectionVars false
set_option linter.unusedSimpArgs false
set_option linter.unusedVariables false
set_option linter.constructorNameAsVariable false
set_option linter.defProp false
/-
  SheetsKnown: what its calls answer, part 5.
-/
set_option maxRecDepth 100000
namespace Go.Am
open Sx Go.Proofs
theorem v22SheetsUnits : ∀ H, CallL cc sgTab 4 [.i 22, .i 4] H [.b true] H := known_of (n := 60) rfl (by kernel_rfl) rfl (by kernel_rfl) (by kernel_rfl)
theorem v22SheetsCell : ∀ H, CallL cc sgTab 7 [.i 22, .i 4, .i 16, .i 6, .i 2, .i 1] H [.b true] H := known_of (n := 60) rfl (by kernel_rfl) rfl (by kernel_rfl) (by kernel_rfl)
theorem v22SheetsNeighbour : ∀ H, CallL cc sgTab 3 [.i 22, .i 4, .i 76, .i 2] H [.b true] H := known_of (n := 60) rfl (by kernel_rfl) rfl (by kernel_rfl) (by kernel_rfl)
theorem v22SheetsNone : ∀ H, CallL cc sgTab 5 [.i 22, .i 4, .i 56, .i 2] H [.b true] H := known_of (n := 60) rfl (by kernel_rfl) rfl (by kernel_rfl) (by kernel_rfl)
theorem v22SheetsCheck : ∀ H, CallL cc sgTab 6 [.i 286, .i 4, .i 22] H [.b true] H := known_of (n := 60) rfl (by kernel_rfl) rfl (by kernel_rfl) (by kernel_rfl)
theorem v23SheetsUnits : ∀ H, CallL cc sgTab 4 [.i 23, .i 4] H [.b true] H := known_of (n := 60) rfl (by kernel_rfl) rfl (by kernel_rfl) (by kernel_rfl)
theorem v23SheetsCell : ∀ H, CallL cc sgTab 7 [.i 23, .i 4, .i (-1), .i 1, .i 2, .i 4] H [.b true] H := known_of (n := 60) rfl (by kernel_rfl) rfl (by kernel_rfl) (by kernel_rfl)
theorem v23SheetsNeighbour : ∀ H, CallL cc sgTab 3 [.i 23, .i 4, .i 29, .i 3] H [.b true] H := known_of (n := 60) rfl (by kernel_rfl) rfl (by kernel_rfl) (by kernel_rfl)
theorem v23SheetsNone : ∀ H, CallL cc sgTab 5 [.i 23, .i 4, .i 9, .i 1] H [.b true] H := known_of (n := 60) rfl (by kernel_rfl) rfl (by kernel_rfl) (by kernel_rfl)
theorem v23SheetsCheck : ∀ H, CallL cc sgTab 6 [.i 299, .i 7, .i 23] H [.b true] H := known_of (n := 60) rfl (by kernel_rfl) rfl (by kernel_rfl) (by kernel_rfl)
theorem v24SheetsUnits : ∀ H, CallL cc sgTab 4 [.i 24, .i 4] H [.b true] H := known_of (n := 60) rfl (by kernel_rfl) rfl (by kernel_rfl) (by kernel_rfl)
theorem v24SheetsCell : ∀ H, CallL cc sgTab 7 [.i 24, .i 4, .i 72, .i 4, .i 0, .i 2] H [.b true] H := known_of (n := 60) rfl (by kernel_rfl) rfl (by kernel_rfl) (by kernel_rfl)
theorem v24SheetsNeighbour : ∀ H, CallL cc sgTab 3 [.i 24, .i 4, .i 42, .i 0] H [.b true] H := known_of (n := 60) rfl (by kernel_rfl) rfl (by kernel_rfl) (by kernel_rfl)
theorem v24SheetsNone : ∀ H, CallL cc sgTab 5 [.i 24, .i 4, .i 52, .i 2] H [.b true] H := known_of (n := 60) rfl (by kernel_rfl) rfl (by kernel_rfl) (by kernel_rfl)
theorem v24SheetsCheck : ∀ H, CallL cc sgTab 6 [.i 312, .i 0, .i 24] H [.b true] H := known_of (n := 60) rfl (by kernel_rfl) rfl (by kernel_rfl) (by kernel_rfl)
def kn5 : List KN1 := [(4, [.i 22, .i 4], [.b true]), (7, [.i 22, .i 4, .i 16, .i 6, .i 2, .i 1], [.b true]), (3, [.i 22, .i 4, .i 76, .i 2], [.b true]), (5, [.i 22, .i 4, .i 56, .i 2], [.b true]), (6, [.i 286, .i 4, .i 22], [.b true]), (4, [.i 23, .i 4], [.b true]), (7, [.i 23, .i 4, .i (-1), .i 1, .i 2, .i 4], [.b true]), (3, [.i 23, .i 4, .i 29, .i 3], [.b true]), (5, [.i 23, .i 4, .i 9, .i 1], [.b true]), (6, [.i 299, .i 7, .i 23], [.b true]), (4, [.i 24, .i 4], [.b true]), (7, [.i 24, .i 4, .i 72, .i 4, .i 0, .i 2], [.b true]), (3, [.i 24, .i 4, .i 42, .i 0], [.b true]), (5, [.i 24, .i 4, .i 52, .i 2], [.b true]), (6, [.i 312, .i 0, .i 24], [.b true])]
theorem kn5_ok : AllK cc sgTab kn5 := .cons v22SheetsUnits (.cons v22SheetsCell (.cons v22SheetsNeighbour (.cons v22SheetsNone (.cons v22SheetsCheck (.cons v23SheetsUnits (.cons v23SheetsCell (.cons v23SheetsNeighbour (.cons v23SheetsNone (.cons v23SheetsCheck (.cons v24SheetsUnits (.cons v24SheetsCell (.cons v24SheetsNeighbour (.cons v24SheetsNone (.cons v24SheetsCheck .nil))))))))))))))
end Go.Am

