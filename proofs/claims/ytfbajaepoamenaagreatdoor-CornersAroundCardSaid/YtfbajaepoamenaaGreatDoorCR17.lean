/-
  PART 17 OF THE PROOF: V10 (no conditions).
-/
import Derived.Test.YtfbajaepoamenaaGreatDoorCR16
set_option linter.unusedSectionVars false
set_option linter.unusedSimpArgs false
set_option linter.unusedVariables false
set_option linter.constructorNameAsVariable false
set_option linter.defProp false
/-
 CornersAround: runs for some sheets.
-/
set_option maxRecDepth 100000
namespace Go.Am
open Sx Go.Proofs
theorem run20_10:gu [(3,5,23,0,23)]=true:=by kernel_rfl
end Go.Am

