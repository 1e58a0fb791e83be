/-
  PART 19 OF THE PROOF: V12 (no conditions).
-/
import Derived.Test.YtfbajaepoamenaaGreatDoorCR18
set_option linter.unusedSectionVars false
set_option linter.unusedSimpArgs false
set_option linter.unusedVariables false
set_option linter.constructorNameAsVariable false
set_option linter.defProp false
/-
 CornersAround: runs for some sheets.
-/
set_option maxRecDepth 100000
namespace Go.Am
open Sx Go.Proofs
theorem qR:gu [(3,4,18,0,18),(2,5,14,0,14)]=true:=by kernel_rfl
end Go.Am

