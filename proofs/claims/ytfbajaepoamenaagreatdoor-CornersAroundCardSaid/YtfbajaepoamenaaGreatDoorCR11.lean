/-
  PART 11 OF THE PROOF: V4 (no conditions).
-/
import Derived.Test.YtfbajaepoamenaaGreatDoorCR10
set_option linter.unusedSectionVars false
set_option linter.unusedSimpArgs false
set_option linter.unusedVariables false
set_option linter.constructorNameAsVariable false
set_option linter.defProp false
/-
 CornersAround: runs for some sheets.
-/
set_option maxRecDepth 100000
namespace Go.Am
open Sx Go.Proofs
theorem run20_4:gu [(5,4,32,0,16)]=true:=by kernel_rfl
end Go.Am

