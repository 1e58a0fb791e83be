/-
  PART 15 OF THE PROOF: V8 (no conditions).
-/
import Derived.Test.YtfbajaepoamenaaGreatDoorCR14
set_option linter.unusedSectionVars false
set_option linter.unusedSimpArgs false
set_option linter.unusedVariables false
set_option linter.constructorNameAsVariable false
set_option linter.defProp false
/-
 CornersAround: runs for some sheets.
-/
set_option maxRecDepth 100000
namespace Go.Am
open Sx Go.Proofs
theorem run20_8:gu [(4,4,25,0,25)]=true:=by kernel_rfl
end Go.Am

