/-
  PART 10 OF THE PROOF: V3 (no conditions).
-/
import Derived.Test.YtfbajaepoamenaaGreatDoorCR9
set_option linter.unusedSectionVars false
set_option linter.unusedSimpArgs false
set_option linter.unusedVariables false
set_option linter.constructorNameAsVariable false
set_option linter.defProp false
/-
 CornersAround: runs for some sheets.
-/
set_option maxRecDepth 100000
namespace Go.Am
open Sx Go.Proofs
theorem run20_3:gu [(5,5,41,28,13)]=true:=by kernel_rfl
end Go.Am

