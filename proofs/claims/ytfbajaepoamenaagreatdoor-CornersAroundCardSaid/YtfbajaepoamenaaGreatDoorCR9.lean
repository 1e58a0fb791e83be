/-
  PART 9 OF THE PROOF: V2 (no conditions).
-/
import Derived.Test.YtfbajaepoamenaaGreatDoorCR8
set_option linter.unusedSectionVars false
set_option linter.unusedSimpArgs false
set_option linter.unusedVariables false
set_option linter.constructorNameAsVariable false
set_option linter.defProp false
/-
 CornersAround: runs for some sheets.
-/
set_option maxRecDepth 100000
namespace Go.Am
open Sx Go.Proofs
theorem run20_2:gu [(5,5,41,14,14)]=true:=by kernel_rfl
end Go.Am

