/-
  PART 13 OF THE PROOF: V6 (no conditions).
-/
import Derived.Test.YtfbajaepoamenaaGreatDoorCR12
set_option linter.unusedSectionVars false
set_option linter.unusedSimpArgs false
set_option linter.unusedVariables false
set_option linter.constructorNameAsVariable false
set_option linter.defProp false
/-
 CornersAround: runs for some sheets.
-/
set_option maxRecDepth 100000
namespace Go.Am
open Sx Go.Proofs
theorem run20_6:gu [(4,5,32,0,16)]=true:=by kernel_rfl
end Go.Am

