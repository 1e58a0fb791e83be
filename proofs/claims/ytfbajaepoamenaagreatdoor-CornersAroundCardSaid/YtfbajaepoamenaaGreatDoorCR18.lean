/-
  PART 18 OF THE PROOF: V11 (no conditions).
-/
import Derived.Test.YtfbajaepoamenaaGreatDoorCR17
set_option linter.unusedSectionVars false
set_option linter.unusedSimpArgs false
set_option linter.unusedVariables false
set_option linter.constructorNameAsVariable false
set_option linter.defProp false
/-
 CornersAround: runs for some sheets.
-/
set_option maxRecDepth 100000
namespace Go.Am
open Sx Go.Proofs
theorem qQ:gu [(4,3,18,0,18),(5,2,14,0,14)]=true:=by kernel_rfl
end Go.Am

