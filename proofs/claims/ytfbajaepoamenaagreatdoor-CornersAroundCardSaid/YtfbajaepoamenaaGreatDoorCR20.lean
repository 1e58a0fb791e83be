/-
  PART 20 OF THE PROOF: V13 (no conditions).
-/
import Derived.Test.YtfbajaepoamenaaGreatDoorCR19
set_option linter.unusedSectionVars false
set_option linter.unusedSimpArgs false
set_option linter.unusedVariables false
set_option linter.constructorNameAsVariable false
set_option linter.defProp false
/-
 CornersAround: runs for some sheets.
-/
set_option maxRecDepth 100000
namespace Go.Am
open Sx Go.Proofs
theorem nu:gu [(4,2,11,0,11),(2,4,11,0,11),(3,3,13,0,13)]=true:=by kernel_rfl
end Go.Am

