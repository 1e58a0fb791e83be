/-
  PART 21 OF THE PROOF: V14 (no conditions).
-/
import Derived.Test.YtfbajaepoamenaaGreatDoorCR20
set_option linter.unusedSectionVars false
set_option linter.unusedSimpArgs false
set_option linter.unusedVariables false
set_option linter.constructorNameAsVariable false
set_option linter.defProp false
/-
 CornersAround: runs for some sheets.
-/
set_option maxRecDepth 100000
namespace Go.Am
open Sx Go.Proofs
theorem cC:gu [(1,1,1,0,1),(1,2,2,0,2),(1,3,3,0,3),(1,4,4,0,4),(1,5,5,0,5),(2,1,2,0,2),(2,2,5,0,5),(2,3,8,0,8),(3,1,3,0,3),(3,2,8,0,8),(4,1,4,0,4),(5,1,5,0,5)]=true:=by kernel_rfl
end Go.Am

