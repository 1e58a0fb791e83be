/-
  PART 12 OF THE PROOF: U5 (no conditions).
-/
import Derived.Test.YtdfpmkmlomjonaaGreatDoorB11
set_option linter.unusedSectionVars false
set_option linter.unusedSimpArgs false
set_option linter.unusedVariables false
set_option linter.constructorNameAsVariable false
set_option linter.defProp false
/-
 CornersAll: runs for sheets 5 wide.
-/
set_option maxRecDepth 100000
namespace Go.Am
open Sx Go.Proofs
theorem run10_5 : qV 5 = true := by kernel_rfl
end Go.Am

