/-
  PART 11 OF THE PROOF: U4 (no conditions).
-/
import Derived.Test.YtdfpmkmlomjonaaGreatDoorB10
set_option linter.unusedSectionVars false
set_option linter.unusedSimpArgs false
set_option linter.unusedVariables false
set_option linter.constructorNameAsVariable false
set_option linter.defProp false
/-
 CornersAll: runs for sheets 4 wide.
-/
set_option maxRecDepth 100000
namespace Go.Am
open Sx Go.Proofs
theorem run10_4 : qV 4 = true := by kernel_rfl
end Go.Am

