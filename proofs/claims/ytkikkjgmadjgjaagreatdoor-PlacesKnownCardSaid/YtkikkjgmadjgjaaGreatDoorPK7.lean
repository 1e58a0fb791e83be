/-
  PART 7 OF THE PROOF: V15 (no conditions).
-/
import Derived.Test.YtkikkjgmadjgjaaGreatDoorPK6
set_option linter.unusedSectionVars false
set_option linter.unusedSimpArgs false
set_option linter.unusedVariables false
set_option linter.constructorNameAsVariable false
set_option linter.defProp false
/-
 PlacesKnown: what its calls answer,a part of part 1.
-/
set_option maxRecDepth 100000
namespace Go.Am
open Sx Go.Proofs
noncomputable def qk_7:KR1:=⟨17,[.i 4,.i 3,.v (.slice (some ⟨0,0,tag 3⟩) 2 0),.i 7,.i 16,.i 8],[(3,[.int .i64 0,.int .u8 1,.int .u8 2,.int .i64 2,.int .u8 1,.int .u8 2])],[.b true]⟩
theorem qk_7_ok:KROk qk_7:=au (ok17 aq) rfl (by kernel_rfl) rfl (ah (by kernel_rfl)) (by kernel_rfl)
end Go.Am

