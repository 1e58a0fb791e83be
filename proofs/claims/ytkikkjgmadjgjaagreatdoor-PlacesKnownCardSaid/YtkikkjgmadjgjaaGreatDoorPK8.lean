/-
  PART 8 OF THE PROOF: V1 (no conditions).
-/
import Derived.Test.YtkikkjgmadjgjaaGreatDoorPK7
set_option linter.unusedSectionVars false
set_option linter.unusedSimpArgs false
set_option linter.unusedVariables false
set_option linter.constructorNameAsVariable false
set_option linter.defProp false
/-
 PlacesKnown: what its calls answer,part 1.
-/
set_option maxRecDepth 100000
namespace Go.Am
open Sx Go.Proofs
noncomputable def qf_7:KR1:=⟨4,[.i 7,.i 2,.v (.slice (some ⟨0,0,tag 4⟩) 7 0),.v (.slice none 0 0),.i 7,.i 16,.i 7],[(4,[.int .u8 135,.int .i8 5,.bool false,.bool false,.int .u8 215,.int .i8 5,.bool false,.bool false,.int .u8 212,.int .i8 4,.bool true,.bool true,.int .u8 242,.int .i8 1,.bool true,.bool false,.int .u8 86,.int .i8 5,.bool true,.bool false,.int .u8 96,.int .i8 2,.bool true,.bool false,.int .u8 42,.int .i8 4,.bool true,.bool true])],[.b true]⟩
theorem qf_7_ok:KROk qf_7:=au (ok4 (mK aq (.cons qk_7_ok .nil))) rfl (by kernel_rfl) rfl (ah (by kernel_rfl)) (by kernel_rfl)
noncomputable def kr1:List KR1:=[qf_7]
theorem kr1_ok:AllR kr1:=.cons qf_7_ok (.nil)
end Go.Am

