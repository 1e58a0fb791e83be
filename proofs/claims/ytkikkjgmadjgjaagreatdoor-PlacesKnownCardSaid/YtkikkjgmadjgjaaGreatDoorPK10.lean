/-
  PART 10 OF THE PROOF: V2 (no conditions).
-/
import Derived.Test.YtkikkjgmadjgjaaGreatDoorPK9
set_option linter.unusedSectionVars false
set_option linter.unusedSimpArgs false
set_option linter.unusedVariables false
set_option linter.constructorNameAsVariable false
set_option linter.defProp false
/-
 PlacesKnown: what its calls answer,part 2.
-/
set_option maxRecDepth 100000
namespace Go.Am
open Sx Go.Proofs
noncomputable def qf_6:KR1:=⟨4,[.i 6,.i 2,.v (.slice (some ⟨0,0,tag 4⟩) 6 0),.v (.slice none 0 0),.i 6,.i 19,.i 6],[(4,[.int .u8 135,.int .i8 1,.bool false,.bool true,.int .u8 193,.int .i8 1,.bool false,.bool false,.int .u8 250,.int .i8 1,.bool true,.bool false,.int .u8 1,.int .i8 4,.bool false,.bool false,.int .u8 38,.int .i8 3,.bool true,.bool true,.int .u8 75,.int .i8 0,.bool false,.bool true])],[.b true]⟩
theorem qf_6_ok:KROk qf_6:=au (ok4 (mK aq (.cons qk_6_ok .nil))) rfl (by kernel_rfl) rfl (ah (by kernel_rfl)) (by kernel_rfl)
noncomputable def kr2:List KR1:=[qf_6]
theorem kr2_ok:AllR kr2:=.cons qf_6_ok (.nil)
end Go.Am

