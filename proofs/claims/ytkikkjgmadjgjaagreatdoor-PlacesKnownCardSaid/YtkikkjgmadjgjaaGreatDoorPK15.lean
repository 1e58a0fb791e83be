/-
  PART 15 OF THE PROOF: V7 (no conditions).
-/
import Derived.Test.YtkikkjgmadjgjaaGreatDoorPK14
set_option linter.unusedSectionVars false
set_option linter.unusedSimpArgs false
set_option linter.unusedVariables false
set_option linter.constructorNameAsVariable false
set_option linter.defProp false
/-
 PlacesKnown: what its calls answer,part 7.
-/
set_option maxRecDepth 100000
namespace Go.Am
open Sx Go.Proofs
noncomputable def qm_1:KR1:=⟨5,[.i 1,.i 0,.v (.slice (some ⟨0,0,tag 4⟩) 1 0),.v (.slice none 0 0),.i 1,.i 2,.i 1,.i 42,.i 3,.i 5],[(4,[.int .u8 1,.int .i8 0,.bool false,.bool false])],[.b true]⟩
theorem qm_1_ok:KROk qm_1:=au (ok5 aq) rfl (by kernel_rfl) rfl (ah (by kernel_rfl)) (by kernel_rfl)
noncomputable def qo_6:KR1:=⟨9,[.i 6,.i 2,.v (.slice (some ⟨0,0,tag 4⟩) 6 0),.v (.slice none 0 0),.i 135],[(4,[.int .u8 135,.int .i8 1,.bool false,.bool true,.int .u8 193,.int .i8 1,.bool false,.bool false,.int .u8 250,.int .i8 1,.bool true,.bool false,.int .u8 1,.int .i8 4,.bool false,.bool false,.int .u8 38,.int .i8 3,.bool true,.bool true,.int .u8 75,.int .i8 0,.bool false,.bool true])],[.b true]⟩
theorem qo_6_ok:KROk qo_6:=au (ok9 aq) rfl (by kernel_rfl) rfl (ah (by kernel_rfl)) (by kernel_rfl)
noncomputable def qm_7:KR1:=⟨5,[.i 7,.i 2,.v (.slice (some ⟨0,0,tag 4⟩) 7 0),.v (.slice none 0 0),.i 7,.i 16,.i 7,.i 120,.i 3,.i 5],[(4,[.int .u8 135,.int .i8 5,.bool false,.bool false,.int .u8 215,.int .i8 5,.bool false,.bool false,.int .u8 212,.int .i8 4,.bool true,.bool true,.int .u8 242,.int .i8 1,.bool true,.bool false,.int .u8 86,.int .i8 5,.bool true,.bool false,.int .u8 96,.int .i8 2,.bool true,.bool false,.int .u8 42,.int .i8 4,.bool true,.bool true])],[.b true]⟩
theorem qm_7_ok:KROk qm_7:=au (ok5 aq) rfl (by kernel_rfl) rfl (ah (by kernel_rfl)) (by kernel_rfl)
noncomputable def kr7:List KR1:=[qm_1,qo_6,qm_7]
theorem kr7_ok:AllR kr7:=.cons qm_1_ok (.cons qo_6_ok (.cons qm_7_ok (.nil)))
end Go.Am

