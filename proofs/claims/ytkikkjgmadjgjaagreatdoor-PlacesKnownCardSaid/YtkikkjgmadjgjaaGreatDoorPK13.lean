/-
  PART 13 OF THE PROOF: V5 (no conditions).
-/
import Derived.Test.YtkikkjgmadjgjaaGreatDoorPK12
set_option linter.unusedSectionVars false
set_option linter.unusedSimpArgs false
set_option linter.unusedVariables false
set_option linter.constructorNameAsVariable false
set_option linter.defProp false
/-
 PlacesKnown: what its calls answer,part 5.
-/
set_option maxRecDepth 100000
namespace Go.Am
open Sx Go.Proofs
noncomputable def qf_8:KR1:=⟨4,[.i 8,.i 2,.v (.slice (some ⟨0,0,tag 4⟩) 8 0),.v (.slice none 0 0),.i 8,.i 7,.i 8],[(4,[.int .u8 120,.int .i8 1,.bool true,.bool true,.int .u8 122,.int .i8 2,.bool true,.bool false,.int .u8 5,.int .i8 3,.bool false,.bool false,.int .u8 86,.int .i8 0,.bool true,.bool false,.int .u8 160,.int .i8 0,.bool true,.bool false,.int .u8 63,.int .i8 5,.bool false,.bool false,.int .u8 43,.int .i8 1,.bool false,.bool true,.int .u8 34,.int .i8 4,.bool true,.bool false])],[.b true]⟩
theorem qf_8_ok:KROk qf_8:=au (ok4 aq) rfl (by kernel_rfl) rfl (ah (by kernel_rfl)) (by kernel_rfl)
noncomputable def qm_9:KR1:=⟨5,[.i 9,.i 3,.v (.slice (some ⟨0,0,tag 4⟩) 9 0),.v (.slice none 0 0),.i 9,.i 13,.i 9,.i 105,.i 3,.i 5],[(4,[.int .u8 251,.int .i8 3,.bool false,.bool false,.int .u8 64,.int .i8 0,.bool true,.bool true,.int .u8 210,.int .i8 3,.bool true,.bool true,.int .u8 86,.int .i8 4,.bool true,.bool false,.int .u8 43,.int .i8 4,.bool false,.bool true,.int .u8 208,.int .i8 1,.bool true,.bool false,.int .u8 140,.int .i8 1,.bool true,.bool true,.int .u8 62,.int .i8 0,.bool true,.bool false,.int .u8 213,.int .i8 5,.bool false,.bool false])],[.b true]⟩
theorem qm_9_ok:KROk qm_9:=au (ok5 aq) rfl (by kernel_rfl) rfl (ah (by kernel_rfl)) (by kernel_rfl)
noncomputable def kr5:List KR1:=[qf_8,qm_9]
theorem kr5_ok:AllR kr5:=.cons qf_8_ok (.cons qm_9_ok (.nil))
end Go.Am

