/-
  PART 12 OF THE PROOF: V4 (no conditions).
-/
import Derived.Test.YtkikkjgmadjgjaaGreatDoorPK11
set_option linter.unusedSectionVars false
set_option linter.unusedSimpArgs false
set_option linter.unusedVariables false
set_option linter.constructorNameAsVariable false
set_option linter.defProp false
/-
 PlacesKnown: what its calls answer,part 4.
-/
set_option maxRecDepth 100000
namespace Go.Am
open Sx Go.Proofs
noncomputable def qf_9:KR1:=⟨4,[.i 9,.i 3,.v (.slice (some ⟨0,0,tag 4⟩) 9 0),.v (.slice none 0 0),.i 9,.i 13,.i 9],[(4,[.int .u8 251,.int .i8 3,.bool false,.bool false,.int .u8 64,.int .i8 0,.bool true,.bool true,.int .u8 210,.int .i8 3,.bool true,.bool true,.int .u8 86,.int .i8 4,.bool true,.bool false,.int .u8 43,.int .i8 4,.bool false,.bool true,.int .u8 208,.int .i8 1,.bool true,.bool false,.int .u8 140,.int .i8 1,.bool true,.bool true,.int .u8 62,.int .i8 0,.bool true,.bool false,.int .u8 213,.int .i8 5,.bool false,.bool false])],[.b true]⟩
theorem qf_9_ok:KROk qf_9:=au (ok4 aq) rfl (by kernel_rfl) rfl (ah (by kernel_rfl)) (by kernel_rfl)
noncomputable def qa_9:KR1:=⟨6,[.i 9,.i 251,.v (.slice (some ⟨0,0,tag 1⟩) 27 0),.i 1,.i 13,.i 9],[(1,[.int .u8 0,.int .u8 251,.int .u8 0,.int .u8 0,.int .u8 64,.int .u8 0,.int .u8 0,.int .u8 210,.int .u8 0,.int .u8 0,.int .u8 86,.int .u8 0,.int .u8 0,.int .u8 43,.int .u8 0,.int .u8 0,.int .u8 208,.int .u8 0,.int .u8 0,.int .u8 140,.int .u8 0,.int .u8 0,.int .u8 62,.int .u8 0,.int .u8 0,.int .u8 213,.int .u8 0])],[.b true]⟩
theorem qa_9_ok:KROk qa_9:=au (ok6 aq) rfl (by kernel_rfl) rfl (ah (by kernel_rfl)) (by kernel_rfl)
noncomputable def kr4:List KR1:=[qf_9,qa_9]
theorem kr4_ok:AllR kr4:=.cons qf_9_ok (.cons qa_9_ok (.nil))
end Go.Am

