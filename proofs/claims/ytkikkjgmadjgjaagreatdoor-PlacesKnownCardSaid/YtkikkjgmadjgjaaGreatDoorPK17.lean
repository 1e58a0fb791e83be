/-
  PART 17 OF THE PROOF: V9 (no conditions).
-/
import Derived.Test.YtkikkjgmadjgjaaGreatDoorPK16
set_option linter.unusedSectionVars false
set_option linter.unusedSimpArgs false
set_option linter.unusedVariables false
set_option linter.constructorNameAsVariable false
set_option linter.defProp false
/-
 PlacesKnown: what its calls answer,part 9.
-/
set_option maxRecDepth 100000
namespace Go.Am
open Sx Go.Proofs
noncomputable def qf_2:KR1:=⟨4,[.i 2,.i 0,.v (.slice (some ⟨0,0,tag 4⟩) 2 0),.v (.slice none 0 0),.i 2,.i 1,.i 2],[(4,[.int .u8 42,.int .i8 2,.bool true,.bool true,.int .u8 33,.int .i8 4,.bool false,.bool false])],[.b true]⟩
theorem qf_2_ok:KROk qf_2:=au (ok4 aq) rfl (by kernel_rfl) rfl (ah (by kernel_rfl)) (by kernel_rfl)
noncomputable def qf_5:KR1:=⟨4,[.i 5,.i 1,.v (.slice (some ⟨0,0,tag 4⟩) 5 0),.v (.slice none 0 0),.i 5,.i 19,.i 5],[(4,[.int .u8 232,.int .i8 4,.bool true,.bool true,.int .u8 219,.int .i8 4,.bool false,.bool false,.int .u8 244,.int .i8 5,.bool true,.bool false,.int .u8 118,.int .i8 3,.bool true,.bool true,.int .u8 151,.int .i8 1,.bool false,.bool true])],[.b true]⟩
theorem qf_5_ok:KROk qf_5:=au (ok4 aq) rfl (by kernel_rfl) rfl (ah (by kernel_rfl)) (by kernel_rfl)
noncomputable def qo_9:KR1:=⟨9,[.i 9,.i 3,.v (.slice (some ⟨0,0,tag 4⟩) 9 0),.v (.slice none 0 0),.i 105],[(4,[.int .u8 251,.int .i8 3,.bool false,.bool false,.int .u8 64,.int .i8 0,.bool true,.bool true,.int .u8 210,.int .i8 3,.bool true,.bool true,.int .u8 86,.int .i8 4,.bool true,.bool false,.int .u8 43,.int .i8 4,.bool false,.bool true,.int .u8 208,.int .i8 1,.bool true,.bool false,.int .u8 140,.int .i8 1,.bool true,.bool true,.int .u8 62,.int .i8 0,.bool true,.bool false,.int .u8 213,.int .i8 5,.bool false,.bool false])],[.b true]⟩
theorem qo_9_ok:KROk qo_9:=au (ok9 aq) rfl (by kernel_rfl) rfl (ah (by kernel_rfl)) (by kernel_rfl)
noncomputable def kr9:List KR1:=[qf_2,qf_5,qo_9]
theorem kr9_ok:AllR kr9:=.cons qf_2_ok (.cons qf_5_ok (.cons qo_9_ok (.nil)))
end Go.Am

