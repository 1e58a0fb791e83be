/-
  PART 14 OF THE PROOF: V6 (no conditions).
-/
import Derived.Test.YtkikkjgmadjgjaaGreatDoorPK13
set_option linter.unusedSectionVars false
set_option linter.unusedSimpArgs false
set_option linter.unusedVariables false
set_option linter.constructorNameAsVariable false
set_option linter.defProp false
/-
 PlacesKnown: what its calls answer,part 6.
-/
set_option maxRecDepth 100000
namespace Go.Am
open Sx Go.Proofs
noncomputable def qm_4:KR1:=⟨5,[.i 4,.i 1,.v (.slice (some ⟨0,0,tag 4⟩) 4 0),.v (.slice none 0 0),.i 4,.i 4,.i 4,.i 232,.i 3,.i 5],[(4,[.int .u8 123,.int .i8 5,.bool false,.bool false,.int .u8 121,.int .i8 3,.bool false,.bool false,.int .u8 138,.int .i8 0,.bool true,.bool false,.int .u8 44,.int .i8 2,.bool true,.bool false])],[.b true]⟩
theorem qm_4_ok:KROk qm_4:=au (ok5 aq) rfl (by kernel_rfl) rfl (ah (by kernel_rfl)) (by kernel_rfl)
noncomputable def qa_6:KR1:=⟨6,[.i 6,.i 135,.v (.slice (some ⟨0,0,tag 1⟩) 18 0),.i 6,.i 19,.i 7],[(1,[.int .u8 0,.int .u8 135,.int .u8 0,.int .u8 0,.int .u8 193,.int .u8 0,.int .u8 0,.int .u8 250,.int .u8 0,.int .u8 0,.int .u8 1,.int .u8 0,.int .u8 0,.int .u8 38,.int .u8 0,.int .u8 0,.int .u8 75,.int .u8 0])],[.b true]⟩
theorem qa_6_ok:KROk qa_6:=au (ok6 aq) rfl (by kernel_rfl) rfl (ah (by kernel_rfl)) (by kernel_rfl)
noncomputable def qo_7:KR1:=⟨9,[.i 7,.i 2,.v (.slice (some ⟨0,0,tag 4⟩) 7 0),.v (.slice none 0 0),.i 120],[(4,[.int .u8 135,.int .i8 5,.bool false,.bool false,.int .u8 215,.int .i8 5,.bool false,.bool false,.int .u8 212,.int .i8 4,.bool true,.bool true,.int .u8 242,.int .i8 1,.bool true,.bool false,.int .u8 86,.int .i8 5,.bool true,.bool false,.int .u8 96,.int .i8 2,.bool true,.bool false,.int .u8 42,.int .i8 4,.bool true,.bool true])],[.b true]⟩
theorem qo_7_ok:KROk qo_7:=au (ok9 aq) rfl (by kernel_rfl) rfl (ah (by kernel_rfl)) (by kernel_rfl)
noncomputable def kr6:List KR1:=[qm_4,qa_6,qo_7]
theorem kr6_ok:AllR kr6:=.cons qm_4_ok (.cons qa_6_ok (.cons qo_7_ok (.nil)))
end Go.Am

