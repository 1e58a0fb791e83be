/-
  PART 16 OF THE PROOF: V8 (no conditions).
-/
import Derived.Test.YtkikkjgmadjgjaaGreatDoorPK15
set_option linter.unusedSectionVars false
set_option linter.unusedSimpArgs false
set_option linter.unusedVariables false
set_option linter.constructorNameAsVariable false
set_option linter.defProp false
/-
 PlacesKnown: what its calls answer,part 8.
-/
set_option maxRecDepth 100000
namespace Go.Am
open Sx Go.Proofs
noncomputable def qe_0:KR1:=⟨10,[.i 1,.i 2,.v (.slice none 0 0),.i 0,.i 1,.i 1],[],[.b true]⟩
theorem qe_0_ok:KROk qe_0:=au (ok10 aq) rfl (by kernel_rfl) rfl (ah (by kernel_rfl)) (by kernel_rfl)
noncomputable def qm_6:KR1:=⟨5,[.i 6,.i 2,.v (.slice (some ⟨0,0,tag 4⟩) 6 0),.v (.slice none 0 0),.i 6,.i 19,.i 6,.i 135,.i 3,.i 5],[(4,[.int .u8 135,.int .i8 1,.bool false,.bool true,.int .u8 193,.int .i8 1,.bool false,.bool false,.int .u8 250,.int .i8 1,.bool true,.bool false,.int .u8 1,.int .i8 4,.bool false,.bool false,.int .u8 38,.int .i8 3,.bool true,.bool true,.int .u8 75,.int .i8 0,.bool false,.bool true])],[.b true]⟩
theorem qm_6_ok:KROk qm_6:=au (ok5 aq) rfl (by kernel_rfl) rfl (ah (by kernel_rfl)) (by kernel_rfl)
noncomputable def qa_7:KR1:=⟨6,[.i 7,.i 135,.v (.slice (some ⟨0,0,tag 1⟩) 21 0),.i 7,.i 16,.i 8],[(1,[.int .u8 0,.int .u8 135,.int .u8 0,.int .u8 0,.int .u8 215,.int .u8 0,.int .u8 0,.int .u8 212,.int .u8 0,.int .u8 0,.int .u8 242,.int .u8 0,.int .u8 0,.int .u8 86,.int .u8 0,.int .u8 0,.int .u8 96,.int .u8 0,.int .u8 0,.int .u8 42,.int .u8 0])],[.b true]⟩
theorem qa_7_ok:KROk qa_7:=au (ok6 aq) rfl (by kernel_rfl) rfl (ah (by kernel_rfl)) (by kernel_rfl)
noncomputable def kr8:List KR1:=[qe_0,qm_6,qa_7]
theorem kr8_ok:AllR kr8:=.cons qe_0_ok (.cons qm_6_ok (.cons qa_7_ok (.nil)))
end Go.Am

