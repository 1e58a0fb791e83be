/-
  PART 18 OF THE PROOF: V10 (no conditions).
-/
import Derived.Test.YtkikkjgmadjgjaaGreatDoorPK17
set_option linter.unusedSectionVars false
set_option linter.unusedSimpArgs false
set_option linter.unusedVariables false
set_option linter.constructorNameAsVariable false
set_option linter.defProp false
/-
 PlacesKnown: what its calls answer,part 10.
-/
set_option maxRecDepth 100000
namespace Go.Am
open Sx Go.Proofs
noncomputable def qm_3:KR1:=⟨5,[.i 3,.i 1,.v (.slice (some ⟨0,0,tag 4⟩) 3 0),.v (.slice none 0 0),.i 3,.i 15,.i 3,.i 123,.i 3,.i 5],[(4,[.int .u8 17,.int .i8 2,.bool false,.bool false,.int .u8 118,.int .i8 3,.bool true,.bool false,.int .u8 67,.int .i8 5,.bool false,.bool true])],[.b true]⟩
theorem qm_3_ok:KROk qm_3:=au (ok5 aq) rfl (by kernel_rfl) rfl (ah (by kernel_rfl)) (by kernel_rfl)
noncomputable def qo_3:KR1:=⟨9,[.i 3,.i 1,.v (.slice (some ⟨0,0,tag 4⟩) 3 0),.v (.slice none 0 0),.i 123],[(4,[.int .u8 17,.int .i8 2,.bool false,.bool false,.int .u8 118,.int .i8 3,.bool true,.bool false,.int .u8 67,.int .i8 5,.bool false,.bool true])],[.b true]⟩
theorem qo_3_ok:KROk qo_3:=au (ok9 aq) rfl (by kernel_rfl) rfl (ah (by kernel_rfl)) (by kernel_rfl)
noncomputable def qe_7:KR1:=⟨10,[.i 4,.i 4,.v (.slice (some ⟨0,0,tag 3⟩) 5 0),.i 7,.i 16,.i 8],[(3,[.int .i64 0,.int .u8 2,.int .u8 3,.int .i64 2,.int .u8 0,.int .u8 3,.int .i64 6,.int .u8 0,.int .u8 2,.int .i64 8,.int .u8 2,.int .u8 2,.int .i64 12,.int .u8 2,.int .u8 2])],[.b true]⟩
theorem qe_7_ok:KROk qe_7:=au (ok10 aq) rfl (by kernel_rfl) rfl (ah (by kernel_rfl)) (by kernel_rfl)
noncomputable def qe_9:KR1:=⟨10,[.i 2,.i 4,.v (.slice (some ⟨0,0,tag 3⟩) 6 0),.i 1,.i 13,.i 9],[(3,[.int .i64 0,.int .u8 2,.int .u8 3,.int .i64 4,.int .u8 2,.int .u8 2,.int .i64 6,.int .u8 1,.int .u8 2,.int .i64 9,.int .u8 0,.int .u8 3,.int .i64 16,.int .u8 1,.int .u8 2,.int .i64 17,.int .u8 2,.int .u8 1])],[.b true]⟩
theorem qe_9_ok:KROk qe_9:=au (ok10 aq) rfl (by kernel_rfl) rfl (ah (by kernel_rfl)) (by kernel_rfl)
noncomputable def kr10:List KR1:=[qm_3,qo_3,qe_7,qe_9]
theorem kr10_ok:AllR kr10:=.cons qm_3_ok (.cons qo_3_ok (.cons qe_7_ok (.cons qe_9_ok (.nil))))
end Go.Am

