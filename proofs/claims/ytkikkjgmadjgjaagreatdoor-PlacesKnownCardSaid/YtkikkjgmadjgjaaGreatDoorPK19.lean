/-
  PART 19 OF THE PROOF: V11 (no conditions).
-/
import Derived.Test.YtkikkjgmadjgjaaGreatDoorPK18
set_option linter.unusedSectionVars false
set_option linter.unusedSimpArgs false
set_option linter.unusedVariables false
set_option linter.constructorNameAsVariable false
set_option linter.defProp false
/-
 PlacesKnown: what its calls answer,part 11.
-/
set_option maxRecDepth 100000
namespace Go.Am
open Sx Go.Proofs
noncomputable def qm_0:KR1:=⟨5,[.i 0,.i 0,.v (.slice none 0 0),.v (.slice none 0 0),.i 0,.i 1,.i 0,.i 1,.i 3,.i 5],[],[.b true]⟩
theorem qm_0_ok:KROk qm_0:=au (ok5 aq) rfl (by kernel_rfl) rfl (ah (by kernel_rfl)) (by kernel_rfl)
noncomputable def qa_2:KR1:=⟨6,[.i 2,.i 42,.v (.slice (some ⟨0,0,tag 1⟩) 6 0),.i 2,.i 1,.i 3],[(1,[.int .u8 0,.int .u8 42,.int .u8 0,.int .u8 0,.int .u8 33,.int .u8 0])],[.b true]⟩
theorem qa_2_ok:KROk qa_2:=au (ok6 aq) rfl (by kernel_rfl) rfl (ah (by kernel_rfl)) (by kernel_rfl)
noncomputable def qe_2:KR1:=⟨10,[.i 3,.i 3,.v (.slice (some ⟨0,0,tag 3⟩) 2 0),.i 2,.i 1,.i 3],[(3,[.int .i64 0,.int .u8 2,.int .u8 2,.int .i64 2,.int .u8 0,.int .u8 1])],[.b true]⟩
theorem qe_2_ok:KROk qe_2:=au (ok10 aq) rfl (by kernel_rfl) rfl (ah (by kernel_rfl)) (by kernel_rfl)
noncomputable def qa_3:KR1:=⟨6,[.i 3,.i 17,.v (.slice (some ⟨0,0,tag 1⟩) 9 0),.i 3,.i 15,.i 3],[(1,[.int .u8 0,.int .u8 17,.int .u8 0,.int .u8 0,.int .u8 118,.int .u8 0,.int .u8 0,.int .u8 67,.int .u8 0])],[.b true]⟩
theorem qa_3_ok:KROk qa_3:=au (ok6 aq) rfl (by kernel_rfl) rfl (ah (by kernel_rfl)) (by kernel_rfl)
noncomputable def qe_6:KR1:=⟨10,[.i 3,.i 4,.v (.slice (some ⟨0,0,tag 3⟩) 6 0),.i 6,.i 19,.i 7],[(3,[.int .i64 0,.int .u8 2,.int .u8 3,.int .i64 2,.int .u8 0,.int .u8 1,.int .i64 4,.int .u8 2,.int .u8 2,.int .i64 6,.int .u8 0,.int .u8 1,.int .i64 8,.int .u8 2,.int .u8 2,.int .i64 10,.int .u8 1,.int .u8 3])],[.b true]⟩
theorem qe_6_ok:KROk qe_6:=au (ok10 aq) rfl (by kernel_rfl) rfl (ah (by kernel_rfl)) (by kernel_rfl)
noncomputable def qm_8:KR1:=⟨5,[.i 8,.i 2,.v (.slice (some ⟨0,0,tag 4⟩) 8 0),.v (.slice none 0 0),.i 8,.i 7,.i 8,.i 251,.i 3,.i 5],[(4,[.int .u8 120,.int .i8 1,.bool true,.bool true,.int .u8 122,.int .i8 2,.bool true,.bool false,.int .u8 5,.int .i8 3,.bool false,.bool false,.int .u8 86,.int .i8 0,.bool true,.bool false,.int .u8 160,.int .i8 0,.bool true,.bool false,.int .u8 63,.int .i8 5,.bool false,.bool false,.int .u8 43,.int .i8 1,.bool false,.bool true,.int .u8 34,.int .i8 4,.bool true,.bool false])],[.b true]⟩
theorem qm_8_ok:KROk qm_8:=au (ok5 aq) rfl (by kernel_rfl) rfl (ah (by kernel_rfl)) (by kernel_rfl)
noncomputable def kr11:List KR1:=[qm_0,qa_2,qe_2,qa_3,qe_6,qm_8]
theorem kr11_ok:AllR kr11:=.cons qm_0_ok (.cons qa_2_ok (.cons qe_2_ok (.cons qa_3_ok (.cons qe_6_ok (.cons qm_8_ok (.nil))))))
end Go.Am

