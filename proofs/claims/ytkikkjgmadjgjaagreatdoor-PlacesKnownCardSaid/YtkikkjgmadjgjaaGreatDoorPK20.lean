/-
  PART 20 OF THE PROOF: V12 (no conditions).
-/
import Derived.Test.YtkikkjgmadjgjaaGreatDoorPK19
set_option linter.unusedSectionVars false
set_option linter.unusedSimpArgs false
set_option linter.unusedVariables false
set_option linter.constructorNameAsVariable false
set_option linter.defProp false
/-
 PlacesKnown: what its calls answer,part 12.
-/
set_option maxRecDepth 100000
namespace Go.Am
open Sx Go.Proofs
noncomputable def qf_1:KR1:=⟨4,[.i 1,.i 0,.v (.slice (some ⟨0,0,tag 4⟩) 1 0),.v (.slice none 0 0),.i 1,.i 2,.i 1],[(4,[.int .u8 1,.int .i8 0,.bool false,.bool false])],[.b true]⟩
theorem qf_1_ok:KROk qf_1:=au (ok4 aq) rfl (by kernel_rfl) rfl (ah (by kernel_rfl)) (by kernel_rfl)
noncomputable def qe_3:KR1:=⟨10,[.i 4,.i 2,.v (.slice (some ⟨0,0,tag 3⟩) 3 0),.i 3,.i 15,.i 3],[(3,[.int .i64 0,.int .u8 2,.int .u8 1,.int .i64 2,.int .u8 0,.int .u8 2,.int .i64 4,.int .u8 2,.int .u8 3])],[.b true]⟩
theorem qe_3_ok:KROk qe_3:=au (ok10 aq) rfl (by kernel_rfl) rfl (ah (by kernel_rfl)) (by kernel_rfl)
noncomputable def qf_4:KR1:=⟨4,[.i 4,.i 1,.v (.slice (some ⟨0,0,tag 4⟩) 4 0),.v (.slice none 0 0),.i 4,.i 4,.i 4],[(4,[.int .u8 123,.int .i8 5,.bool false,.bool false,.int .u8 121,.int .i8 3,.bool false,.bool false,.int .u8 138,.int .i8 0,.bool true,.bool false,.int .u8 44,.int .i8 2,.bool true,.bool false])],[.b true]⟩
theorem qf_4_ok:KROk qf_4:=au (ok4 aq) rfl (by kernel_rfl) rfl (ah (by kernel_rfl)) (by kernel_rfl)
noncomputable def qa_4:KR1:=⟨6,[.i 4,.i 123,.v (.slice (some ⟨0,0,tag 1⟩) 12 0),.i 4,.i 4,.i 4],[(1,[.int .u8 0,.int .u8 123,.int .u8 0,.int .u8 0,.int .u8 121,.int .u8 0,.int .u8 0,.int .u8 138,.int .u8 0,.int .u8 0,.int .u8 44,.int .u8 0])],[.b true]⟩
theorem qa_4_ok:KROk qa_4:=au (ok6 aq) rfl (by kernel_rfl) rfl (ah (by kernel_rfl)) (by kernel_rfl)
noncomputable def qm_5:KR1:=⟨5,[.i 5,.i 1,.v (.slice (some ⟨0,0,tag 4⟩) 5 0),.v (.slice none 0 0),.i 5,.i 19,.i 5,.i 135,.i 3,.i 5],[(4,[.int .u8 232,.int .i8 4,.bool true,.bool true,.int .u8 219,.int .i8 4,.bool false,.bool false,.int .u8 244,.int .i8 5,.bool true,.bool false,.int .u8 118,.int .i8 3,.bool true,.bool true,.int .u8 151,.int .i8 1,.bool false,.bool true])],[.b true]⟩
theorem qm_5_ok:KROk qm_5:=au (ok5 aq) rfl (by kernel_rfl) rfl (ah (by kernel_rfl)) (by kernel_rfl)
noncomputable def qo_5:KR1:=⟨9,[.i 5,.i 1,.v (.slice (some ⟨0,0,tag 4⟩) 5 0),.v (.slice none 0 0),.i 135],[(4,[.int .u8 232,.int .i8 4,.bool true,.bool true,.int .u8 219,.int .i8 4,.bool false,.bool false,.int .u8 244,.int .i8 5,.bool true,.bool false,.int .u8 118,.int .i8 3,.bool true,.bool true,.int .u8 151,.int .i8 1,.bool false,.bool true])],[.b true]⟩
theorem qo_5_ok:KROk qo_5:=au (ok9 aq) rfl (by kernel_rfl) rfl (ah (by kernel_rfl)) (by kernel_rfl)
noncomputable def qe_5:KR1:=⟨10,[.i 2,.i 1,.v (.slice (some ⟨0,0,tag 3⟩) 1 0),.i 5,.i 19,.i 5],[(3,[.int .i64 2,.int .u8 1,.int .u8 3])],[.b true]⟩
theorem qe_5_ok:KROk qe_5:=au (ok10 aq) rfl (by kernel_rfl) rfl (ah (by kernel_rfl)) (by kernel_rfl)
noncomputable def qo_8:KR1:=⟨9,[.i 8,.i 2,.v (.slice (some ⟨0,0,tag 4⟩) 8 0),.v (.slice none 0 0),.i 251],[(4,[.int .u8 120,.int .i8 1,.bool true,.bool true,.int .u8 122,.int .i8 2,.bool true,.bool false,.int .u8 5,.int .i8 3,.bool false,.bool false,.int .u8 86,.int .i8 0,.bool true,.bool false,.int .u8 160,.int .i8 0,.bool true,.bool false,.int .u8 63,.int .i8 5,.bool false,.bool false,.int .u8 43,.int .i8 1,.bool false,.bool true,.int .u8 34,.int .i8 4,.bool true,.bool false])],[.b true]⟩
theorem qo_8_ok:KROk qo_8:=au (ok9 aq) rfl (by kernel_rfl) rfl (ah (by kernel_rfl)) (by kernel_rfl)
noncomputable def kr12:List KR1:=[qf_1,qe_3,qf_4,qa_4,qm_5,qo_5,qe_5,qo_8]
theorem kr12_ok:AllR kr12:=.cons qf_1_ok (.cons qe_3_ok (.cons qf_4_ok (.cons qa_4_ok (.cons qm_5_ok (.cons qo_5_ok (.cons qe_5_ok (.cons qo_8_ok (.nil))))))))
end Go.Am

