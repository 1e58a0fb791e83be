/-
  PART 22 OF THE PROOF: V14 (no conditions).
-/
import Derived.Test.YtkikkjgmadjgjaaGreatDoorPK21
set_option linter.unusedSectionVars false
set_option linter.unusedSimpArgs false
set_option linter.unusedVariables false
set_option linter.constructorNameAsVariable false
set_option linter.defProp false
/-
 PlacesKnown: what its calls answer,part 14.
-/
set_option maxRecDepth 100000
namespace Go.Am
open Sx Go.Proofs
noncomputable def qf_0:KR1:=⟨4,[.i 0,.i 0,.v (.slice none 0 0),.v (.slice none 0 0),.i 0,.i 1,.i 0],[],[.b true]⟩
theorem qf_0_ok:KROk qf_0:=au (ok4 aq) rfl (by kernel_rfl) rfl (ah (by kernel_rfl)) (by kernel_rfl)
noncomputable def qo_1:KR1:=⟨9,[.i 1,.i 0,.v (.slice (some ⟨0,0,tag 4⟩) 1 0),.v (.slice none 0 0),.i 42],[(4,[.int .u8 1,.int .i8 0,.bool false,.bool false])],[.b true]⟩
theorem qo_1_ok:KROk qo_1:=au (ok9 aq) rfl (by kernel_rfl) rfl (ah (by kernel_rfl)) (by kernel_rfl)
noncomputable def qe_1:KR1:=⟨10,[.i 2,.i 2,.v (.slice (some ⟨0,0,tag 3⟩) 1 0),.i 1,.i 2,.i 2],[(3,[.int .i64 0,.int .u8 2,.int .u8 1])],[.b true]⟩
theorem qe_1_ok:KROk qe_1:=au (ok10 aq) rfl (by kernel_rfl) rfl (ah (by kernel_rfl)) (by kernel_rfl)
noncomputable def qm_2:KR1:=⟨5,[.i 2,.i 0,.v (.slice (some ⟨0,0,tag 4⟩) 2 0),.v (.slice none 0 0),.i 2,.i 1,.i 2,.i 17,.i 3,.i 5],[(4,[.int .u8 42,.int .i8 2,.bool true,.bool true,.int .u8 33,.int .i8 4,.bool false,.bool false])],[.b true]⟩
theorem qm_2_ok:KROk qm_2:=au (ok5 aq) rfl (by kernel_rfl) rfl (ah (by kernel_rfl)) (by kernel_rfl)
noncomputable def qo_2:KR1:=⟨9,[.i 2,.i 0,.v (.slice (some ⟨0,0,tag 4⟩) 2 0),.v (.slice none 0 0),.i 17],[(4,[.int .u8 42,.int .i8 2,.bool true,.bool true,.int .u8 33,.int .i8 4,.bool false,.bool false])],[.b true]⟩
theorem qo_2_ok:KROk qo_2:=au (ok9 aq) rfl (by kernel_rfl) rfl (ah (by kernel_rfl)) (by kernel_rfl)
noncomputable def qo_4:KR1:=⟨9,[.i 4,.i 1,.v (.slice (some ⟨0,0,tag 4⟩) 4 0),.v (.slice none 0 0),.i 232],[(4,[.int .u8 123,.int .i8 5,.bool false,.bool false,.int .u8 121,.int .i8 3,.bool false,.bool false,.int .u8 138,.int .i8 0,.bool true,.bool false,.int .u8 44,.int .i8 2,.bool true,.bool false])],[.b true]⟩
theorem qo_4_ok:KROk qo_4:=au (ok9 aq) rfl (by kernel_rfl) rfl (ah (by kernel_rfl)) (by kernel_rfl)
noncomputable def qa_5:KR1:=⟨6,[.i 5,.i 232,.v (.slice (some ⟨0,0,tag 1⟩) 15 0),.i 5,.i 19,.i 5],[(1,[.int .u8 0,.int .u8 232,.int .u8 0,.int .u8 0,.int .u8 219,.int .u8 0,.int .u8 0,.int .u8 244,.int .u8 0,.int .u8 0,.int .u8 118,.int .u8 0,.int .u8 0,.int .u8 151,.int .u8 0])],[.b true]⟩
theorem qa_5_ok:KROk qa_5:=au (ok6 aq) rfl (by kernel_rfl) rfl (ah (by kernel_rfl)) (by kernel_rfl)
noncomputable def qa_8:KR1:=⟨6,[.i 8,.i 120,.v (.slice (some ⟨0,0,tag 1⟩) 24 0),.i 0,.i 7,.i 9],[(1,[.int .u8 0,.int .u8 120,.int .u8 0,.int .u8 0,.int .u8 122,.int .u8 0,.int .u8 0,.int .u8 5,.int .u8 0,.int .u8 0,.int .u8 86,.int .u8 0,.int .u8 0,.int .u8 160,.int .u8 0,.int .u8 0,.int .u8 63,.int .u8 0,.int .u8 0,.int .u8 43,.int .u8 0,.int .u8 0,.int .u8 34,.int .u8 0])],[.b true]⟩
theorem qa_8_ok:KROk qa_8:=au (ok6 aq) rfl (by kernel_rfl) rfl (ah (by kernel_rfl)) (by kernel_rfl)
noncomputable def qe_8:KR1:=⟨10,[.i 1,.i 1,.v (.slice none 0 0),.i 0,.i 7,.i 9],[],[.b true]⟩
theorem qe_8_ok:KROk qe_8:=au (ok10 aq) rfl (by kernel_rfl) rfl (ah (by kernel_rfl)) (by kernel_rfl)
noncomputable def qc_9:KR1:=⟨8,[.i 9,.i 251,.v (.slice (some ⟨0,0,tag 1⟩) 27 0),.i 105,.i 9,.i 9],[(1,[.int .u8 0,.int .u8 251,.int .u8 0,.int .u8 0,.int .u8 64,.int .u8 0,.int .u8 0,.int .u8 210,.int .u8 0,.int .u8 0,.int .u8 86,.int .u8 0,.int .u8 0,.int .u8 43,.int .u8 0,.int .u8 0,.int .u8 208,.int .u8 0,.int .u8 0,.int .u8 140,.int .u8 0,.int .u8 0,.int .u8 62,.int .u8 0,.int .u8 0,.int .u8 213,.int .u8 0])],[.b true]⟩
theorem qc_9_ok:KROk qc_9:=au (ok8 aq) rfl (by kernel_rfl) rfl (ah (by kernel_rfl)) (by kernel_rfl)
noncomputable def qa_10:KR1:=⟨6,[.i 0,.i 0,.v (.slice none 0 0),.i 0,.i 4096,.i 0],[],[.b true]⟩
theorem qa_10_ok:KROk qa_10:=au (ok6 aq) rfl (by kernel_rfl) rfl (ah (by kernel_rfl)) (by kernel_rfl)
noncomputable def qe_10:KR1:=⟨10,[.i 0,.i 0,.v (.slice none 0 0),.i 0,.i 1,.i 0],[],[.b true]⟩
theorem qe_10_ok:KROk qe_10:=au (ok10 aq) rfl (by kernel_rfl) rfl (ah (by kernel_rfl)) (by kernel_rfl)
noncomputable def qa_11:KR1:=⟨6,[.i 1,.i 0,.v (.slice none 0 0),.i 0,.i 4096,.i 0],[],[.b true]⟩
theorem qa_11_ok:KROk qa_11:=au (ok6 aq) rfl (by kernel_rfl) rfl (ah (by kernel_rfl)) (by kernel_rfl)
noncomputable def kr14:List KR1:=[qf_0,qo_1,qe_1,qm_2,qo_2,qo_4,qa_5,qa_8,qe_8,qc_9,qa_10,qe_10,qa_11]
theorem kr14_ok:AllR kr14:=.cons qf_0_ok (.cons qo_1_ok (.cons qe_1_ok (.cons qm_2_ok (.cons qo_2_ok (.cons qo_4_ok (.cons qa_5_ok (.cons qa_8_ok (.cons qe_8_ok (.cons qc_9_ok (.cons qa_10_ok (.cons qe_10_ok (.cons qa_11_ok (.nil)))))))))))))
end Go.Am

