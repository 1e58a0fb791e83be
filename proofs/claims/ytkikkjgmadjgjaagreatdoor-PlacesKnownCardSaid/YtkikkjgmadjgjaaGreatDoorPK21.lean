/-
  PART 21 OF THE PROOF: V13 (no conditions).
-/
import Derived.Test.YtkikkjgmadjgjaaGreatDoorPK20
set_option linter.unusedSectionVars false
set_option linter.unusedSimpArgs false
set_option linter.unusedVariables false
set_option linter.constructorNameAsVariable false
set_option linter.defProp false
/-
 PlacesKnown: what its calls answer,part 13.
-/
set_option maxRecDepth 100000
namespace Go.Am
open Sx Go.Proofs
noncomputable def qa_0:KR1:=⟨6,[.i 0,.i 1,.v (.slice none 0 0),.i 0,.i 1,.i 1],[],[.b true]⟩
theorem qa_0_ok:KROk qa_0:=au (ok6 aq) rfl (by kernel_rfl) rfl (ah (by kernel_rfl)) (by kernel_rfl)
noncomputable def qc_0:KR1:=⟨8,[.i 0,.i 1,.v (.slice none 0 0),.i 1,.i 0,.i 0],[],[.b true]⟩
theorem qc_0_ok:KROk qc_0:=au (ok8 aq) rfl (by kernel_rfl) rfl (ah (by kernel_rfl)) (by kernel_rfl)
noncomputable def qa_1:KR1:=⟨6,[.i 1,.i 1,.v (.slice (some ⟨0,0,tag 1⟩) 3 0),.i 1,.i 2,.i 2],[(1,[.int .u8 0,.int .u8 1,.int .u8 0])],[.b true]⟩
theorem qa_1_ok:KROk qa_1:=au (ok6 aq) rfl (by kernel_rfl) rfl (ah (by kernel_rfl)) (by kernel_rfl)
noncomputable def qc_1:KR1:=⟨8,[.i 1,.i 1,.v (.slice (some ⟨0,0,tag 1⟩) 3 0),.i 42,.i 1,.i 1],[(1,[.int .u8 0,.int .u8 1,.int .u8 0])],[.b true]⟩
theorem qc_1_ok:KROk qc_1:=au (ok8 aq) rfl (by kernel_rfl) rfl (ah (by kernel_rfl)) (by kernel_rfl)
noncomputable def qc_2:KR1:=⟨8,[.i 2,.i 42,.v (.slice (some ⟨0,0,tag 1⟩) 6 0),.i 17,.i 2,.i 2],[(1,[.int .u8 0,.int .u8 42,.int .u8 0,.int .u8 0,.int .u8 33,.int .u8 0])],[.b true]⟩
theorem qc_2_ok:KROk qc_2:=au (ok8 aq) rfl (by kernel_rfl) rfl (ah (by kernel_rfl)) (by kernel_rfl)
noncomputable def qc_3:KR1:=⟨8,[.i 3,.i 17,.v (.slice (some ⟨0,0,tag 1⟩) 9 0),.i 123,.i 3,.i 3],[(1,[.int .u8 0,.int .u8 17,.int .u8 0,.int .u8 0,.int .u8 118,.int .u8 0,.int .u8 0,.int .u8 67,.int .u8 0])],[.b true]⟩
theorem qc_3_ok:KROk qc_3:=au (ok8 aq) rfl (by kernel_rfl) rfl (ah (by kernel_rfl)) (by kernel_rfl)
noncomputable def qc_4:KR1:=⟨8,[.i 4,.i 123,.v (.slice (some ⟨0,0,tag 1⟩) 12 0),.i 232,.i 4,.i 4],[(1,[.int .u8 0,.int .u8 123,.int .u8 0,.int .u8 0,.int .u8 121,.int .u8 0,.int .u8 0,.int .u8 138,.int .u8 0,.int .u8 0,.int .u8 44,.int .u8 0])],[.b true]⟩
theorem qc_4_ok:KROk qc_4:=au (ok8 aq) rfl (by kernel_rfl) rfl (ah (by kernel_rfl)) (by kernel_rfl)
noncomputable def qe_4:KR1:=⟨10,[.i 1,.i 4,.v (.slice (some ⟨0,0,tag 3⟩) 3 0),.i 4,.i 4,.i 4],[(3,[.int .i64 0,.int .u8 2,.int .u8 3,.int .i64 2,.int .u8 1,.int .u8 1,.int .i64 5,.int .u8 2,.int .u8 2])],[.b true]⟩
theorem qe_4_ok:KROk qe_4:=au (ok10 aq) rfl (by kernel_rfl) rfl (ah (by kernel_rfl)) (by kernel_rfl)
noncomputable def qc_5:KR1:=⟨8,[.i 5,.i 232,.v (.slice (some ⟨0,0,tag 1⟩) 15 0),.i 135,.i 5,.i 5],[(1,[.int .u8 0,.int .u8 232,.int .u8 0,.int .u8 0,.int .u8 219,.int .u8 0,.int .u8 0,.int .u8 244,.int .u8 0,.int .u8 0,.int .u8 118,.int .u8 0,.int .u8 0,.int .u8 151,.int .u8 0])],[.b true]⟩
theorem qc_5_ok:KROk qc_5:=au (ok8 aq) rfl (by kernel_rfl) rfl (ah (by kernel_rfl)) (by kernel_rfl)
noncomputable def qc_6:KR1:=⟨8,[.i 6,.i 135,.v (.slice (some ⟨0,0,tag 1⟩) 18 0),.i 135,.i 6,.i 6],[(1,[.int .u8 0,.int .u8 135,.int .u8 0,.int .u8 0,.int .u8 193,.int .u8 0,.int .u8 0,.int .u8 250,.int .u8 0,.int .u8 0,.int .u8 1,.int .u8 0,.int .u8 0,.int .u8 38,.int .u8 0,.int .u8 0,.int .u8 75,.int .u8 0])],[.b true]⟩
theorem qc_6_ok:KROk qc_6:=au (ok8 aq) rfl (by kernel_rfl) rfl (ah (by kernel_rfl)) (by kernel_rfl)
noncomputable def qc_7:KR1:=⟨8,[.i 7,.i 135,.v (.slice (some ⟨0,0,tag 1⟩) 21 0),.i 120,.i 7,.i 7],[(1,[.int .u8 0,.int .u8 135,.int .u8 0,.int .u8 0,.int .u8 215,.int .u8 0,.int .u8 0,.int .u8 212,.int .u8 0,.int .u8 0,.int .u8 242,.int .u8 0,.int .u8 0,.int .u8 86,.int .u8 0,.int .u8 0,.int .u8 96,.int .u8 0,.int .u8 0,.int .u8 42,.int .u8 0])],[.b true]⟩
theorem qc_7_ok:KROk qc_7:=au (ok8 aq) rfl (by kernel_rfl) rfl (ah (by kernel_rfl)) (by kernel_rfl)
noncomputable def qc_8:KR1:=⟨8,[.i 8,.i 120,.v (.slice (some ⟨0,0,tag 1⟩) 24 0),.i 251,.i 8,.i 8],[(1,[.int .u8 0,.int .u8 120,.int .u8 0,.int .u8 0,.int .u8 122,.int .u8 0,.int .u8 0,.int .u8 5,.int .u8 0,.int .u8 0,.int .u8 86,.int .u8 0,.int .u8 0,.int .u8 160,.int .u8 0,.int .u8 0,.int .u8 63,.int .u8 0,.int .u8 0,.int .u8 43,.int .u8 0,.int .u8 0,.int .u8 34,.int .u8 0])],[.b true]⟩
theorem qc_8_ok:KROk qc_8:=au (ok8 aq) rfl (by kernel_rfl) rfl (ah (by kernel_rfl)) (by kernel_rfl)
noncomputable def kr13:List KR1:=[qa_0,qc_0,qa_1,qc_1,qc_2,qc_3,qc_4,qe_4,qc_5,qc_6,qc_7,qc_8]
theorem kr13_ok:AllR kr13:=.cons qa_0_ok (.cons qc_0_ok (.cons qa_1_ok (.cons qc_1_ok (.cons qc_2_ok (.cons qc_3_ok (.cons qc_4_ok (.cons qe_4_ok (.cons qc_5_ok (.cons qc_6_ok (.cons qc_7_ok (.cons qc_8_ok (.nil))))))))))))
end Go.Am

