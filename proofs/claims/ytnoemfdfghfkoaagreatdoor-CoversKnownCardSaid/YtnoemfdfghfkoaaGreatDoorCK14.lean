/-
  PART 14 OF THE PROOF: V6 (no conditions).
-/
import Derived.Test.YtnoemfdfghfkoaaGreatDoorCK13
set_option linter.unusedSectionVars false
set_option linter.unusedSimpArgs false
set_option linter.unusedVariables false
set_option linter.constructorNameAsVariable false
set_option linter.defProp false
/-
 CoversKnown: what its calls answer,a part.
-/
set_option maxRecDepth 100000
namespace Go.Am
open Sx Go.Proofs
noncomputable def kt4:KR1:=⟨12,[.i 123,.i 4,.v (.slice (some ⟨0,0,tag 2⟩) 4 0)],[(2,[.int .u8 123,.int .u8 127,.int .u8 121,.int .u8 17,.int .u8 138,.int .u8 19,.int .u8 44,.int .u8 152])],[.b true]⟩
theorem kt4_ok:KROk kt4:=ax (ok12 aB) rfl (by kernel_rfl) rfl (af (by kernel_rfl)) (by kernel_rfl)
noncomputable def kw9:KR1:=⟨11,[.i 251,.i 9,.v (.slice (some ⟨0,0,tag 2⟩) 9 0)],[(2,[.int .u8 251,.int .u8 218,.int .u8 64,.int .u8 155,.int .u8 210,.int .u8 212,.int .u8 86,.int .u8 12,.int .u8 43,.int .u8 152,.int .u8 208,.int .u8 66,.int .u8 140,.int .u8 56,.int .u8 62,.int .u8 191,.int .u8 213,.int .u8 213])],[.b true]⟩
theorem kw9_ok:KROk kw9:=ax (ok11 aB) rfl (by kernel_rfl) rfl (af (by kernel_rfl)) (by kernel_rfl)
noncomputable def kw10:KR1:=⟨11,[.i 105,.i 10,.v (.slice (some ⟨0,0,tag 2⟩) 10 0)],[(2,[.int .u8 105,.int .u8 88,.int .u8 77,.int .u8 11,.int .u8 193,.int .u8 173,.int .u8 48,.int .u8 189,.int .u8 5,.int .u8 220,.int .u8 30,.int .u8 4,.int .u8 113,.int .u8 162,.int .u8 40,.int .u8 152,.int .u8 64,.int .u8 228,.int .u8 26,.int .u8 76])],[.b true]⟩
theorem kw10_ok:KROk kw10:=ax (ok11 aB) rfl (by kernel_rfl) rfl (af (by kernel_rfl)) (by kernel_rfl)
noncomputable def kw11:KR1:=⟨11,[.i 88,.i 11,.v (.slice (some ⟨0,0,tag 2⟩) 11 0)],[(2,[.int .u8 88,.int .u8 232,.int .u8 38,.int .u8 5,.int .u8 31,.int .u8 150,.int .u8 7,.int .u8 147,.int .u8 201,.int .u8 248,.int .u8 100,.int .u8 233,.int .u8 26,.int .u8 113,.int .u8 66,.int .u8 119,.int .u8 174,.int .u8 61,.int .u8 201,.int .u8 65,.int .u8 206,.int .u8 66])],[.b true]⟩
theorem kw11_ok:KROk kw11:=ax (ok11 aB) rfl (by kernel_rfl) rfl (af (by kernel_rfl)) (by kernel_rfl)
noncomputable def kr6:List KR1:=[kt4,kw9,kw10,kw11]
theorem kr6_ok:AllR kr6:=.cons kt4_ok (.cons kw9_ok (.cons kw10_ok (.cons kw11_ok .nil)))
end Go.Am

