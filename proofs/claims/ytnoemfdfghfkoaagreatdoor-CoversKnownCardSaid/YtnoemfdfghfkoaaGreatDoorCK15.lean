/-
  PART 15 OF THE PROOF: V7 (no conditions).
-/
import Derived.Test.YtnoemfdfghfkoaaGreatDoorCK14
set_option linter.unusedSectionVars false
set_option linter.unusedSimpArgs false
set_option linter.unusedVariables false
set_option linter.constructorNameAsVariable false
set_option linter.defProp false
/-
 CoversKnown: what its calls answer,a part.
-/
set_option maxRecDepth 100000
namespace Go.Am
open Sx Go.Proofs
noncomputable def kw1:KR1:=⟨11,[.i 1,.i 1,.v (.slice (some ⟨0,0,tag 2⟩) 1 0)],[(2,[.int .u8 1,.int .u8 0])],[.b true]⟩
theorem kw1_ok:KROk kw1:=ax (ok11 aB) rfl (by kernel_rfl) rfl (af (by kernel_rfl)) (by kernel_rfl)
noncomputable def kw6:KR1:=⟨11,[.i 135,.i 6,.v (.slice (some ⟨0,0,tag 2⟩) 6 0)],[(2,[.int .u8 135,.int .u8 129,.int .u8 193,.int .u8 210,.int .u8 250,.int .u8 35,.int .u8 1,.int .u8 73,.int .u8 38,.int .u8 151,.int .u8 75,.int .u8 230])],[.b true]⟩
theorem kw6_ok:KROk kw6:=ax (ok11 aB) rfl (by kernel_rfl) rfl (af (by kernel_rfl)) (by kernel_rfl)
noncomputable def kw7:KR1:=⟨11,[.i 135,.i 7,.v (.slice (some ⟨0,0,tag 2⟩) 7 0)],[(2,[.int .u8 135,.int .u8 202,.int .u8 215,.int .u8 103,.int .u8 212,.int .u8 30,.int .u8 242,.int .u8 254,.int .u8 86,.int .u8 85,.int .u8 96,.int .u8 160,.int .u8 42,.int .u8 188])],[.b true]⟩
theorem kw7_ok:KROk kw7:=ax (ok11 aB) rfl (by kernel_rfl) rfl (af (by kernel_rfl)) (by kernel_rfl)
noncomputable def kw8:KR1:=⟨11,[.i 120,.i 8,.v (.slice (some ⟨0,0,tag 2⟩) 8 0)],[(2,[.int .u8 120,.int .u8 53,.int .u8 122,.int .u8 54,.int .u8 5,.int .u8 220,.int .u8 86,.int .u8 158,.int .u8 160,.int .u8 242,.int .u8 63,.int .u8 9,.int .u8 43,.int .u8 115,.int .u8 34,.int .u8 187])],[.b true]⟩
theorem kw8_ok:KROk kw8:=ax (ok11 aB) rfl (by kernel_rfl) rfl (af (by kernel_rfl)) (by kernel_rfl)
noncomputable def kt10:KR1:=⟨12,[.i 105,.i 10,.v (.slice (some ⟨0,0,tag 2⟩) 10 0)],[(2,[.int .u8 105,.int .u8 88,.int .u8 77,.int .u8 11,.int .u8 193,.int .u8 173,.int .u8 48,.int .u8 189,.int .u8 5,.int .u8 220,.int .u8 30,.int .u8 4,.int .u8 113,.int .u8 162,.int .u8 40,.int .u8 152,.int .u8 64,.int .u8 228,.int .u8 26,.int .u8 76])],[.b true]⟩
theorem kt10_ok:KROk kt10:=ax (ok12 aB) rfl (by kernel_rfl) rfl (af (by kernel_rfl)) (by kernel_rfl)
noncomputable def kc10:KR1:=⟨13,[.i 105,.i 10,.v (.slice (some ⟨0,0,tag 2⟩) 10 0),.v (.slice (some ⟨1,0,tag 1⟩) 3 4),.i 88],[(2,[.int .u8 105,.int .u8 88,.int .u8 77,.int .u8 11,.int .u8 193,.int .u8 173,.int .u8 48,.int .u8 189,.int .u8 5,.int .u8 220,.int .u8 30,.int .u8 4,.int .u8 113,.int .u8 162,.int .u8 40,.int .u8 152,.int .u8 64,.int .u8 228,.int .u8 26,.int .u8 76]),(1,[.int .u8 88,.int .u8 1,.int .u8 10])],[.b true]⟩
theorem kc10_ok:KROk kc10:=ax (ok13 aB) rfl (by kernel_rfl) rfl (af (by kernel_rfl)) (by kernel_rfl)
noncomputable def kt11:KR1:=⟨12,[.i 88,.i 11,.v (.slice (some ⟨0,0,tag 2⟩) 11 0)],[(2,[.int .u8 88,.int .u8 232,.int .u8 38,.int .u8 5,.int .u8 31,.int .u8 150,.int .u8 7,.int .u8 147,.int .u8 201,.int .u8 248,.int .u8 100,.int .u8 233,.int .u8 26,.int .u8 113,.int .u8 66,.int .u8 119,.int .u8 174,.int .u8 61,.int .u8 201,.int .u8 65,.int .u8 206,.int .u8 66])],[.b true]⟩
theorem kt11_ok:KROk kt11:=ax (ok12 aB) rfl (by kernel_rfl) rfl (af (by kernel_rfl)) (by kernel_rfl)
noncomputable def kc11:KR1:=⟨13,[.i 88,.i 11,.v (.slice (some ⟨0,0,tag 2⟩) 11 0),.v (.slice (some ⟨1,0,tag 1⟩) 3 4),.i 111],[(2,[.int .u8 88,.int .u8 232,.int .u8 38,.int .u8 5,.int .u8 31,.int .u8 150,.int .u8 7,.int .u8 147,.int .u8 201,.int .u8 248,.int .u8 100,.int .u8 233,.int .u8 26,.int .u8 113,.int .u8 66,.int .u8 119,.int .u8 174,.int .u8 61,.int .u8 201,.int .u8 65,.int .u8 206,.int .u8 66]),(1,[.int .u8 111,.int .u8 1,.int .u8 11])],[.b true]⟩
theorem kc11_ok:KROk kc11:=ax (ok13 aB) rfl (by kernel_rfl) rfl (af (by kernel_rfl)) (by kernel_rfl)
noncomputable def kr7:List KR1:=[kw1,kw6,kw7,kw8,kt10,kc10,kt11,kc11]
theorem kr7_ok:AllR kr7:=.cons kw1_ok (.cons kw6_ok (.cons kw7_ok (.cons kw8_ok (.cons kt10_ok (.cons kc10_ok (.cons kt11_ok (.cons kc11_ok .nil)))))))
end Go.Am

