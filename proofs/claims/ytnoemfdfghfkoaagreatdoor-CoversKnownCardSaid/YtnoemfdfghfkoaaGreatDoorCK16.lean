/-
  PART 16 OF THE PROOF: V8 (no conditions).
-/
import Derived.Test.YtnoemfdfghfkoaaGreatDoorCK15
set_option linter.unusedSectionVars false
set_option linter.unusedSimpArgs false
set_option linter.unusedVariables false
set_option linter.constructorNameAsVariable false
set_option linter.defProp false
/-
 CoversKnown: what its calls answer,a part.
-/
set_option maxRecDepth 100000
namespace Go.Am
open Sx Go.Proofs
noncomputable def kl1:KR1:=⟨14,[.i 1,.i 1,.v (.slice (some ⟨0,0,tag 2⟩) 1 0)],[(2,[.int .u8 1,.int .u8 0])],[.b true]⟩
theorem kl1_ok:KROk kl1:=ax (ok14 aB) rfl (by kernel_rfl) rfl (af (by kernel_rfl)) (by kernel_rfl)
noncomputable def kt3:KR1:=⟨12,[.i 17,.i 3,.v (.slice (some ⟨0,0,tag 2⟩) 3 0)],[(2,[.int .u8 17,.int .u8 185,.int .u8 118,.int .u8 199,.int .u8 67,.int .u8 229])],[.b true]⟩
theorem kt3_ok:KROk kt3:=ax (ok12 aB) rfl (by kernel_rfl) rfl (af (by kernel_rfl)) (by kernel_rfl)
noncomputable def kc3:KR1:=⟨13,[.i 17,.i 3,.v (.slice (some ⟨0,0,tag 2⟩) 3 0),.v (.slice (some ⟨1,0,tag 1⟩) 3 4),.i 123],[(2,[.int .u8 17,.int .u8 185,.int .u8 118,.int .u8 199,.int .u8 67,.int .u8 229]),(1,[.int .u8 123,.int .u8 1,.int .u8 3])],[.b true]⟩
theorem kc3_ok:KROk kc3:=ax (ok13 aB) rfl (by kernel_rfl) rfl (af (by kernel_rfl)) (by kernel_rfl)
noncomputable def kw4:KR1:=⟨11,[.i 123,.i 4,.v (.slice (some ⟨0,0,tag 2⟩) 4 0)],[(2,[.int .u8 123,.int .u8 127,.int .u8 121,.int .u8 17,.int .u8 138,.int .u8 19,.int .u8 44,.int .u8 152])],[.b true]⟩
theorem kw4_ok:KROk kw4:=ax (ok11 aB) rfl (by kernel_rfl) rfl (af (by kernel_rfl)) (by kernel_rfl)
noncomputable def kc4:KR1:=⟨13,[.i 123,.i 4,.v (.slice (some ⟨0,0,tag 2⟩) 4 0),.v (.slice (some ⟨1,0,tag 1⟩) 3 4),.i 232],[(2,[.int .u8 123,.int .u8 127,.int .u8 121,.int .u8 17,.int .u8 138,.int .u8 19,.int .u8 44,.int .u8 152]),(1,[.int .u8 232,.int .u8 1,.int .u8 4])],[.b true]⟩
theorem kc4_ok:KROk kc4:=ax (ok13 aB) rfl (by kernel_rfl) rfl (af (by kernel_rfl)) (by kernel_rfl)
noncomputable def kw5:KR1:=⟨11,[.i 232,.i 5,.v (.slice (some ⟨0,0,tag 2⟩) 5 0)],[(2,[.int .u8 232,.int .u8 69,.int .u8 219,.int .u8 31,.int .u8 244,.int .u8 254,.int .u8 118,.int .u8 199,.int .u8 151,.int .u8 131])],[.b true]⟩
theorem kw5_ok:KROk kw5:=ax (ok11 aB) rfl (by kernel_rfl) rfl (af (by kernel_rfl)) (by kernel_rfl)
noncomputable def kc5:KR1:=⟨13,[.i 232,.i 5,.v (.slice (some ⟨0,0,tag 2⟩) 5 0),.v (.slice (some ⟨1,0,tag 1⟩) 3 4),.i 135],[(2,[.int .u8 232,.int .u8 69,.int .u8 219,.int .u8 31,.int .u8 244,.int .u8 254,.int .u8 118,.int .u8 199,.int .u8 151,.int .u8 131]),(1,[.int .u8 135,.int .u8 1,.int .u8 5])],[.b true]⟩
theorem kc5_ok:KROk kc5:=ax (ok13 aB) rfl (by kernel_rfl) rfl (af (by kernel_rfl)) (by kernel_rfl)
noncomputable def kc6:KR1:=⟨13,[.i 135,.i 6,.v (.slice (some ⟨0,0,tag 2⟩) 6 0),.v (.slice (some ⟨1,0,tag 1⟩) 3 4),.i 135],[(2,[.int .u8 135,.int .u8 129,.int .u8 193,.int .u8 210,.int .u8 250,.int .u8 35,.int .u8 1,.int .u8 73,.int .u8 38,.int .u8 151,.int .u8 75,.int .u8 230]),(1,[.int .u8 135,.int .u8 1,.int .u8 6])],[.b true]⟩
theorem kc6_ok:KROk kc6:=ax (ok13 aB) rfl (by kernel_rfl) rfl (af (by kernel_rfl)) (by kernel_rfl)
noncomputable def kt7:KR1:=⟨12,[.i 135,.i 7,.v (.slice (some ⟨0,0,tag 2⟩) 7 0)],[(2,[.int .u8 135,.int .u8 202,.int .u8 215,.int .u8 103,.int .u8 212,.int .u8 30,.int .u8 242,.int .u8 254,.int .u8 86,.int .u8 85,.int .u8 96,.int .u8 160,.int .u8 42,.int .u8 188])],[.b true]⟩
theorem kt7_ok:KROk kt7:=ax (ok12 aB) rfl (by kernel_rfl) rfl (af (by kernel_rfl)) (by kernel_rfl)
noncomputable def kc7:KR1:=⟨13,[.i 135,.i 7,.v (.slice (some ⟨0,0,tag 2⟩) 7 0),.v (.slice (some ⟨1,0,tag 1⟩) 3 4),.i 120],[(2,[.int .u8 135,.int .u8 202,.int .u8 215,.int .u8 103,.int .u8 212,.int .u8 30,.int .u8 242,.int .u8 254,.int .u8 86,.int .u8 85,.int .u8 96,.int .u8 160,.int .u8 42,.int .u8 188]),(1,[.int .u8 120,.int .u8 1,.int .u8 7])],[.b true]⟩
theorem kc7_ok:KROk kc7:=ax (ok13 aB) rfl (by kernel_rfl) rfl (af (by kernel_rfl)) (by kernel_rfl)
noncomputable def kt8:KR1:=⟨12,[.i 120,.i 8,.v (.slice (some ⟨0,0,tag 2⟩) 8 0)],[(2,[.int .u8 120,.int .u8 53,.int .u8 122,.int .u8 54,.int .u8 5,.int .u8 220,.int .u8 86,.int .u8 158,.int .u8 160,.int .u8 242,.int .u8 63,.int .u8 9,.int .u8 43,.int .u8 115,.int .u8 34,.int .u8 187])],[.b true]⟩
theorem kt8_ok:KROk kt8:=ax (ok12 aB) rfl (by kernel_rfl) rfl (af (by kernel_rfl)) (by kernel_rfl)
noncomputable def kc8:KR1:=⟨13,[.i 120,.i 8,.v (.slice (some ⟨0,0,tag 2⟩) 8 0),.v (.slice (some ⟨1,0,tag 1⟩) 3 4),.i 251],[(2,[.int .u8 120,.int .u8 53,.int .u8 122,.int .u8 54,.int .u8 5,.int .u8 220,.int .u8 86,.int .u8 158,.int .u8 160,.int .u8 242,.int .u8 63,.int .u8 9,.int .u8 43,.int .u8 115,.int .u8 34,.int .u8 187]),(1,[.int .u8 251,.int .u8 1,.int .u8 8])],[.b true]⟩
theorem kc8_ok:KROk kc8:=ax (ok13 aB) rfl (by kernel_rfl) rfl (af (by kernel_rfl)) (by kernel_rfl)
noncomputable def kt9:KR1:=⟨12,[.i 251,.i 9,.v (.slice (some ⟨0,0,tag 2⟩) 9 0)],[(2,[.int .u8 251,.int .u8 218,.int .u8 64,.int .u8 155,.int .u8 210,.int .u8 212,.int .u8 86,.int .u8 12,.int .u8 43,.int .u8 152,.int .u8 208,.int .u8 66,.int .u8 140,.int .u8 56,.int .u8 62,.int .u8 191,.int .u8 213,.int .u8 213])],[.b true]⟩
theorem kt9_ok:KROk kt9:=ax (ok12 aB) rfl (by kernel_rfl) rfl (af (by kernel_rfl)) (by kernel_rfl)
noncomputable def kc9:KR1:=⟨13,[.i 251,.i 9,.v (.slice (some ⟨0,0,tag 2⟩) 9 0),.v (.slice (some ⟨1,0,tag 1⟩) 3 4),.i 105],[(2,[.int .u8 251,.int .u8 218,.int .u8 64,.int .u8 155,.int .u8 210,.int .u8 212,.int .u8 86,.int .u8 12,.int .u8 43,.int .u8 152,.int .u8 208,.int .u8 66,.int .u8 140,.int .u8 56,.int .u8 62,.int .u8 191,.int .u8 213,.int .u8 213]),(1,[.int .u8 105,.int .u8 1,.int .u8 9])],[.b true]⟩
theorem kc9_ok:KROk kc9:=ax (ok13 aB) rfl (by kernel_rfl) rfl (af (by kernel_rfl)) (by kernel_rfl)
noncomputable def kr8:List KR1:=[kl1,kt3,kc3,kw4,kc4,kw5,kc5,kc6,kt7,kc7,kt8,kc8,kt9,kc9]
theorem kr8_ok:AllR kr8:=.cons kl1_ok (.cons kt3_ok (.cons kc3_ok (.cons kw4_ok (.cons kc4_ok (.cons kw5_ok (.cons kc5_ok (.cons kc6_ok (.cons kt7_ok (.cons kc7_ok (.cons kt8_ok (.cons kc8_ok (.cons kt9_ok (.cons kc9_ok .nil)))))))))))))
end Go.Am

