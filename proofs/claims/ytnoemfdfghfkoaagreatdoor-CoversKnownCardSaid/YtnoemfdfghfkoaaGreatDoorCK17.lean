/-
  PART 17 OF THE PROOF: V9 (no conditions).
-/
import Derived.Test.YtnoemfdfghfkoaaGreatDoorCK16
set_option linter.unusedSectionVars false
set_option linter.unusedSimpArgs false
set_option linter.unusedVariables false
set_option linter.constructorNameAsVariable false
set_option linter.defProp false
/-
 CoversKnown: what its calls answer,a part.
-/
set_option maxRecDepth 100000
namespace Go.Am
open Sx Go.Proofs
noncomputable def kw0:KR1:=⟨11,[.i 1,.i 0,.v (.slice none 0 0)],[],[.b true]⟩
theorem kw0_ok:KROk kw0:=ax (ok11 aB) rfl (by kernel_rfl) rfl (af (by kernel_rfl)) (by kernel_rfl)
noncomputable def kt0:KR1:=⟨12,[.i 1,.i 0,.v (.slice none 0 0)],[],[.b true]⟩
theorem kt0_ok:KROk kt0:=ax (ok12 aB) rfl (by kernel_rfl) rfl (af (by kernel_rfl)) (by kernel_rfl)
noncomputable def kc0:KR1:=⟨13,[.i 1,.i 0,.v (.slice none 0 0),.v (.slice (some ⟨0,0,tag 1⟩) 3 4),.i 1],[(1,[.int .u8 1,.int .u8 1,.int .u8 0])],[.b true]⟩
theorem kc0_ok:KROk kc0:=ax (ok13 aB) rfl (by kernel_rfl) rfl (af (by kernel_rfl)) (by kernel_rfl)
noncomputable def kl0:KR1:=⟨14,[.i 1,.i 0,.v (.slice none 0 0)],[],[.b true]⟩
theorem kl0_ok:KROk kl0:=ax (ok14 aB) rfl (by kernel_rfl) rfl (af (by kernel_rfl)) (by kernel_rfl)
noncomputable def kt1:KR1:=⟨12,[.i 1,.i 1,.v (.slice (some ⟨0,0,tag 2⟩) 1 0)],[(2,[.int .u8 1,.int .u8 0])],[.b true]⟩
theorem kt1_ok:KROk kt1:=ax (ok12 aB) rfl (by kernel_rfl) rfl (af (by kernel_rfl)) (by kernel_rfl)
noncomputable def kc1:KR1:=⟨13,[.i 1,.i 1,.v (.slice (some ⟨0,0,tag 2⟩) 1 0),.v (.slice (some ⟨1,0,tag 1⟩) 3 4),.i 42],[(2,[.int .u8 1,.int .u8 0]),(1,[.int .u8 42,.int .u8 1,.int .u8 1])],[.b true]⟩
theorem kc1_ok:KROk kc1:=ax (ok13 aB) rfl (by kernel_rfl) rfl (af (by kernel_rfl)) (by kernel_rfl)
noncomputable def kw2:KR1:=⟨11,[.i 42,.i 2,.v (.slice (some ⟨0,0,tag 2⟩) 2 0)],[(2,[.int .u8 42,.int .u8 6,.int .u8 33,.int .u8 187])],[.b true]⟩
theorem kw2_ok:KROk kw2:=ax (ok11 aB) rfl (by kernel_rfl) rfl (af (by kernel_rfl)) (by kernel_rfl)
noncomputable def kt2:KR1:=⟨12,[.i 42,.i 2,.v (.slice (some ⟨0,0,tag 2⟩) 2 0)],[(2,[.int .u8 42,.int .u8 6,.int .u8 33,.int .u8 187])],[.b true]⟩
theorem kt2_ok:KROk kt2:=ax (ok12 aB) rfl (by kernel_rfl) rfl (af (by kernel_rfl)) (by kernel_rfl)
noncomputable def kc2:KR1:=⟨13,[.i 42,.i 2,.v (.slice (some ⟨0,0,tag 2⟩) 2 0),.v (.slice (some ⟨1,0,tag 1⟩) 3 4),.i 17],[(2,[.int .u8 42,.int .u8 6,.int .u8 33,.int .u8 187]),(1,[.int .u8 17,.int .u8 1,.int .u8 2])],[.b true]⟩
theorem kc2_ok:KROk kc2:=ax (ok13 aB) rfl (by kernel_rfl) rfl (af (by kernel_rfl)) (by kernel_rfl)
noncomputable def kw3:KR1:=⟨11,[.i 17,.i 3,.v (.slice (some ⟨0,0,tag 2⟩) 3 0)],[(2,[.int .u8 17,.int .u8 185,.int .u8 118,.int .u8 199,.int .u8 67,.int .u8 229])],[.b true]⟩
theorem kw3_ok:KROk kw3:=ax (ok11 aB) rfl (by kernel_rfl) rfl (af (by kernel_rfl)) (by kernel_rfl)
noncomputable def kt5:KR1:=⟨12,[.i 232,.i 5,.v (.slice (some ⟨0,0,tag 2⟩) 5 0)],[(2,[.int .u8 232,.int .u8 69,.int .u8 219,.int .u8 31,.int .u8 244,.int .u8 254,.int .u8 118,.int .u8 199,.int .u8 151,.int .u8 131])],[.b true]⟩
theorem kt5_ok:KROk kt5:=ax (ok12 aB) rfl (by kernel_rfl) rfl (af (by kernel_rfl)) (by kernel_rfl)
noncomputable def kt6:KR1:=⟨12,[.i 135,.i 6,.v (.slice (some ⟨0,0,tag 2⟩) 6 0)],[(2,[.int .u8 135,.int .u8 129,.int .u8 193,.int .u8 210,.int .u8 250,.int .u8 35,.int .u8 1,.int .u8 73,.int .u8 38,.int .u8 151,.int .u8 75,.int .u8 230])],[.b true]⟩
theorem kt6_ok:KROk kt6:=ax (ok12 aB) rfl (by kernel_rfl) rfl (af (by kernel_rfl)) (by kernel_rfl)
noncomputable def kr9:List KR1:=[kw0,kt0,kc0,kl0,kt1,kc1,kw2,kt2,kc2,kw3,kt5,kt6]
theorem kr9_ok:AllR kr9:=.cons kw0_ok (.cons kt0_ok (.cons kc0_ok (.cons kl0_ok (.cons kt1_ok (.cons kc1_ok (.cons kw2_ok (.cons kt2_ok (.cons kc2_ok (.cons kw3_ok (.cons kt5_ok (.cons kt6_ok .nil)))))))))))
end Go.Am

