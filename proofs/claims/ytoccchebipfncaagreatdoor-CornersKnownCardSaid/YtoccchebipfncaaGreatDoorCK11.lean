/-
  PART 11 OF THE PROOF: V4 (no conditions).
-/
import Derived.Test.YtoccchebipfncaaGreatDoorCK10
set_option linter.unusedSectionVars false
set_option linter.unusedSimpArgs false
set_option linter.unusedVariables false
set_option linter.constructorNameAsVariable false
set_option linter.defProp false
/-
 CornersKnown: what its calls answer,part 4.
-/
set_option maxRecDepth 100000
namespace Go.Am
open Sx Go.Proofs
noncomputable def kc_3:KR1:=⟨7,[.i 3,.i 1,.v (.slice (some ⟨0,0,tag 1⟩) 50 0),.i 167],bl_3,[.b true]⟩
theorem kc_3_ok:KROk kc_3:=ax (ok7 ao) rfl (by kernel_rfl) rfl (am (by kernel_rfl)) (by kernel_rfl)
noncomputable def kt_3:KR1:=⟨9,[.i 3,.i 1,.v (.slice (some ⟨0,0,tag 1⟩) 50 0),.i 3],bl_3,[.b true]⟩
theorem kt_3_ok:KROk kt_3:=ax (ok9 ao) rfl (by kernel_rfl) rfl (am (by kernel_rfl)) (by kernel_rfl)
noncomputable def kc_6:KR1:=⟨7,[.i 6,.i 2,.v (.slice (some ⟨0,0,tag 1⟩) 50 0),.i 222],bl_6,[.b true]⟩
theorem kc_6_ok:KROk kc_6:=ax (ok7 ao) rfl (by kernel_rfl) rfl (am (by kernel_rfl)) (by kernel_rfl)
noncomputable def kt_6:KR1:=⟨9,[.i 6,.i 2,.v (.slice (some ⟨0,0,tag 1⟩) 50 0),.i 6],bl_6,[.b true]⟩
theorem kt_6_ok:KROk kt_6:=ax (ok9 ao) rfl (by kernel_rfl) rfl (am (by kernel_rfl)) (by kernel_rfl)
noncomputable def kc_7:KR1:=⟨7,[.i 7,.i 2,.v (.slice (some ⟨0,0,tag 1⟩) 50 0),.i 218],bl_7,[.b true]⟩
theorem kc_7_ok:KROk kc_7:=ax (ok7 ao) rfl (by kernel_rfl) rfl (am (by kernel_rfl)) (by kernel_rfl)
noncomputable def kt_7:KR1:=⟨9,[.i 7,.i 2,.v (.slice (some ⟨0,0,tag 1⟩) 50 0),.i 7],bl_7,[.b true]⟩
theorem kt_7_ok:KROk kt_7:=ax (ok9 ao) rfl (by kernel_rfl) rfl (am (by kernel_rfl)) (by kernel_rfl)
noncomputable def kt_9:KR1:=⟨9,[.i 9,.i 3,.v (.slice (some ⟨0,0,tag 1⟩) 50 0),.i 9],bl_9,[.b true]⟩
theorem kt_9_ok:KROk kt_9:=ax (ok9 ao) rfl (by kernel_rfl) rfl (am (by kernel_rfl)) (by kernel_rfl)
noncomputable def kc_10:KR1:=⟨7,[.i 10,.i 3,.v (.slice (some ⟨0,0,tag 1⟩) 50 0),.i 225],bl_10,[.b true]⟩
theorem kc_10_ok:KROk kc_10:=ax (ok7 ao) rfl (by kernel_rfl) rfl (am (by kernel_rfl)) (by kernel_rfl)
noncomputable def kt_10:KR1:=⟨9,[.i 10,.i 3,.v (.slice (some ⟨0,0,tag 1⟩) 50 0),.i 10],bl_10,[.b true]⟩
theorem kt_10_ok:KROk kt_10:=ax (ok9 ao) rfl (by kernel_rfl) rfl (am (by kernel_rfl)) (by kernel_rfl)
noncomputable def kb_14:KR1:=⟨8,[.i 14,.i 4,.v (.slice (some ⟨0,0,tag 1⟩) 50 0)],bl_14,[.b true]⟩
theorem kb_14_ok:KROk kb_14:=ax (ok8 ao) rfl (by kernel_rfl) rfl (am (by kernel_rfl)) (by kernel_rfl)
noncomputable def kt_15:KR1:=⟨9,[.i 15,.i 5,.v (.slice (some ⟨0,0,tag 1⟩) 50 0),.i 15],bl_15,[.b true]⟩
theorem kt_15_ok:KROk kt_15:=ax (ok9 ao) rfl (by kernel_rfl) rfl (am (by kernel_rfl)) (by kernel_rfl)
noncomputable def kn4:List KN1:=[]
theorem kn4_ok:AllK cc ab kn4:=.nil
noncomputable def kr4:List KR1:=[kc_3,kt_3,kc_6,kt_6,kc_7,kt_7,kt_9,kc_10,kt_10,kb_14,kt_15]
theorem kr4_ok:AllR kr4:=.cons kc_3_ok (.cons kt_3_ok (.cons kc_6_ok (.cons kt_6_ok (.cons kc_7_ok (.cons kt_7_ok (.cons kt_9_ok (.cons kc_10_ok (.cons kt_10_ok (.cons kb_14_ok (.cons kt_15_ok (.nil)))))))))))
end Go.Am

