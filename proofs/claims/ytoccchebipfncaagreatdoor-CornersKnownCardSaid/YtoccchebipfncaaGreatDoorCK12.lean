/-
  PART 12 OF THE PROOF: V5 (no conditions).
-/
import Derived.Test.YtoccchebipfncaaGreatDoorCK11
set_option linter.unusedSectionVars false
set_option linter.unusedSimpArgs false
set_option linter.unusedVariables false
set_option linter.constructorNameAsVariable false
set_option linter.defProp false
/-
 CornersKnown: what its calls answer,part 5.
-/
set_option maxRecDepth 100000
namespace Go.Am
open Sx Go.Proofs
theorem kr_0:∀H,bg cc ab 6 [.i 0,.i 0,.i 7] H [.b true] H:=aW (ok6 ao) rfl (by kernel_rfl) rfl (by kernel_rfl)
theorem kr_1:∀H,bg cc ab 6 [.i 1,.i 0,.i 29] H [.b true] H:=aW (ok6 ao) rfl (by kernel_rfl) rfl (by kernel_rfl)
noncomputable def kc_1:KR1:=⟨7,[.i 1,.i 0,.v (.slice (some ⟨0,0,tag 1⟩) 50 0),.i 29],bl_1,[.b true]⟩
theorem kc_1_ok:KROk kc_1:=ax (ok7 ao) rfl (by kernel_rfl) rfl (am (by kernel_rfl)) (by kernel_rfl)
noncomputable def kb_1:KR1:=⟨8,[.i 1,.i 0,.v (.slice (some ⟨0,0,tag 1⟩) 50 0)],bl_1,[.b true]⟩
theorem kb_1_ok:KROk kb_1:=ax (ok8 ao) rfl (by kernel_rfl) rfl (am (by kernel_rfl)) (by kernel_rfl)
theorem kr_2:∀H,bg cc ab 6 [.i 2,.i 0,.i 7] H [.b true] H:=aW (ok6 ao) rfl (by kernel_rfl) rfl (by kernel_rfl)
noncomputable def kc_2:KR1:=⟨7,[.i 2,.i 0,.v (.slice (some ⟨0,0,tag 1⟩) 50 0),.i 7],bl_2,[.b true]⟩
theorem kc_2_ok:KROk kc_2:=ax (ok7 ao) rfl (by kernel_rfl) rfl (am (by kernel_rfl)) (by kernel_rfl)
noncomputable def kb_2:KR1:=⟨8,[.i 2,.i 0,.v (.slice (some ⟨0,0,tag 1⟩) 50 0)],bl_2,[.b true]⟩
theorem kb_2_ok:KROk kb_2:=ax (ok8 ao) rfl (by kernel_rfl) rfl (am (by kernel_rfl)) (by kernel_rfl)
noncomputable def kt_2:KR1:=⟨9,[.i 2,.i 0,.v (.slice (some ⟨0,0,tag 1⟩) 50 0),.i 2],bl_2,[.b true]⟩
theorem kt_2_ok:KROk kt_2:=ax (ok9 ao) rfl (by kernel_rfl) rfl (am (by kernel_rfl)) (by kernel_rfl)
theorem kr_3:∀H,bg cc ab 6 [.i 3,.i 0,.i 167] H [.b true] H:=aW (ok6 ao) rfl (by kernel_rfl) rfl (by kernel_rfl)
theorem kr_4:∀H,bg cc ab 6 [.i 4,.i 0,.i 94] H [.b true] H:=aW (ok6 ao) rfl (by kernel_rfl) rfl (by kernel_rfl)
noncomputable def kb_4:KR1:=⟨8,[.i 4,.i 1,.v (.slice (some ⟨0,0,tag 1⟩) 50 0)],bl_4,[.b true]⟩
theorem kb_4_ok:KROk kb_4:=ax (ok8 ao) rfl (by kernel_rfl) rfl (am (by kernel_rfl)) (by kernel_rfl)
theorem kr_5:∀H,bg cc ab 6 [.i 5,.i 1,.i 99] H [.b true] H:=aW (ok6 ao) rfl (by kernel_rfl) rfl (by kernel_rfl)
noncomputable def kt_5:KR1:=⟨9,[.i 5,.i 1,.v (.slice (some ⟨0,0,tag 1⟩) 50 0),.i 5],bl_5,[.b true]⟩
theorem kt_5_ok:KROk kt_5:=ax (ok9 ao) rfl (by kernel_rfl) rfl (am (by kernel_rfl)) (by kernel_rfl)
theorem kr_6:∀H,bg cc ab 6 [.i 6,.i 1,.i 222] H [.b true] H:=aW (ok6 ao) rfl (by kernel_rfl) rfl (by kernel_rfl)
theorem kr_7:∀H,bg cc ab 6 [.i 7,.i 1,.i 218] H [.b true] H:=aW (ok6 ao) rfl (by kernel_rfl) rfl (by kernel_rfl)
theorem kr_8:∀H,bg cc ab 6 [.i 8,.i 1,.i 152] H [.b true] H:=aW (ok6 ao) rfl (by kernel_rfl) rfl (by kernel_rfl)
noncomputable def kc_8:KR1:=⟨7,[.i 8,.i 2,.v (.slice (some ⟨0,0,tag 1⟩) 50 0),.i 152],bl_8,[.b true]⟩
theorem kc_8_ok:KROk kc_8:=ax (ok7 ao) rfl (by kernel_rfl) rfl (am (by kernel_rfl)) (by kernel_rfl)
noncomputable def kb_8:KR1:=⟨8,[.i 8,.i 2,.v (.slice (some ⟨0,0,tag 1⟩) 50 0)],bl_8,[.b true]⟩
theorem kb_8_ok:KROk kb_8:=ax (ok8 ao) rfl (by kernel_rfl) rfl (am (by kernel_rfl)) (by kernel_rfl)
theorem kr_9:∀H,bg cc ab 6 [.i 9,.i 1,.i 18] H [.b true] H:=aW (ok6 ao) rfl (by kernel_rfl) rfl (by kernel_rfl)
noncomputable def kc_9:KR1:=⟨7,[.i 9,.i 3,.v (.slice (some ⟨0,0,tag 1⟩) 50 0),.i 18],bl_9,[.b true]⟩
theorem kc_9_ok:KROk kc_9:=ax (ok7 ao) rfl (by kernel_rfl) rfl (am (by kernel_rfl)) (by kernel_rfl)
theorem kr_10:∀H,bg cc ab 6 [.i 10,.i 2,.i 225] H [.b true] H:=aW (ok6 ao) rfl (by kernel_rfl) rfl (by kernel_rfl)
theorem kr_11:∀H,bg cc ab 6 [.i 11,.i 2,.i 88] H [.b true] H:=aW (ok6 ao) rfl (by kernel_rfl) rfl (by kernel_rfl)
theorem kr_12:∀H,bg cc ab 6 [.i 12,.i 2,.i 230] H [.b true] H:=aW (ok6 ao) rfl (by kernel_rfl) rfl (by kernel_rfl)
noncomputable def kc_12:KR1:=⟨7,[.i 12,.i 4,.v (.slice (some ⟨0,0,tag 1⟩) 50 0),.i 230],bl_12,[.b true]⟩
theorem kc_12_ok:KROk kc_12:=ax (ok7 ao) rfl (by kernel_rfl) rfl (am (by kernel_rfl)) (by kernel_rfl)
theorem kr_13:∀H,bg cc ab 6 [.i 13,.i 2,.i 199] H [.b true] H:=aW (ok6 ao) rfl (by kernel_rfl) rfl (by kernel_rfl)
theorem kr_14:∀H,bg cc ab 6 [.i 14,.i 2,.i 118] H [.b true] H:=aW (ok6 ao) rfl (by kernel_rfl) rfl (by kernel_rfl)
noncomputable def kc_14:KR1:=⟨7,[.i 14,.i 4,.v (.slice (some ⟨0,0,tag 1⟩) 50 0),.i 118],bl_14,[.b true]⟩
theorem kc_14_ok:KROk kc_14:=ax (ok7 ao) rfl (by kernel_rfl) rfl (am (by kernel_rfl)) (by kernel_rfl)
noncomputable def kt_14:KR1:=⟨9,[.i 14,.i 4,.v (.slice (some ⟨0,0,tag 1⟩) 50 0),.i 14],bl_14,[.b true]⟩
theorem kt_14_ok:KROk kt_14:=ax (ok9 ao) rfl (by kernel_rfl) rfl (am (by kernel_rfl)) (by kernel_rfl)
noncomputable def kc_15:KR1:=⟨7,[.i 15,.i 5,.v (.slice (some ⟨0,0,tag 1⟩) 50 0),.i 21],bl_15,[.b true]⟩
theorem kc_15_ok:KROk kc_15:=ax (ok7 ao) rfl (by kernel_rfl) rfl (am (by kernel_rfl)) (by kernel_rfl)
noncomputable def kn5:List KN1:=[(6,[.i 0,.i 0,.i 7],[.b true]),(6,[.i 1,.i 0,.i 29],[.b true]),(6,[.i 2,.i 0,.i 7],[.b true]),(6,[.i 3,.i 0,.i 167],[.b true]),(6,[.i 4,.i 0,.i 94],[.b true]),(6,[.i 5,.i 1,.i 99],[.b true]),(6,[.i 6,.i 1,.i 222],[.b true]),(6,[.i 7,.i 1,.i 218],[.b true]),(6,[.i 8,.i 1,.i 152],[.b true]),(6,[.i 9,.i 1,.i 18],[.b true]),(6,[.i 10,.i 2,.i 225],[.b true]),(6,[.i 11,.i 2,.i 88],[.b true]),(6,[.i 12,.i 2,.i 230],[.b true]),(6,[.i 13,.i 2,.i 199],[.b true]),(6,[.i 14,.i 2,.i 118],[.b true])]
theorem kn5_ok:AllK cc ab kn5:=.cons kr_0 (.cons kr_1 (.cons kr_2 (.cons kr_3 (.cons kr_4 (.cons kr_5 (.cons kr_6 (.cons kr_7 (.cons kr_8 (.cons kr_9 (.cons kr_10 (.cons kr_11 (.cons kr_12 (.cons kr_13 (.cons kr_14 (.nil)))))))))))))))
noncomputable def kr5:List KR1:=[kc_1,kb_1,kc_2,kb_2,kt_2,kb_4,kt_5,kc_8,kb_8,kc_9,kc_12,kc_14,kt_14,kc_15]
theorem kr5_ok:AllR kr5:=.cons kc_1_ok (.cons kb_1_ok (.cons kc_2_ok (.cons kb_2_ok (.cons kt_2_ok (.cons kb_4_ok (.cons kt_5_ok (.cons kc_8_ok (.cons kb_8_ok (.cons kc_9_ok (.cons kc_12_ok (.cons kc_14_ok (.cons kt_14_ok (.cons kc_15_ok (.nil))))))))))))))
end Go.Am

