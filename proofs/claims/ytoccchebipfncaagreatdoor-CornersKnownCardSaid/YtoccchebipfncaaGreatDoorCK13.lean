/-
  PART 13 OF THE PROOF: V6 (no conditions).
-/
import Derived.Test.YtoccchebipfncaaGreatDoorCK12
set_option linter.unusedSectionVars false
set_option linter.unusedSimpArgs false
set_option linter.unusedVariables false
set_option linter.constructorNameAsVariable false
set_option linter.defProp false
/-
 CornersKnown: what its calls answer,part 6.
-/
set_option maxRecDepth 100000
namespace Go.Am
open Sx Go.Proofs
theorem ka_0:∀H,bg cc ab 4 [.i 0,.i 0,.i 0,.i 2] H [.b true] H:=aW (ok4 ao) rfl (by kernel_rfl) rfl (by kernel_rfl)
noncomputable def kc_0:KR1:=⟨7,[.i 0,.i 0,.v (.slice (some ⟨0,0,tag 1⟩) 50 0),.i 7],bl_0,[.b true]⟩
theorem kc_0_ok:KROk kc_0:=ax (ok7 ao) rfl (by kernel_rfl) rfl (am (by kernel_rfl)) (by kernel_rfl)
noncomputable def kb_0:KR1:=⟨8,[.i 0,.i 0,.v (.slice (some ⟨0,0,tag 1⟩) 50 0)],bl_0,[.b true]⟩
theorem kb_0_ok:KROk kb_0:=ax (ok8 ao) rfl (by kernel_rfl) rfl (am (by kernel_rfl)) (by kernel_rfl)
noncomputable def kt_0:KR1:=⟨9,[.i 0,.i 0,.v (.slice (some ⟨0,0,tag 1⟩) 50 0),.i 0],bl_0,[.b true]⟩
theorem kt_0_ok:KROk kt_0:=ax (ok9 ao) rfl (by kernel_rfl) rfl (am (by kernel_rfl)) (by kernel_rfl)
theorem ka_1:∀H,bg cc ab 4 [.i 1,.i 0,.i 1,.i 6] H [.b true] H:=aW (ok4 ao) rfl (by kernel_rfl) rfl (by kernel_rfl)
noncomputable def kt_1:KR1:=⟨9,[.i 1,.i 0,.v (.slice (some ⟨0,0,tag 1⟩) 50 0),.i 1],bl_1,[.b true]⟩
theorem kt_1_ok:KROk kt_1:=ax (ok9 ao) rfl (by kernel_rfl) rfl (am (by kernel_rfl)) (by kernel_rfl)
noncomputable def ke_1:KR1:=⟨10,[.i (-1),.i 2,.v (.slice none 0 0),.i 1,.i 1],[],[.b true]⟩
theorem ke_1_ok:KROk ke_1:=ax (ok10 ao) rfl (by kernel_rfl) rfl (am (by kernel_rfl)) (by kernel_rfl)
theorem ka_2:∀H,bg cc ab 4 [.i 2,.i 0,.i 2,.i 8] H [.b true] H:=aW (ok4 ao) rfl (by kernel_rfl) rfl (by kernel_rfl)
noncomputable def ke_2:KR1:=⟨10,[.i 0,.i 2,.v (.slice none 0 0),.i 2,.i 1],[],[.b true]⟩
theorem ke_2_ok:KROk ke_2:=ax (ok10 ao) rfl (by kernel_rfl) rfl (am (by kernel_rfl)) (by kernel_rfl)
theorem ka_3:∀H,bg cc ab 4 [.i 3,.i 0,.i 3,.i 0] H [.b true] H:=aW (ok4 ao) rfl (by kernel_rfl) rfl (by kernel_rfl)
noncomputable def ke_3:KR1:=⟨10,[.i 1,.i 2,.v (.slice none 0 0),.i 3,.i 1],[],[.b true]⟩
theorem ke_3_ok:KROk ke_3:=ax (ok10 ao) rfl (by kernel_rfl) rfl (am (by kernel_rfl)) (by kernel_rfl)
theorem ka_4:∀H,bg cc ab 4 [.i 4,.i 0,.i 4,.i 3] H [.b true] H:=aW (ok4 ao) rfl (by kernel_rfl) rfl (by kernel_rfl)
noncomputable def kc_4:KR1:=⟨7,[.i 4,.i 1,.v (.slice (some ⟨0,0,tag 1⟩) 50 0),.i 94],bl_4,[.b true]⟩
theorem kc_4_ok:KROk kc_4:=ax (ok7 ao) rfl (by kernel_rfl) rfl (am (by kernel_rfl)) (by kernel_rfl)
noncomputable def kt_4:KR1:=⟨9,[.i 4,.i 1,.v (.slice (some ⟨0,0,tag 1⟩) 50 0),.i 4],bl_4,[.b true]⟩
theorem kt_4_ok:KROk kt_4:=ax (ok9 ao) rfl (by kernel_rfl) rfl (am (by kernel_rfl)) (by kernel_rfl)
noncomputable def ke_4:KR1:=⟨10,[.i 2,.i 2,.v (.slice none 0 0),.i 4,.i 1],[],[.b true]⟩
theorem ke_4_ok:KROk ke_4:=ax (ok10 ao) rfl (by kernel_rfl) rfl (am (by kernel_rfl)) (by kernel_rfl)
theorem ka_5:∀H,bg cc ab 4 [.i 5,.i 1,.i 5,.i 1] H [.b true] H:=aW (ok4 ao) rfl (by kernel_rfl) rfl (by kernel_rfl)
noncomputable def ke_5:KR1:=⟨10,[.i 3,.i 2,.v (.slice none 0 0),.i 5,.i 1],[],[.b true]⟩
theorem ke_5_ok:KROk ke_5:=ax (ok10 ao) rfl (by kernel_rfl) rfl (am (by kernel_rfl)) (by kernel_rfl)
theorem ka_6:∀H,bg cc ab 4 [.i 6,.i 1,.i 6,.i 1] H [.b true] H:=aW (ok4 ao) rfl (by kernel_rfl) rfl (by kernel_rfl)
noncomputable def ke_6:KR1:=⟨10,[.i 4,.i 2,.v (.slice none 0 0),.i 6,.i 1],[],[.b true]⟩
theorem ke_6_ok:KROk ke_6:=ax (ok10 ao) rfl (by kernel_rfl) rfl (am (by kernel_rfl)) (by kernel_rfl)
theorem ka_7:∀H,bg cc ab 4 [.i 7,.i 1,.i 7,.i 4] H [.b true] H:=aW (ok4 ao) rfl (by kernel_rfl) rfl (by kernel_rfl)
noncomputable def ke_7:KR1:=⟨10,[.i 5,.i 2,.v (.slice none 0 0),.i 7,.i 1],[],[.b true]⟩
theorem ke_7_ok:KROk ke_7:=ax (ok10 ao) rfl (by kernel_rfl) rfl (am (by kernel_rfl)) (by kernel_rfl)
theorem ka_8:∀H,bg cc ab 4 [.i 8,.i 1,.i 8,.i 7] H [.b true] H:=aW (ok4 ao) rfl (by kernel_rfl) rfl (by kernel_rfl)
noncomputable def kt_8:KR1:=⟨9,[.i 8,.i 2,.v (.slice (some ⟨0,0,tag 1⟩) 50 0),.i 8],bl_8,[.b true]⟩
theorem kt_8_ok:KROk kt_8:=ax (ok9 ao) rfl (by kernel_rfl) rfl (am (by kernel_rfl)) (by kernel_rfl)
noncomputable def ke_8:KR1:=⟨10,[.i 6,.i 2,.v (.slice none 0 0),.i 8,.i 1],[],[.b true]⟩
theorem ke_8_ok:KROk ke_8:=ax (ok10 ao) rfl (by kernel_rfl) rfl (am (by kernel_rfl)) (by kernel_rfl)
theorem ka_9:∀H,bg cc ab 4 [.i 9,.i 1,.i 9,.i 3] H [.b true] H:=aW (ok4 ao) rfl (by kernel_rfl) rfl (by kernel_rfl)
noncomputable def ke_9:KR1:=⟨10,[.i 7,.i 2,.v (.slice none 0 0),.i 9,.i 1],[],[.b true]⟩
theorem ke_9_ok:KROk ke_9:=ax (ok10 ao) rfl (by kernel_rfl) rfl (am (by kernel_rfl)) (by kernel_rfl)
theorem ka_10:∀H,bg cc ab 4 [.i 10,.i 2,.i 10,.i 1] H [.b true] H:=aW (ok4 ao) rfl (by kernel_rfl) rfl (by kernel_rfl)
noncomputable def ke_10:KR1:=⟨10,[.i 8,.i 2,.v (.slice none 0 0),.i 10,.i 1],[],[.b true]⟩
theorem ke_10_ok:KROk ke_10:=ax (ok10 ao) rfl (by kernel_rfl) rfl (am (by kernel_rfl)) (by kernel_rfl)
theorem ka_11:∀H,bg cc ab 4 [.i 11,.i 2,.i 11,.i 0] H [.b true] H:=aW (ok4 ao) rfl (by kernel_rfl) rfl (by kernel_rfl)
noncomputable def ke_11:KR1:=⟨10,[.i 9,.i 2,.v (.slice none 0 0),.i 11,.i 1],[],[.b true]⟩
theorem ke_11_ok:KROk ke_11:=ax (ok10 ao) rfl (by kernel_rfl) rfl (am (by kernel_rfl)) (by kernel_rfl)
theorem ka_12:∀H,bg cc ab 4 [.i 12,.i 2,.i 12,.i 1] H [.b true] H:=aW (ok4 ao) rfl (by kernel_rfl) rfl (by kernel_rfl)
noncomputable def kt_12:KR1:=⟨9,[.i 12,.i 4,.v (.slice (some ⟨0,0,tag 1⟩) 50 0),.i 12],bl_12,[.b true]⟩
theorem kt_12_ok:KROk kt_12:=ax (ok9 ao) rfl (by kernel_rfl) rfl (am (by kernel_rfl)) (by kernel_rfl)
noncomputable def ke_12:KR1:=⟨10,[.i 10,.i 2,.v (.slice none 0 0),.i 12,.i 1],[],[.b true]⟩
theorem ke_12_ok:KROk ke_12:=ax (ok10 ao) rfl (by kernel_rfl) rfl (am (by kernel_rfl)) (by kernel_rfl)
theorem ka_13:∀H,bg cc ab 4 [.i 13,.i 2,.i 13,.i 1] H [.b true] H:=aW (ok4 ao) rfl (by kernel_rfl) rfl (by kernel_rfl)
noncomputable def kc_13:KR1:=⟨7,[.i 13,.i 4,.v (.slice (some ⟨0,0,tag 1⟩) 50 0),.i 199],bl_13,[.b true]⟩
theorem kc_13_ok:KROk kc_13:=ax (ok7 ao) rfl (by kernel_rfl) rfl (am (by kernel_rfl)) (by kernel_rfl)
noncomputable def kb_13:KR1:=⟨8,[.i 13,.i 4,.v (.slice (some ⟨0,0,tag 1⟩) 50 0)],bl_13,[.b true]⟩
theorem kb_13_ok:KROk kb_13:=ax (ok8 ao) rfl (by kernel_rfl) rfl (am (by kernel_rfl)) (by kernel_rfl)
noncomputable def kt_13:KR1:=⟨9,[.i 13,.i 4,.v (.slice (some ⟨0,0,tag 1⟩) 50 0),.i 13],bl_13,[.b true]⟩
theorem kt_13_ok:KROk kt_13:=ax (ok9 ao) rfl (by kernel_rfl) rfl (am (by kernel_rfl)) (by kernel_rfl)
noncomputable def ke_13:KR1:=⟨10,[.i 11,.i 2,.v (.slice none 0 0),.i 13,.i 1],[],[.b true]⟩
theorem ke_13_ok:KROk ke_13:=ax (ok10 ao) rfl (by kernel_rfl) rfl (am (by kernel_rfl)) (by kernel_rfl)
theorem ka_14:∀H,bg cc ab 4 [.i 14,.i 2,.i 14,.i 5] H [.b true] H:=aW (ok4 ao) rfl (by kernel_rfl) rfl (by kernel_rfl)
noncomputable def ke_14:KR1:=⟨10,[.i 12,.i 2,.v (.slice none 0 0),.i 14,.i 1],[],[.b true]⟩
theorem ke_14_ok:KROk ke_14:=ax (ok10 ao) rfl (by kernel_rfl) rfl (am (by kernel_rfl)) (by kernel_rfl)
theorem ka_15:∀H,bg cc ab 4 [.i 15,.i 3,.i 15,.i 4] H [.b true] H:=aW (ok4 ao) rfl (by kernel_rfl) rfl (by kernel_rfl)
theorem kr_15:∀H,bg cc ab 6 [.i 15,.i 3,.i 21] H [.b true] H:=aW (ok6 ao) rfl (by kernel_rfl) rfl (by kernel_rfl)
noncomputable def ke_15:KR1:=⟨10,[.i 13,.i 2,.v (.slice none 0 0),.i 15,.i 1],[],[.b true]⟩
theorem ke_15_ok:KROk ke_15:=ax (ok10 ao) rfl (by kernel_rfl) rfl (am (by kernel_rfl)) (by kernel_rfl)
theorem ka_16:∀H,bg cc ab 4 [.i 1,.i 1,.i (-9223372036854775808),.i 4611686018427387904] H [.b true] H:=aW (ok4 ao) rfl (by kernel_rfl) rfl (by kernel_rfl)
noncomputable def kn6:List KN1:=[(4,[.i 0,.i 0,.i 0,.i 2],[.b true]),(4,[.i 1,.i 0,.i 1,.i 6],[.b true]),(4,[.i 2,.i 0,.i 2,.i 8],[.b true]),(4,[.i 3,.i 0,.i 3,.i 0],[.b true]),(4,[.i 4,.i 0,.i 4,.i 3],[.b true]),(4,[.i 5,.i 1,.i 5,.i 1],[.b true]),(4,[.i 6,.i 1,.i 6,.i 1],[.b true]),(4,[.i 7,.i 1,.i 7,.i 4],[.b true]),(4,[.i 8,.i 1,.i 8,.i 7],[.b true]),(4,[.i 9,.i 1,.i 9,.i 3],[.b true]),(4,[.i 10,.i 2,.i 10,.i 1],[.b true]),(4,[.i 11,.i 2,.i 11,.i 0],[.b true]),(4,[.i 12,.i 2,.i 12,.i 1],[.b true]),(4,[.i 13,.i 2,.i 13,.i 1],[.b true]),(4,[.i 14,.i 2,.i 14,.i 5],[.b true]),(4,[.i 15,.i 3,.i 15,.i 4],[.b true]),(6,[.i 15,.i 3,.i 21],[.b true]),(4,[.i 1,.i 1,.i (-9223372036854775808),.i 4611686018427387904],[.b true])]
theorem kn6_ok:AllK cc ab kn6:=.cons ka_0 (.cons ka_1 (.cons ka_2 (.cons ka_3 (.cons ka_4 (.cons ka_5 (.cons ka_6 (.cons ka_7 (.cons ka_8 (.cons ka_9 (.cons ka_10 (.cons ka_11 (.cons ka_12 (.cons ka_13 (.cons ka_14 (.cons ka_15 (.cons kr_15 (.cons ka_16 (.nil))))))))))))))))))
noncomputable def kr6:List KR1:=[kc_0,kb_0,kt_0,kt_1,ke_1,ke_2,ke_3,kc_4,kt_4,ke_4,ke_5,ke_6,ke_7,kt_8,ke_8,ke_9,ke_10,ke_11,kt_12,ke_12,kc_13,kb_13,kt_13,ke_13,ke_14,ke_15]
theorem kr6_ok:AllR kr6:=.cons kc_0_ok (.cons kb_0_ok (.cons kt_0_ok (.cons kt_1_ok (.cons ke_1_ok (.cons ke_2_ok (.cons ke_3_ok (.cons kc_4_ok (.cons kt_4_ok (.cons ke_4_ok (.cons ke_5_ok (.cons ke_6_ok (.cons ke_7_ok (.cons kt_8_ok (.cons ke_8_ok (.cons ke_9_ok (.cons ke_10_ok (.cons ke_11_ok (.cons kt_12_ok (.cons ke_12_ok (.cons kc_13_ok (.cons kb_13_ok (.cons kt_13_ok (.cons ke_13_ok (.cons ke_14_ok (.cons ke_15_ok (.nil))))))))))))))))))))))))))
end Go.Am

