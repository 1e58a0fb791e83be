/-
  PART 10 OF THE PROOF: V3 (no conditions).
-/
import Derived.Test.YtoccchebipfncaaGreatDoorCK9
set_option linter.unusedSectionVars false
set_option linter.unusedSimpArgs false
set_option linter.unusedVariables false
set_option linter.constructorNameAsVariable false
set_option linter.defProp false
/-
 CornersKnown: what its calls answer,part 3.
-/
set_option maxRecDepth 100000
namespace Go.Am
open Sx Go.Proofs
noncomputable def kb_3:KR1:=⟨8,[.i 3,.i 1,.v (.slice (some ⟨0,0,tag 1⟩) 50 0)],bl_3,[.b true]⟩
theorem kb_3_ok:KROk kb_3:=ax (ok8 ao) rfl (by kernel_rfl) rfl (am (by kernel_rfl)) (by kernel_rfl)
noncomputable def kb_5:KR1:=⟨8,[.i 5,.i 1,.v (.slice (some ⟨0,0,tag 1⟩) 50 0)],bl_5,[.b true]⟩
theorem kb_5_ok:KROk kb_5:=ax (ok8 ao) rfl (by kernel_rfl) rfl (am (by kernel_rfl)) (by kernel_rfl)
noncomputable def kb_9:KR1:=⟨8,[.i 9,.i 3,.v (.slice (some ⟨0,0,tag 1⟩) 50 0)],bl_9,[.b true]⟩
theorem kb_9_ok:KROk kb_9:=ax (ok8 ao) rfl (by kernel_rfl) rfl (am (by kernel_rfl)) (by kernel_rfl)
noncomputable def kc_11:KR1:=⟨7,[.i 11,.i 3,.v (.slice (some ⟨0,0,tag 1⟩) 50 0),.i 88],bl_11,[.b true]⟩
theorem kc_11_ok:KROk kc_11:=ax (ok7 ao) rfl (by kernel_rfl) rfl (am (by kernel_rfl)) (by kernel_rfl)
noncomputable def kt_11:KR1:=⟨9,[.i 11,.i 3,.v (.slice (some ⟨0,0,tag 1⟩) 50 0),.i 11],bl_11,[.b true]⟩
theorem kt_11_ok:KROk kt_11:=ax (ok9 ao) rfl (by kernel_rfl) rfl (am (by kernel_rfl)) (by kernel_rfl)
noncomputable def kb_12:KR1:=⟨8,[.i 12,.i 4,.v (.slice (some ⟨0,0,tag 1⟩) 50 0)],bl_12,[.b true]⟩
theorem kb_12_ok:KROk kb_12:=ax (ok8 ao) rfl (by kernel_rfl) rfl (am (by kernel_rfl)) (by kernel_rfl)
noncomputable def kb_15:KR1:=⟨8,[.i 15,.i 5,.v (.slice (some ⟨0,0,tag 1⟩) 50 0)],bl_15,[.b true]⟩
theorem kb_15_ok:KROk kb_15:=ax (ok8 ao) rfl (by kernel_rfl) rfl (am (by kernel_rfl)) (by kernel_rfl)
noncomputable def kn3:List KN1:=[]
theorem kn3_ok:AllK cc ab kn3:=.nil
noncomputable def kr3:List KR1:=[kb_3,kb_5,kb_9,kc_11,kt_11,kb_12,kb_15]
theorem kr3_ok:AllR kr3:=.cons kb_3_ok (.cons kb_5_ok (.cons kb_9_ok (.cons kc_11_ok (.cons kt_11_ok (.cons kb_12_ok (.cons kb_15_ok (.nil)))))))
end Go.Am

