/-
  PART 9 OF THE PROOF: V2 (no conditions).
-/
import Derived.Test.YtoccchebipfncaaGreatDoorCK8
set_option linter.unusedSectionVars false
set_option linter.unusedSimpArgs false
set_option linter.unusedVariables false
set_option linter.constructorNameAsVariable false
set_option linter.defProp false
/-
 CornersKnown: what its calls answer,part 2.
-/
set_option maxRecDepth 100000
namespace Go.Am
open Sx Go.Proofs
noncomputable def kc_5:KR1:=⟨7,[.i 5,.i 1,.v (.slice (some ⟨0,0,tag 1⟩) 50 0),.i 99],bl_5,[.b true]⟩
theorem kc_5_ok:KROk kc_5:=ax (ok7 ao) rfl (by kernel_rfl) rfl (am (by kernel_rfl)) (by kernel_rfl)
noncomputable def kb_7:KR1:=⟨8,[.i 7,.i 2,.v (.slice (some ⟨0,0,tag 1⟩) 50 0)],bl_7,[.b true]⟩
theorem kb_7_ok:KROk kb_7:=ax (ok8 ao) rfl (by kernel_rfl) rfl (am (by kernel_rfl)) (by kernel_rfl)
noncomputable def kb_10:KR1:=⟨8,[.i 10,.i 3,.v (.slice (some ⟨0,0,tag 1⟩) 50 0)],bl_10,[.b true]⟩
theorem kb_10_ok:KROk kb_10:=ax (ok8 ao) rfl (by kernel_rfl) rfl (am (by kernel_rfl)) (by kernel_rfl)
noncomputable def kn2:List KN1:=[]
theorem kn2_ok:AllK cc ab kn2:=.nil
noncomputable def kr2:List KR1:=[kc_5,kb_7,kb_10]
theorem kr2_ok:AllR kr2:=.cons kc_5_ok (.cons kb_7_ok (.cons kb_10_ok (.nil)))
end Go.Am

