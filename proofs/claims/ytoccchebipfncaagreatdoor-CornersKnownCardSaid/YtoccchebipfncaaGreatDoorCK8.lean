/-
  PART 8 OF THE PROOF: V1 (no conditions).
-/
import Derived.Test.YtoccchebipfncaaGreatDoorCK7
set_option linter.unusedSectionVars false
set_option linter.unusedSimpArgs false
set_option linter.unusedVariables false
set_option linter.constructorNameAsVariable false
set_option linter.defProp false
/-
 CornersKnown: what its calls answer,part 1.
-/
set_option maxRecDepth 100000
namespace Go.Am
open Sx Go.Proofs
noncomputable def ke_0:KR1:=⟨10,[.i (-2),.i 2,.v (.slice none 0 0),.i 0,.i 1],[],[.b true]⟩
theorem ke_0_ok:KROk ke_0:=ax (ok10 ao) rfl (by kernel_rfl) rfl (am (by kernel_rfl)) (by kernel_rfl)
noncomputable def kb_6:KR1:=⟨8,[.i 6,.i 2,.v (.slice (some ⟨0,0,tag 1⟩) 50 0)],bl_6,[.b true]⟩
theorem kb_6_ok:KROk kb_6:=ax (ok8 ao) rfl (by kernel_rfl) rfl (am (by kernel_rfl)) (by kernel_rfl)
noncomputable def kb_11:KR1:=⟨8,[.i 11,.i 3,.v (.slice (some ⟨0,0,tag 1⟩) 50 0)],bl_11,[.b true]⟩
theorem kb_11_ok:KROk kb_11:=ax (ok8 ao) rfl (by kernel_rfl) rfl (am (by kernel_rfl)) (by kernel_rfl)
noncomputable def kn1:List KN1:=[]
theorem kn1_ok:AllK cc ab kn1:=.nil
noncomputable def kr1:List KR1:=[ke_0,kb_6,kb_11]
theorem kr1_ok:AllR kr1:=.cons ke_0_ok (.cons kb_6_ok (.cons kb_11_ok (.nil)))
end Go.Am

