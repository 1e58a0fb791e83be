/-
  PART 12 OF THE PROOF: V4 (no conditions).
-/
import Derived.Test.YtnoemfdfghfkoaaGreatDoorCK11
set_option linter.unusedSectionVars false
set_option linter.unusedSimpArgs false
set_option linter.unusedVariables false
set_option linter.constructorNameAsVariable false
set_option linter.defProp false
/-
 CoversKnown: what its calls answer,a part.
-/
set_option maxRecDepth 100000
namespace Go.Am
open Sx Go.Proofs
noncomputable def kl2:KR1:=⟨14,[.i 42,.i 2,.v (.slice (some ⟨0,0,tag 2⟩) 2 0)],[(2,[.int .u8 42,.int .u8 6,.int .u8 33,.int .u8 187])],[.b true]⟩
theorem kl2_ok:KROk kl2:=ax (ok14 (mI aB (.cons ql5_ok (.cons qd1_ok (.cons qd2_ok .nil))))) rfl (by kernel_rfl) rfl (af (by kernel_rfl)) (by kernel_rfl)
noncomputable def kr4:List KR1:=[kl2]
theorem kr4_ok:AllR kr4:=.cons kl2_ok .nil
end Go.Am

