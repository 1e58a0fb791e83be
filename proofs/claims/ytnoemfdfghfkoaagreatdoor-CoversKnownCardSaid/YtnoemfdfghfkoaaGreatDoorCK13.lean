/-
  PART 13 OF THE PROOF: V5 (no conditions).
-/
import Derived.Test.YtnoemfdfghfkoaaGreatDoorCK12
set_option linter.unusedSectionVars false
set_option linter.unusedSimpArgs false
set_option linter.unusedVariables false
set_option linter.constructorNameAsVariable false
set_option linter.defProp false
/-
 CoversKnown: what its calls answer,a part.
-/
set_option maxRecDepth 100000
namespace Go.Am
open Sx Go.Proofs
noncomputable def kl3:KR1:=⟨14,[.i 17,.i 3,.v (.slice (some ⟨0,0,tag 2⟩) 3 0)],[(2,[.int .u8 17,.int .u8 185,.int .u8 118,.int .u8 199,.int .u8 67,.int .u8 229])],[.b true]⟩
theorem kl3_ok:KROk kl3:=ax (ok14 aB) rfl (by kernel_rfl) rfl (af (by kernel_rfl)) (by kernel_rfl)
noncomputable def kr5:List KR1:=[kl3]
theorem kr5_ok:AllR kr5:=.cons kl3_ok .nil
end Go.Am

