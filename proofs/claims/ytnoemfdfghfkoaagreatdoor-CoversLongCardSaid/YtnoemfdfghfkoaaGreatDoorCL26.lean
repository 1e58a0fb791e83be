/-
  PART 26 OF THE PROOF: V2 (no conditions).
-/
import Derived.Test.YtnoemfdfghfkoaaGreatDoorCL25
set_option linter.unusedSectionVars false
set_option linter.unusedSimpArgs false
set_option linter.unusedVariables false
set_option linter.constructorNameAsVariable false
set_option linter.defProp false
/-
 What covers.Least answers of the first examples.
-/
set_option maxRecDepth 100000
namespace Go.Am
open Sx Go.Proofs
noncomputable def ql0:KR1:=⟨26,[.v (.slice (some ⟨0,0,tag 3⟩) 4 0)],[(3,[.int .i64 0,.int .i64 0,.int .u8 0,.int .i64 0,.int .i64 0,.int .u8 1,.int .i64 0,.int .i64 0,.int .u8 2,.int .i64 0,.int .i64 0,.int .u8 3])],[.i 1,.i 0]⟩
theorem ql0_ok:KROk ql0:=dW (ok26 (bu 60)) rfl (by kernel_rfl) rfl (aS (by kernel_rfl)) (by kernel_rfl)
noncomputable def ql1:KR1:=⟨26,[.v (.slice (some ⟨0,0,tag 3⟩) 8 0)],[(3,[.int .i64 0,.int .i64 0,.int .u8 0,.int .i64 0,.int .i64 0,.int .u8 1,.int .i64 0,.int .i64 0,.int .u8 2,.int .i64 0,.int .i64 0,.int .u8 3,.int .i64 1,.int .i64 0,.int .u8 0,.int .i64 1,.int .i64 0,.int .u8 1,.int .i64 1,.int .i64 0,.int .u8 2,.int .i64 1,.int .i64 0,.int .u8 3])],[.i 2,.i 0]⟩
theorem ql1_ok:KROk ql1:=dW (ok26 (bu 60)) rfl (by kernel_rfl) rfl (aS (by kernel_rfl)) (by kernel_rfl)
noncomputable def ql2:KR1:=⟨26,[.v (.slice (some ⟨0,0,tag 3⟩) 8 0)],[(3,[.int .i64 0,.int .i64 0,.int .u8 0,.int .i64 0,.int .i64 0,.int .u8 1,.int .i64 0,.int .i64 0,.int .u8 2,.int .i64 0,.int .i64 0,.int .u8 3,.int .i64 0,.int .i64 1,.int .u8 0,.int .i64 0,.int .i64 1,.int .u8 1,.int .i64 0,.int .i64 1,.int .u8 2,.int .i64 0,.int .i64 1,.int .u8 3])],[.i 3,.i 0]⟩
theorem ql2_ok:KROk ql2:=dW (ok26 (bu 60)) rfl (by kernel_rfl) rfl (aS (by kernel_rfl)) (by kernel_rfl)
noncomputable def ql3:KR1:=⟨26,[.v (.slice (some ⟨0,0,tag 3⟩) 12 0)],[(3,[.int .i64 0,.int .i64 0,.int .u8 0,.int .i64 0,.int .i64 0,.int .u8 1,.int .i64 0,.int .i64 0,.int .u8 2,.int .i64 0,.int .i64 0,.int .u8 3,.int .i64 1,.int .i64 0,.int .u8 0,.int .i64 1,.int .i64 0,.int .u8 1,.int .i64 1,.int .i64 0,.int .u8 2,.int .i64 1,.int .i64 0,.int .u8 3,.int .i64 2,.int .i64 0,.int .u8 0,.int .i64 2,.int .i64 0,.int .u8 1,.int .i64 2,.int .i64 0,.int .u8 2,.int .i64 2,.int .i64 0,.int .u8 3])],[.i 3,.i 0]⟩
theorem ql3_ok:KROk ql3:=dW (ok26 (bu 60)) rfl (by kernel_rfl) rfl (aS (by kernel_rfl)) (by kernel_rfl)
end Go.Am

