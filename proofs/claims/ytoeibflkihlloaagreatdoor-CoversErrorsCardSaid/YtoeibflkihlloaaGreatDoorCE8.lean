/-
  PART 8 OF THE PROOF (no conditions).
-/
import Derived.Test.YtoeibflkihlloaaGreatDoorCE7
set_option linter.unusedSectionVars false
set_option linter.unusedSimpArgs false
set_option linter.unusedVariables false
set_option linter.constructorNameAsVariable false
set_option linter.defProp false
noncomputable section
set_option maxRecDepth 100000
namespace Go.Am
open Sx Go.Proofs
def ql4:KR1:=⟨15,[.v (.slice (some ⟨0,0,tag 3⟩) 12 0)],[(3,[.int .i64 0,.int .i64 0,.int .u8 0,.int .i64 0,.int .i64 0,.int .u8 1,.int .i64 0,.int .i64 0,.int .u8 2,.int .i64 0,.int .i64 0,.int .u8 3,.int .i64 1,.int .i64 0,.int .u8 0,.int .i64 1,.int .i64 0,.int .u8 1,.int .i64 1,.int .i64 0,.int .u8 2,.int .i64 1,.int .i64 0,.int .u8 3,.int .i64 0,.int .i64 1,.int .u8 0,.int .i64 0,.int .i64 1,.int .u8 1,.int .i64 0,.int .i64 1,.int .u8 2,.int .i64 0,.int .i64 1,.int .u8 3])],[.i 5,.i 0]⟩
theorem ql4_ok:KROk ql4:=nl (ok15 (gT 60)) rfl (by kernel_rfl) rfl (cG (by kernel_rfl)) (by kernel_rfl)
end Go.Am
end
