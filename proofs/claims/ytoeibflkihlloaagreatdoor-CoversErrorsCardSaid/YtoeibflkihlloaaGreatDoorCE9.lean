/-
  PART 9 OF THE PROOF (no conditions).
-/
import Derived.Test.YtoeibflkihlloaaGreatDoorCE8
set_option linter.unusedSectionVars false
set_option linter.unusedSimpArgs false
set_option linter.unusedVariables false
set_option linter.constructorNameAsVariable false
set_option linter.defProp false
noncomputable section
set_option maxRecDepth 100000
namespace Go.Am
open Sx Go.Proofs
def ql0:KR1:=⟨15,[.v (.slice (some ⟨0,0,tag 3⟩) 4 0)],[(3,[.int .i64 0,.int .i64 0,.int .u8 0,.int .i64 0,.int .i64 0,.int .u8 1,.int .i64 0,.int .i64 0,.int .u8 2,.int .i64 0,.int .i64 0,.int .u8 3])],[.i 1,.i 0]⟩
theorem ql0_ok:KROk ql0:=nl (ok15 (gT 60)) rfl (by kernel_rfl) rfl (cG (by kernel_rfl)) (by kernel_rfl)
def ql1:KR1:=⟨15,[.v (.slice (some ⟨0,0,tag 3⟩) 8 0)],[(3,[.int .i64 0,.int .i64 0,.int .u8 0,.int .i64 0,.int .i64 0,.int .u8 1,.int .i64 0,.int .i64 0,.int .u8 2,.int .i64 0,.int .i64 0,.int .u8 3,.int .i64 1,.int .i64 0,.int .u8 0,.int .i64 1,.int .i64 0,.int .u8 1,.int .i64 1,.int .i64 0,.int .u8 2,.int .i64 1,.int .i64 0,.int .u8 3])],[.i 2,.i 0]⟩
theorem ql1_ok:KROk ql1:=nl (ok15 (gT 60)) rfl (by kernel_rfl) rfl (cG (by kernel_rfl)) (by kernel_rfl)
def ql2:KR1:=⟨15,[.v (.slice (some ⟨0,0,tag 3⟩) 8 0)],[(3,[.int .i64 0,.int .i64 0,.int .u8 0,.int .i64 0,.int .i64 0,.int .u8 1,.int .i64 0,.int .i64 0,.int .u8 2,.int .i64 0,.int .i64 0,.int .u8 3,.int .i64 0,.int .i64 1,.int .u8 0,.int .i64 0,.int .i64 1,.int .u8 1,.int .i64 0,.int .i64 1,.int .u8 2,.int .i64 0,.int .i64 1,.int .u8 3])],[.i 3,.i 0]⟩
theorem ql2_ok:KROk ql2:=nl (ok15 (gT 60)) rfl (by kernel_rfl) rfl (cG (by kernel_rfl)) (by kernel_rfl)
def ql3:KR1:=⟨15,[.v (.slice (some ⟨0,0,tag 3⟩) 12 0)],[(3,[.int .i64 0,.int .i64 0,.int .u8 0,.int .i64 0,.int .i64 0,.int .u8 1,.int .i64 0,.int .i64 0,.int .u8 2,.int .i64 0,.int .i64 0,.int .u8 3,.int .i64 1,.int .i64 0,.int .u8 0,.int .i64 1,.int .i64 0,.int .u8 1,.int .i64 1,.int .i64 0,.int .u8 2,.int .i64 1,.int .i64 0,.int .u8 3,.int .i64 2,.int .i64 0,.int .u8 0,.int .i64 2,.int .i64 0,.int .u8 1,.int .i64 2,.int .i64 0,.int .u8 2,.int .i64 2,.int .i64 0,.int .u8 3])],[.i 3,.i 0]⟩
theorem ql3_ok:KROk ql3:=nl (ok15 (gT 60)) rfl (by kernel_rfl) rfl (cG (by kernel_rfl)) (by kernel_rfl)
end Go.Am
end
