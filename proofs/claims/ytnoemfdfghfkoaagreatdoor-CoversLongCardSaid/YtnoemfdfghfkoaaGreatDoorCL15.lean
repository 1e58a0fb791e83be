/-
  PART 15 OF THE PROOF: L32 (no conditions).
-/
import Derived.Test.YtnoemfdfghfkoaaGreatDoorCL14
set_option linter.unusedSectionVars false
set_option linter.unusedSimpArgs false
set_option linter.unusedVariables false
set_option linter.constructorNameAsVariable false
set_option linter.defProp false
/-
 CoversLong: what covers.Covers answers.
-/
set_option maxRecDepth 100000
namespace Go.Am
open Sx Go.Proofs
noncomputable def cv2:KR1:=⟨7,[.v (.slice (some ⟨0,0,tag 3⟩) 256 0),.v (.slice (some ⟨1,0,tag 1⟩) 91 92),.i 0,.i 0,.i 0],[(3,rwC 2),(1,[.int .u8 1,.int .u8 1,.int .u8 1,.int .u8 1,.int .u8 1,.int .u8 1,.int .u8 1,.int .u8 2,.int .u8 4,.int .u8 1,.int .u8 1,.int .u8 1,.int .u8 1,.int .u8 1,.int .u8 1,.int .u8 1,.int .u8 2,.int .u8 4,.int .u8 1,.int .u8 1,.int .u8 1,.int .u8 1,.int .u8 1,.int .u8 1,.int .u8 1,.int .u8 2,.int .u8 4,.int .u8 1,.int .u8 2,.int .u8 4,.int .u8 1,.int .u8 1,.int .u8 1,.int .u8 1,.int .u8 1,.int .u8 1,.int .u8 2,.int .u8 3,.int .u8 1,.int .u8 2,.int .u8 3,.int .u8 1,.int .u8 1,.int .u8 1,.int .u8 1,.int .u8 1,.int .u8 1,.int .u8 2,.int .u8 4,.int .u8 1,.int .u8 2,.int .u8 4,.int .u8 1,.int .u8 1,.int .u8 1,.int .u8 1,.int .u8 1,.int .u8 1,.int .u8 2,.int .u8 3,.int .u8 1,.int .u8 2,.int .u8 3,.int .u8 1,.int .u8 1,.int .u8 1,.int .u8 1,.int .u8 1,.int .u8 1,.int .u8 2,.int .u8 4,.int .u8 1,.int .u8 2,.int .u8 4,.int .u8 1,.int .u8 1,.int .u8 1,.int .u8 1,.int .u8 1,.int .u8 1,.int .u8 2,.int .u8 3,.int .u8 1,.int .u8 2,.int .u8 3,.int .u8 1,.int .u8 1,.int .u8 1,.int .u8 1,.int .u8 1,.int .u8 1,.int .u8 2,.int .u8 1,.int .u8 1,.int .u8 1,.int .u8 1,.int .u8 1,.int .u8 1,.int .u8 2,.int .u8 4,.int .u8 1,.int .u8 2,.int .u8 4,.int .u8 1,.int .u8 1,.int .u8 1,.int .u8 1,.int .u8 1,.int .u8 1,.int .u8 2,.int .u8 3,.int .u8 1,.int .u8 2,.int .u8 3,.int .u8 1,.int .u8 1,.int .u8 1,.int .u8 1,.int .u8 1,.int .u8 1,.int .u8 2,.int .u8 4,.int .u8 1,.int .u8 2,.int .u8 4,.int .u8 1,.int .u8 1,.int .u8 1,.int .u8 1,.int .u8 1,.int .u8 1,.int .u8 2,.int .u8 3,.int .u8 1,.int .u8 2,.int .u8 3,.int .u8 1,.int .u8 1,.int .u8 1,.int .u8 1,.int .u8 1,.int .u8 1,.int .u8 2,.int .u8 4,.int .u8 1,.int .u8 2,.int .u8 4,.int .u8 1,.int .u8 1,.int .u8 1,.int .u8 1,.int .u8 1,.int .u8 1,.int .u8 2,.int .u8 3,.int .u8 1,.int .u8 2,.int .u8 3,.int .u8 1,.int .u8 1,.int .u8 1,.int .u8 1,.int .u8 1,.int .u8 1,.int .u8 1,.int .u8 2,.int .u8 3,.int .u8 1,.int .u8 1,.int .u8 1,.int .u8 1,.int .u8 1,.int .u8 1,.int .u8 1,.int .u8 2,.int .u8 3,.int .u8 1,.int .u8 1,.int .u8 1,.int .u8 1,.int .u8 1,.int .u8 1,.int .u8 1])],[.b true,.i 0]⟩
theorem cv2_ok:KROk cv2:=dW (ok7 (ed (bu 400) (.cons co2_ok .nil))) rfl (by kernel_rfl) rfl (aS (by kernel_rfl)) (by kernel_rfl)
end Go.Am
