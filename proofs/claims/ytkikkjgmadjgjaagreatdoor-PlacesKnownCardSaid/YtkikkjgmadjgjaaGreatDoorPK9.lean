/-
  PART 9 OF THE PROOF: V16 (no conditions).
-/
import Derived.Test.YtkikkjgmadjgjaaGreatDoorPK8
set_option linter.unusedSectionVars false
set_option linter.unusedSimpArgs false
set_option linter.unusedVariables false
set_option linter.constructorNameAsVariable false
set_option linter.defProp false
/-
 PlacesKnown: what its calls answer,a part of part 2.
-/
set_option maxRecDepth 100000
namespace Go.Am
open Sx Go.Proofs
noncomputable def qk_6:KR1:=⟨17,[.i 3,.i 3,.v (.slice (some ⟨0,0,tag 3⟩) 6 0),.i 6,.i 19,.i 7],[(3,[.int .i64 0,.int .u8 1,.int .u8 2,.int .i64 2,.int .u8 1,.int .u8 2,.int .i64 12,.int .u8 2,.int .u8 2,.int .i64 13,.int .u8 2,.int .u8 2,.int .i64 28,.int .u8 2,.int .u8 2,.int .i64 29,.int .u8 2,.int .u8 2])],[.b true]⟩
theorem qk_6_ok:KROk qk_6:=au (ok17 aq) rfl (by kernel_rfl) rfl (ah (by kernel_rfl)) (by kernel_rfl)
end Go.Am

