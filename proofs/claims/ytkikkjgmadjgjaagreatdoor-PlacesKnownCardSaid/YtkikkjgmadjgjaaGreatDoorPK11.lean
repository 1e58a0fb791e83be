/-
  PART 11 OF THE PROOF: V3 (no conditions).
-/
import Derived.Test.YtkikkjgmadjgjaaGreatDoorPK10
set_option linter.unusedSectionVars false
set_option linter.unusedSimpArgs false
set_option linter.unusedVariables false
set_option linter.constructorNameAsVariable false
set_option linter.defProp false
/-
 PlacesKnown: what its calls answer,part 3.
-/
set_option maxRecDepth 100000
namespace Go.Am
open Sx Go.Proofs
noncomputable def qo_0:KR1:=⟨9,[.i 0,.i 0,.v (.slice none 0 0),.v (.slice none 0 0),.i 1],[],[.b true]⟩
theorem qo_0_ok:KROk qo_0:=au (ok9 aq) rfl (by kernel_rfl) rfl (ah (by kernel_rfl)) (by kernel_rfl)
noncomputable def qf_3:KR1:=⟨4,[.i 3,.i 1,.v (.slice (some ⟨0,0,tag 4⟩) 3 0),.v (.slice none 0 0),.i 3,.i 15,.i 3],[(4,[.int .u8 17,.int .i8 2,.bool false,.bool false,.int .u8 118,.int .i8 3,.bool true,.bool false,.int .u8 67,.int .i8 5,.bool false,.bool true])],[.b true]⟩
theorem qf_3_ok:KROk qf_3:=au (ok4 aq) rfl (by kernel_rfl) rfl (ah (by kernel_rfl)) (by kernel_rfl)
noncomputable def kr3:List KR1:=[qo_0,qf_3]
theorem kr3_ok:AllR kr3:=.cons qo_0_ok (.cons qf_3_ok (.nil))
end Go.Am

