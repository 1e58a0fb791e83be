/-
  PART 17 OF THE PROOF: L5 (no conditions).
-/
import Derived.Test.YtnoemfdfghfkoaaGreatDoorCL16
set_option linter.unusedSectionVars false
set_option linter.unusedSimpArgs false
set_option linter.unusedVariables false
set_option linter.constructorNameAsVariable false
set_option linter.defProp false
/-
 CoversLong: what covers.Squares answers of the comb.
-/
set_option maxRecDepth 100000
namespace Go.Am
open Sx Go.Proofs
noncomputable def sq:KR1:=⟨9,[.v (.slice (some ⟨0,0,tag 3⟩) 480 0)],[(3,cbC)],[.i 120,.i 0]⟩
theorem sq_ok:KROk sq:=dW (ok9 (bu 400)) rfl (by kernel_rfl) rfl (aS (by kernel_rfl)) (by kernel_rfl)
end Go.Am
