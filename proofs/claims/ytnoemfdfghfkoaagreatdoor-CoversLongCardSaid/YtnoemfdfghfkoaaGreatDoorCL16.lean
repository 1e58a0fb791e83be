/-
  PART 16 OF THE PROOF: L4 (no conditions).
-/
import Derived.Test.YtnoemfdfghfkoaaGreatDoorCL15
set_option linter.unusedSectionVars false
set_option linter.unusedSimpArgs false
set_option linter.unusedVariables false
set_option linter.constructorNameAsVariable false
set_option linter.defProp false
/-
 CoversLong: what covers.Walk answers of the comb.
-/
set_option maxRecDepth 100000
namespace Go.Am
open Sx Go.Proofs
noncomputable def wc:KM1:=⟨6,[.v (.slice (some ⟨0,0,tag 3⟩) 480 0)],[(3,cbC)],fun _=>[.v (.slice none 0 0),.i 0,.i 0,.i 0,.i 3],244,0,3,[]⟩
theorem wc_ok:KMOk wc:=dV (ok6 (bu 400)) rfl (by kernel_rfl) (fun τ n h=>by subst h;rfl) (by kernel_rfl) (by kernel_rfl) (by kernel_rfl)
end Go.Am
