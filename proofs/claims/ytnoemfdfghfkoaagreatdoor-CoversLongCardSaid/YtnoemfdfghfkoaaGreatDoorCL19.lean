/-
  PART 19 OF THE PROOF: St2 (no conditions).
-/
import Derived.Test.YtnoemfdfghfkoaaGreatDoorCL18
set_option linter.unusedSectionVars false
set_option linter.unusedSimpArgs false
set_option linter.unusedVariables false
set_option linter.constructorNameAsVariable false
set_option linter.defProp false
/-
 SET OF THE COMB: the sorting,a part.
-/
set_option maxRecDepth 100000
namespace Go.Am
open Sx Go.Proofs
theorem st2_ok:∀(K s:List Lf→HTr→RT),(dw (cbH 16).t fun t=>fW (set2 cbA cbX K) s 84 [.i (.ofNat 192)] ⟨961,t⟩)=s [.i (.ofNat 276)] (cbH 23):=fun K s=>by kernel_rfl
end Go.Am

