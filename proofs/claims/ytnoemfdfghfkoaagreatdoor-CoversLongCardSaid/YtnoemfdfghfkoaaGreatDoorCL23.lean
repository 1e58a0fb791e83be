/-
  PART 23 OF THE PROOF: St6 (no conditions).
-/
import Derived.Test.YtnoemfdfghfkoaaGreatDoorCL22
set_option linter.unusedSectionVars false
set_option linter.unusedSimpArgs false
set_option linter.unusedVariables false
set_option linter.constructorNameAsVariable false
set_option linter.defProp false
/-
 SET OF THE COMB: the sorting,a part.
-/
set_option maxRecDepth 100000
namespace Go.Am
open Sx Go.Proofs
theorem st6_ok:∀(K s:List Lf→HTr→RT),(dw (cbH 37).t fun t=>fW (set2 cbA cbX K) s 36 [.i (.ofNat 444)] ⟨961,t⟩)=s [.i (.ofNat 480)] (cbH 40):=fun K s=>by kernel_rfl
end Go.Am

