/-
  PART 18 OF THE PROOF: St1 (no conditions).
-/
import Derived.Test.YtnoemfdfghfkoaaGreatDoorCL17
set_option linter.unusedSectionVars false
set_option linter.unusedSimpArgs false
set_option linter.unusedVariables false
set_option linter.constructorNameAsVariable false
set_option linter.defProp false
/-
 SET OF THE COMB: the sorting,a part.
-/
set_option maxRecDepth 100000
namespace Go.Am
open Sx Go.Proofs
theorem st1_ok:∀(K s:List Lf→HTr→RT),(dw (cbH 0).t fun t=>fW (set2 cbA cbX K) s 191 [.i (.ofNat 1)] ⟨961,t⟩)=s [.i (.ofNat 192)] (cbH 16):=fun K s=>by kernel_rfl
end Go.Am

