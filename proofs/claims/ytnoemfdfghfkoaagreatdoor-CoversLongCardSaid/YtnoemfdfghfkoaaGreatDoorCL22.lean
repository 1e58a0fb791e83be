/-
  PART 22 OF THE PROOF: St5 (no conditions).
-/
import Derived.Test.YtnoemfdfghfkoaaGreatDoorCL21
set_option linter.unusedSectionVars false
set_option linter.unusedSimpArgs false
set_option linter.unusedVariables false
set_option linter.constructorNameAsVariable false
set_option linter.defProp false
/-
 SET OF THE COMB: the sorting,a part.
-/
set_option maxRecDepth 100000
namespace Go.Am
open Sx Go.Proofs
theorem st5_ok:∀(K s:List Lf→HTr→RT),(dw (cbH 33).t fun t=>fW (set2 cbA cbX K) s 48 [.i (.ofNat 396)] ⟨961,t⟩)=s [.i (.ofNat 444)] (cbH 37):=fun K s=>by kernel_rfl
end Go.Am

