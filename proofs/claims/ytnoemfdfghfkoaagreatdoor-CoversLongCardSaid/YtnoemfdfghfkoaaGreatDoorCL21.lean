/-
  PART 21 OF THE PROOF: St4 (no conditions).
-/
import Derived.Test.YtnoemfdfghfkoaaGreatDoorCL20
set_option linter.unusedSectionVars false
set_option linter.unusedSimpArgs false
set_option linter.unusedVariables false
set_option linter.constructorNameAsVariable false
set_option linter.defProp false
/-
 SET OF THE COMB: the sorting,a part.
-/
set_option maxRecDepth 100000
namespace Go.Am
open Sx Go.Proofs
theorem st4_ok:∀(K s:List Lf→HTr→RT),(dw (cbH 28).t fun t=>fW (set2 cbA cbX K) s 60 [.i (.ofNat 336)] ⟨961,t⟩)=s [.i (.ofNat 396)] (cbH 33):=fun K s=>by kernel_rfl
end Go.Am

