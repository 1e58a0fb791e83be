/-
  PART 30 OF THE PROOF: L71 (no conditions).
-/
import Derived.Test.YtnoemfdfghfkoaaGreatDoorCL29
set_option linter.unusedSectionVars false
set_option linter.unusedSimpArgs false
set_option linter.unusedVariables false
set_option linter.constructorNameAsVariable false
set_option linter.defProp false
/-
 CoversLong: a run.
-/
set_option maxRecDepth 100000
namespace Go.Am
open Sx Go.Proofs
theorem lo1:isAns [.b true] (wr3 runB [.i (.ofNat 1)] .empty tell)=true:=by kernel_rfl
end Go.Am
