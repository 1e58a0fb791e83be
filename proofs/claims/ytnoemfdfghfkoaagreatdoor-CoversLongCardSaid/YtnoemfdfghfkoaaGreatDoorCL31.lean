/-
  PART 31 OF THE PROOF: L72 (no conditions).
-/
import Derived.Test.YtnoemfdfghfkoaaGreatDoorCL30
set_option linter.unusedSectionVars false
set_option linter.unusedSimpArgs false
set_option linter.unusedVariables false
set_option linter.constructorNameAsVariable false
set_option linter.defProp false
/-
 CoversLong: a run.
-/
set_option maxRecDepth 100000
namespace Go.Am
open Sx Go.Proofs
theorem lo2:isAns [.b true] (wr3 runB [.i (.ofNat 2)] .empty tell)=true:=by kernel_rfl
end Go.Am
