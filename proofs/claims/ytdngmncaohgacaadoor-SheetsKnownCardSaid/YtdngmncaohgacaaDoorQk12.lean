/-
  PART 12 OF THE PROOF: V6 (no conditions).
-/
import Derived.Test.YtdngmncaohgacaaDoorQk11
set_option linter.unusedSectionVars false
set_option linter.unusedSimpArgs false
set_option linter.unusedVariables false
set_option linter.constructorNameAsVariable false
set_option linter.defProp false
/-
  SheetsKnown: the run.
-/
set_option maxRecDepth 100000
namespace Go.Am
open Sx Go.Proofs
theorem run8 : w8 (runKn (kn1 ++ (kn2 ++ (kn3 ++ (kn4 ++ kn5)))) (runF 60)) [] .empty isT = yes := by kernel_rfl
theorem sheetsKnown_cc : ∀ H, CallL cc sgTab 8 [] H [.b true] H := closed_known (n := 60) (kn1_ok.app (kn2_ok.app (kn3_ok.app (kn4_ok.app kn5_ok)))) rfl (W := w8) (fun hc => ok8 hc) run8
end Go.Am

