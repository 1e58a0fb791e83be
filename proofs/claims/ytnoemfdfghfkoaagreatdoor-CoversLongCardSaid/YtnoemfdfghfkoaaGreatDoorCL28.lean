/-
  PART 28 OF THE PROOF: L6 (no conditions).
-/
import Derived.Test.YtnoemfdfghfkoaaGreatDoorCL27
set_option linter.unusedSectionVars false
set_option linter.unusedSimpArgs false
set_option linter.unusedVariables false
set_option linter.constructorNameAsVariable false
set_option linter.defProp false
/-
 CoversLong: all that is known of its calls.
-/
set_option maxRecDepth 100000
namespace Go.Am
open Sx Go.Proofs
theorem mL_ok:AllM [sc,wc]:=.cons sc_ok (.cons wc_ok .nil)
theorem rL_ok:AllR [cv0,cv1,cv2,sq]:=.cons cv0_ok (.cons cv1_ok (.cons cv2_ok (.cons sq_ok .nil)))
noncomputable abbrev runB:aa:=runKR [cv0,cv1,cv2,sq] (runKM [sc,wc] (runKn [(10,[],[.b true])] (runF 400)))
theorem runB_ok:Cok runB:=qJ (ed (runKn_ok (bu 400) kl_ok) mL_ok) rL_ok
end Go.Am
