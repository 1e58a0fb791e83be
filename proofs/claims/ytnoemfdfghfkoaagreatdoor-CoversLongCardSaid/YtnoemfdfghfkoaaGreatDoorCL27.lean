/-
  PART 27 OF THE PROOF: E9 (no conditions).
-/
import Derived.Test.YtnoemfdfghfkoaaGreatDoorCL26
set_option linter.unusedSectionVars false
set_option linter.unusedSimpArgs false
set_option linter.unusedVariables false
set_option linter.constructorNameAsVariable false
set_option linter.defProp false
/-
 The examples of the chapter.
-/
set_option maxRecDepth 100000
namespace Go.Am
open Sx Go.Proofs
theorem krL_ok:AllR [ql0,ql1,ql2,ql3,ql4]:=.cons ql0_ok (.cons ql1_ok (.cons ql2_ok (.cons ql3_ok (.cons ql4_ok .nil))))
theorem lives21:∀H,cj cc ab 10 [] H [.b true] H:=known_c (ok10 (qJ (bu 60) krL_ok)) rfl (by kernel_rfl) rfl (by kernel_rfl)
theorem kl_ok:AllK cc ab [(10,[],[.b true])]:=.cons lives21 .nil
end Go.Am

