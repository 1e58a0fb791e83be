/-
  PART 14 OF THE PROOF: L22 (no conditions).
-/
import Derived.Test.YtnoemfdfghfkoaaGreatDoorCL13
set_option linter.unusedSectionVars false
set_option linter.unusedSimpArgs false
set_option linter.unusedVariables false
set_option linter.constructorNameAsVariable false
set_option linter.defProp false
/-
 CoversLong: what ribbons.Cover makes.
-/
set_option maxRecDepth 100000
namespace Go.Am
open Sx Go.Proofs
noncomputable def co2:KM1:=⟨22,[.v (.slice (some ⟨0,0,tag 1⟩) 91 92)],[(1,[.int .u8 1,.int .u8 1,.int .u8 1,.int .u8 1,.int .u8 1,.int .u8 1,.int .u8 1,.int .u8 2,.int .u8 4,.int .u8 1,.int .u8 1,.int .u8 1,.int .u8 1,.int .u8 1,.int .u8 1,.int .u8 1,.int .u8 2,.int .u8 4,.int .u8 1,.int .u8 1,.int .u8 1,.int .u8 1,.int .u8 1,.int .u8 1,.int .u8 1,.int .u8 2,.int .u8 4,.int .u8 1,.int .u8 2,.int .u8 4,.int .u8 1,.int .u8 1,.int .u8 1,.int .u8 1,.int .u8 1,.int .u8 1,.int .u8 2,.int .u8 3,.int .u8 1,.int .u8 2,.int .u8 3,.int .u8 1,.int .u8 1,.int .u8 1,.int .u8 1,.int .u8 1,.int .u8 1,.int .u8 2,.int .u8 4,.int .u8 1,.int .u8 2,.int .u8 4,.int .u8 1,.int .u8 1,.int .u8 1,.int .u8 1,.int .u8 1,.int .u8 1,.int .u8 2,.int .u8 3,.int .u8 1,.int .u8 2,.int .u8 3,.int .u8 1,.int .u8 1,.int .u8 1,.int .u8 1,.int .u8 1,.int .u8 1,.int .u8 2,.int .u8 4,.int .u8 1,.int .u8 2,.int .u8 4,.int .u8 1,.int .u8 1,.int .u8 1,.int .u8 1,.int .u8 1,.int .u8 1,.int .u8 2,.int .u8 3,.int .u8 1,.int .u8 2,.int .u8 3,.int .u8 1,.int .u8 1,.int .u8 1,.int .u8 1,.int .u8 1,.int .u8 1,.int .u8 2,.int .u8 1,.int .u8 1,.int .u8 1,.int .u8 1,.int .u8 1,.int .u8 1,.int .u8 2,.int .u8 4,.int .u8 1,.int .u8 2,.int .u8 4,.int .u8 1,.int .u8 1,.int .u8 1,.int .u8 1,.int .u8 1,.int .u8 1,.int .u8 2,.int .u8 3,.int .u8 1,.int .u8 2,.int .u8 3,.int .u8 1,.int .u8 1,.int .u8 1,.int .u8 1,.int .u8 1,.int .u8 1,.int .u8 2,.int .u8 4,.int .u8 1,.int .u8 2,.int .u8 4,.int .u8 1,.int .u8 1,.int .u8 1,.int .u8 1,.int .u8 1,.int .u8 1,.int .u8 2,.int .u8 3,.int .u8 1,.int .u8 2,.int .u8 3,.int .u8 1,.int .u8 1,.int .u8 1,.int .u8 1,.int .u8 1,.int .u8 1,.int .u8 2,.int .u8 4,.int .u8 1,.int .u8 2,.int .u8 4,.int .u8 1,.int .u8 1,.int .u8 1,.int .u8 1,.int .u8 1,.int .u8 1,.int .u8 2,.int .u8 3,.int .u8 1,.int .u8 2,.int .u8 3,.int .u8 1,.int .u8 1,.int .u8 1,.int .u8 1,.int .u8 1,.int .u8 1,.int .u8 1,.int .u8 2,.int .u8 3,.int .u8 1,.int .u8 1,.int .u8 1,.int .u8 1,.int .u8 1,.int .u8 1,.int .u8 1,.int .u8 2,.int .u8 3,.int .u8 1,.int .u8 1,.int .u8 1,.int .u8 1,.int .u8 1,.int .u8 1,.int .u8 1])],fun n=>[.v (.slice (some ⟨n,0,tag 3⟩) 256 257),.i 0],1201,31,3,rwC 2⟩
theorem co2_ok:KMOk co2:=dV (ok22 (ed (bu 400) (.cons im2_ok .nil))) rfl (by kernel_rfl) (fun τ n h=>by subst h;rfl) (by kernel_rfl) (by kernel_rfl) (by kernel_rfl)
end Go.Am
