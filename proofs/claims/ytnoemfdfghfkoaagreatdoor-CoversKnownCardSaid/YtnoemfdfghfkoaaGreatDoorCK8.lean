/-
  PART 8 OF THE PROOF: V10 (no conditions).
-/
import Derived.Test.YtnoemfdfghfkoaaGreatDoorCK7
set_option linter.unusedSectionVars false
set_option linter.unusedSimpArgs false
set_option linter.unusedVariables false
set_option linter.constructorNameAsVariable false
set_option linter.defProp false
/-
 What least answers of three squares.
-/
set_option maxRecDepth 100000
namespace Go.Am
open Sx Go.Proofs
noncomputable def qd1:KR1:=⟨31,[.v (.slice (some ⟨0,0,tag 3⟩) 12 0),.i (-4),.i (-1),.i 0,.i 0,.i 3,.v (.slice none 0 0)],[(3,[.int .i64 (-4),.int .i64 (-2),.int .u8 0,.int .i64 (-4),.int .i64 (-2),.int .u8 1,.int .i64 (-4),.int .i64 (-2),.int .u8 2,.int .i64 (-4),.int .i64 (-2),.int .u8 3,.int .i64 (-4),.int .i64 (-1),.int .u8 0,.int .i64 (-4),.int .i64 (-1),.int .u8 1,.int .i64 (-4),.int .i64 (-1),.int .u8 2,.int .i64 (-4),.int .i64 (-1),.int .u8 3,.int .i64 (-3),.int .i64 (-1),.int .u8 0,.int .i64 (-3),.int .i64 (-1),.int .u8 1,.int .i64 (-3),.int .i64 (-1),.int .u8 2,.int .i64 (-3),.int .i64 (-1),.int .u8 3])],[.b false]⟩
theorem qd1_ok:KROk qd1:=ax (ok31 (df 60)) rfl (by kernel_rfl) rfl (af (by kernel_rfl)) (by kernel_rfl)
noncomputable def qd2:KR1:=⟨31,[.v (.slice (some ⟨0,0,tag 3⟩) 12 0),.i (-4),.i (-2),.i 0,.i 0,.i 3,.v (.slice none 0 0)],[(3,[.int .i64 (-4),.int .i64 (-2),.int .u8 0,.int .i64 (-4),.int .i64 (-2),.int .u8 1,.int .i64 (-4),.int .i64 (-2),.int .u8 2,.int .i64 (-4),.int .i64 (-2),.int .u8 3,.int .i64 (-4),.int .i64 (-1),.int .u8 0,.int .i64 (-4),.int .i64 (-1),.int .u8 1,.int .i64 (-4),.int .i64 (-1),.int .u8 2,.int .i64 (-4),.int .i64 (-1),.int .u8 3,.int .i64 (-3),.int .i64 (-1),.int .u8 0,.int .i64 (-3),.int .i64 (-1),.int .u8 1,.int .i64 (-3),.int .i64 (-1),.int .u8 2,.int .i64 (-3),.int .i64 (-1),.int .u8 3])],[.b false]⟩
theorem qd2_ok:KROk qd2:=ax (ok31 (df 60)) rfl (by kernel_rfl) rfl (af (by kernel_rfl)) (by kernel_rfl)
end Go.Am

