/-
  PART 5 OF THE PROOF: Gq Sx12 Sx13 Px1 Px2 Pq Gp C1 C2 C3 (no conditions).
-/
import Derived.Test.YtdngmncaohgacaaDoorCN4
import Derived.Calls
import Derived.LaidMore
import Derived.MakeChecks
import Derived.OpenShut
import Derived.ProofKit
import Derived.Stop.Joined
import Derived.Test.YtdngmncaohgacaaDoorRows
import GoSem.ClaimJoined
set_option linter.unusedSectionVars false
set_option linter.unusedSimpArgs false
set_option linter.unusedVariables false
set_option linter.constructorNameAsVariable false
set_option linter.defProp false
/-
  THE FUNCTIONS OF THE PROGRAM ARE WHAT IS TOLD OF THEM, BY PROGRAM.
-/
set_option maxRecDepth 100000
namespace Go.Am
open Sx Go.Proofs

def neuT : List (Nat × Nat) := [(22, 2), (66, 3)]
def lookN (l : List (Nat × Nat)) (f : Nat) : Option Nat := match l with
  | [] => none
  | p :: l => match Nat.beq p.1 f with
    | true => some p.2
    | false => lookN l f
def neuN (f : FuncId) : Option Nat := lookN neuT f
theorem lookN_mem {f n : Nat} : ∀ {l : List (Nat × Nat)}, lookN l f = some n → (f, n) ∈ l
  | p :: l, h => by
    unfold lookN at h
    split at h
    · rename_i e
      cases h
      have := Nat.eq_of_beq_eq_true e
      subst this
      exact List.mem_cons_self
    · exact List.mem_cons_of_mem _ (lookN_mem h)
theorem neuT_ok : (neuT.all fun p => neuF neuN cc p.1 p.2) = true := by kernel_rfl
theorem neuN_ok (f n : Nat) (h : neuN f = some n) : neuF neuN cc f n = true := List.all_eq_true.1 neuT_ok (f, n) (lookN_mem h)
def drN (pts : List Nat) (ops : Array Oper) : Bool := regOk neuN pts ops

noncomputable def n10 : Fn1 := fn1 cc.P 10 ((sgTab 10).getD ⟨[], []⟩) an10
noncomputable def n28 : Fn1 := fn1 cc.P 28 ((sgTab 28).getD ⟨[], []⟩) an28
noncomputable def n31 : Fn1 := fn1 cc.P 31 ((sgTab 31).getD ⟨[], []⟩) an31
noncomputable def n40 : Fn1 := fn1 cc.P 40 ((sgTab 40).getD ⟨[], []⟩) an40
noncomputable def n41 : Fn1 := fn1 cc.P 41 ((sgTab 41).getD ⟨[], []⟩) an41
noncomputable def n42 : Fn1 := fn1 cc.P 42 ((sgTab 42).getD ⟨[], []⟩) an42
noncomputable def n43 : Fn1 := fn1 cc.P 43 ((sgTab 43).getD ⟨[], []⟩) an43
noncomputable def n44 : Fn1 := fn1 cc.P 44 ((sgTab 44).getD ⟨[], []⟩) an44
noncomputable def n45 : Fn1 := fn1 cc.P 45 ((sgTab 45).getD ⟨[], []⟩) an45
noncomputable def n46 : Fn1 := fn1 cc.P 46 ((sgTab 46).getD ⟨[], []⟩) an46
noncomputable def n47 : Fn1 := fn1 cc.P 47 ((sgTab 47).getD ⟨[], []⟩) an47
noncomputable def n48 : Fn1 := fn1 cc.P 48 ((sgTab 48).getD ⟨[], []⟩) an48
noncomputable def n49 : Fn1 := fn1 cc.P 49 ((sgTab 49).getD ⟨[], []⟩) an49
noncomputable def n50 : Fn1 := fn1 cc.P 50 ((sgTab 50).getD ⟨[], []⟩) an50
noncomputable def n52 : Fn1 := fn1 cc.P 52 ((sgTab 52).getD ⟨[], []⟩) an52
noncomputable def n55 : Fn1 := fn1 cc.P 55 ((sgTab 55).getD ⟨[], []⟩) an55
noncomputable def n66 : Fn1 := fn1 cc.P 66 ((sgTab 66).getD ⟨[], []⟩) an66
noncomputable def n70 : Fn1 := fn1 cc.P 70 ((sgTab 70).getD ⟨[], []⟩) an70
noncomputable def n74 : Fn1 := fn1 cc.P 74 ((sgTab 74).getD ⟨[], []⟩) an74
noncomputable def n75 : Fn1 := fn1 cc.P 75 ((sgTab 75).getD ⟨[], []⟩) an75
noncomputable def n76 : Fn1 := fn1 cc.P 76 ((sgTab 76).getD ⟨[], []⟩) an76
noncomputable def n77 : Fn1 := fn1 cc.P 77 ((sgTab 77).getD ⟨[], []⟩) an77
noncomputable def n78 : Fn1 := fn1 cc.P 78 ((sgTab 78).getD ⟨[], []⟩) an78
noncomputable def n79 : Fn1 := fn1 cc.P 79 ((sgTab 79).getD ⟨[], []⟩) an79
noncomputable def n80 : Fn1 := fn1 cc.P 80 ((sgTab 80).getD ⟨[], []⟩) an80
noncomputable def n82 : Fn1 := fn1 cc.P 82 ((sgTab 82).getD ⟨[], []⟩) an82
noncomputable def n83 : Fn1 := fn1 cc.P 83 ((sgTab 83).getD ⟨[], []⟩) an83
noncomputable def n85 : Fn1 := fn1 cc.P 85 ((sgTab 85).getD ⟨[], []⟩) an85
noncomputable def n90 : Fn1 := fn1 cc.P 90 ((sgTab 90).getD ⟨[], []⟩) an90
noncomputable def n91 : Fn1 := fn1 cc.P 91 ((sgTab 91).getD ⟨[], []⟩) an91
noncomputable def n92 : Fn1 := fn1 cc.P 92 ((sgTab 92).getD ⟨[], []⟩) an92
noncomputable def n94 : Fn1 := fn1 cc.P 94 ((sgTab 94).getD ⟨[], []⟩) an94
noncomputable def n95 : Fn1 := fn1 cc.P 95 ((sgTab 95).getD ⟨[], []⟩) an95
noncomputable def n96 : Fn1 := fn1 cc.P 96 ((sgTab 96).getD ⟨[], []⟩) an96
noncomputable def n97 : Fn1 := fn1 cc.P 97 ((sgTab 97).getD ⟨[], []⟩) an97
noncomputable def n98 : Fn1 := fn1 cc.P 98 ((sgTab 98).getD ⟨[], []⟩) an98
noncomputable def n99 : Fn1 := fn1 cc.P 99 ((sgTab 99).getD ⟨[], []⟩) an99
noncomputable def n100 : Fn1 := fn1 cc.P 100 ((sgTab 100).getD ⟨[], []⟩) an100
noncomputable def n101 : Fn1 := fn1 cc.P 101 ((sgTab 101).getD ⟨[], []⟩) an101
noncomputable def n102 : Fn1 := fn1 cc.P 102 ((sgTab 102).getD ⟨[], []⟩) an102
noncomputable def n103 : Fn1 := fn1 cc.P 103 ((sgTab 103).getD ⟨[], []⟩) an103
noncomputable def n104 : Fn1 := fn1 cc.P 104 ((sgTab 104).getD ⟨[], []⟩) an104
noncomputable def n105 : Fn1 := fn1 cc.P 105 ((sgTab 105).getD ⟨[], []⟩) an105
noncomputable def n106 : Fn1 := fn1 cc.P 106 ((sgTab 106).getD ⟨[], []⟩) an106
theorem i10 : FnIs (xc 10) sgTab 10 n10 := ⟨⟨Tryd.f10, Tryd.func10, by kernel_rfl, by kernel_rfl, by kernel_rfl, by kernel_rfl⟩, rfl, by kernel_rfl⟩
theorem e10 : @f10 = fun R HT A ls h K => execF A (xc 10) sgTab drN n10 ls h K := by kernel_rfl
theorem i28 : FnIs (xc 28) sgTab 28 n28 := ⟨⟨Tryd.f28, Tryd.func28, by kernel_rfl, by kernel_rfl, by kernel_rfl, by kernel_rfl⟩, rfl, by kernel_rfl⟩
theorem e28 : @f28 = fun R HT A ls h K => execF A (xc 28) sgTab drN n28 ls h K := by kernel_rfl
theorem i31 : FnIs (xc 31) sgTab 31 n31 := ⟨⟨Tryd.f31, Tryd.func31, by kernel_rfl, by kernel_rfl, by kernel_rfl, by kernel_rfl⟩, rfl, by kernel_rfl⟩
theorem e31 : @f31 = fun R HT A ls h K => execF A (xc 31) sgTab drN n31 ls h K := by kernel_rfl
theorem i40 : FnIs (xc 40) sgTab 40 n40 := ⟨⟨Tryd.f40, Tryd.func40, by kernel_rfl, by kernel_rfl, by kernel_rfl, by kernel_rfl⟩, rfl, by kernel_rfl⟩
theorem e40 : @f40 = fun R HT A ls h K => execF A (xc 40) sgTab drN n40 ls h K := by kernel_rfl
theorem i41 : FnIs (xc 41) sgTab 41 n41 := ⟨⟨Tryd.f41, Tryd.func41, by kernel_rfl, by kernel_rfl, by kernel_rfl, by kernel_rfl⟩, rfl, by kernel_rfl⟩
theorem e41 : @f41 = fun R HT A ls h K => execF A (xc 41) sgTab drN n41 ls h K := by kernel_rfl
theorem i42 : FnIs (xc 42) sgTab 42 n42 := ⟨⟨Tryd.f42, Tryd.func42, by kernel_rfl, by kernel_rfl, by kernel_rfl, by kernel_rfl⟩, rfl, by kernel_rfl⟩
theorem e42 : @f42 = fun R HT A ls h K => execF A (xc 42) sgTab drN n42 ls h K := by kernel_rfl
theorem i43 : FnIs (xc 43) sgTab 43 n43 := ⟨⟨Tryd.f43, Tryd.func43, by kernel_rfl, by kernel_rfl, by kernel_rfl, by kernel_rfl⟩, rfl, by kernel_rfl⟩
theorem e43 : @f43 = fun R HT A ls h K => execF A (xc 43) sgTab drN n43 ls h K := by kernel_rfl
theorem i44 : FnIs (xc 44) sgTab 44 n44 := ⟨⟨Tryd.f44, Tryd.func44, by kernel_rfl, by kernel_rfl, by kernel_rfl, by kernel_rfl⟩, rfl, by kernel_rfl⟩
theorem e44 : @f44 = fun R HT A ls h K => execF A (xc 44) sgTab drN n44 ls h K := by kernel_rfl
theorem i45 : FnIs (xc 45) sgTab 45 n45 := ⟨⟨Tryd.f45, Tryd.func45, by kernel_rfl, by kernel_rfl, by kernel_rfl, by kernel_rfl⟩, rfl, by kernel_rfl⟩
theorem e45 : @f45 = fun R HT A ls h K => execF A (xc 45) sgTab drN n45 ls h K := by kernel_rfl
theorem i46 : FnIs (xc 46) sgTab 46 n46 := ⟨⟨Tryd.f46, Tryd.func46, by kernel_rfl, by kernel_rfl, by kernel_rfl, by kernel_rfl⟩, rfl, by kernel_rfl⟩
theorem e46 : @f46 = fun R HT A ls h K => execF A (xc 46) sgTab drN n46 ls h K := by kernel_rfl
theorem i47 : FnIs (xc 47) sgTab 47 n47 := ⟨⟨Tryd.f47, Tryd.func47, by kernel_rfl, by kernel_rfl, by kernel_rfl, by kernel_rfl⟩, rfl, by kernel_rfl⟩
theorem e47 : @f47 = fun R HT A ls h K => execF A (xc 47) sgTab drN n47 ls h K := by kernel_rfl
theorem i48 : FnIs (xc 48) sgTab 48 n48 := ⟨⟨Tryd.f48, Tryd.func48, by kernel_rfl, by kernel_rfl, by kernel_rfl, by kernel_rfl⟩, rfl, by kernel_rfl⟩
theorem e48 : @f48 = fun R HT A ls h K => execF A (xc 48) sgTab drN n48 ls h K := by kernel_rfl
theorem i49 : FnIs (xc 49) sgTab 49 n49 := ⟨⟨Tryd.f49, Tryd.func49, by kernel_rfl, by kernel_rfl, by kernel_rfl, by kernel_rfl⟩, rfl, by kernel_rfl⟩
theorem e49 : @f49 = fun R HT A ls h K => execF A (xc 49) sgTab drN n49 ls h K := by kernel_rfl
theorem i50 : FnIs (xc 50) sgTab 50 n50 := ⟨⟨Tryd.f50, Tryd.func50, by kernel_rfl, by kernel_rfl, by kernel_rfl, by kernel_rfl⟩, rfl, by kernel_rfl⟩
theorem e50 : @f50 = fun R HT A ls h K => execF A (xc 50) sgTab drN n50 ls h K := by kernel_rfl
theorem i52 : FnIs (xc 52) sgTab 52 n52 := ⟨⟨Tryd.f52, Tryd.func52, by kernel_rfl, by kernel_rfl, by kernel_rfl, by kernel_rfl⟩, rfl, by kernel_rfl⟩
theorem e52 : @f52 = fun R HT A ls h K => execF A (xc 52) sgTab drN n52 ls h K := by kernel_rfl
theorem i55 : FnIs (xc 55) sgTab 55 n55 := ⟨⟨Tryd.f55, Tryd.func55, by kernel_rfl, by kernel_rfl, by kernel_rfl, by kernel_rfl⟩, rfl, by kernel_rfl⟩
theorem e55 : @f55 = fun R HT A ls h K => execF A (xc 55) sgTab drN n55 ls h K := by kernel_rfl
theorem i66 : FnIs (xc 66) sgTab 66 n66 := ⟨⟨Tryd.f66, Tryd.func66, by kernel_rfl, by kernel_rfl, by kernel_rfl, by kernel_rfl⟩, rfl, by kernel_rfl⟩
theorem e66 : @f66 = fun R HT A ls h K => execF A (xc 66) sgTab drN n66 ls h K := by kernel_rfl
theorem i70 : FnIs (xc 70) sgTab 70 n70 := ⟨⟨Tryd.f70, Tryd.func70, by kernel_rfl, by kernel_rfl, by kernel_rfl, by kernel_rfl⟩, rfl, by kernel_rfl⟩
theorem e70 : @f70 = fun R HT A ls h K => execF A (xc 70) sgTab drN n70 ls h K := by kernel_rfl
theorem i74 : FnIs (xc 74) sgTab 74 n74 := ⟨⟨Tryd.f74, Tryd.func74, by kernel_rfl, by kernel_rfl, by kernel_rfl, by kernel_rfl⟩, rfl, by kernel_rfl⟩
theorem e74 : @f74 = fun R HT A ls h K => execF A (xc 74) sgTab drN n74 ls h K := by kernel_rfl
theorem i75 : FnIs (xc 75) sgTab 75 n75 := ⟨⟨Tryd.f75, Tryd.func75, by kernel_rfl, by kernel_rfl, by kernel_rfl, by kernel_rfl⟩, rfl, by kernel_rfl⟩
theorem e75 : @f75 = fun R HT A ls h K => execF A (xc 75) sgTab drN n75 ls h K := by kernel_rfl
theorem i76 : FnIs (xc 76) sgTab 76 n76 := ⟨⟨Tryd.f76, Tryd.func76, by kernel_rfl, by kernel_rfl, by kernel_rfl, by kernel_rfl⟩, rfl, by kernel_rfl⟩
theorem e76 : @f76 = fun R HT A ls h K => execF A (xc 76) sgTab drN n76 ls h K := by kernel_rfl
theorem i77 : FnIs (xc 77) sgTab 77 n77 := ⟨⟨Tryd.f77, Tryd.func77, by kernel_rfl, by kernel_rfl, by kernel_rfl, by kernel_rfl⟩, rfl, by kernel_rfl⟩
theorem e77 : @f77 = fun R HT A ls h K => execF A (xc 77) sgTab drN n77 ls h K := by kernel_rfl
theorem i78 : FnIs (xc 78) sgTab 78 n78 := ⟨⟨Tryd.f78, Tryd.func78, by kernel_rfl, by kernel_rfl, by kernel_rfl, by kernel_rfl⟩, rfl, by kernel_rfl⟩
theorem e78 : @f78 = fun R HT A ls h K => execF A (xc 78) sgTab drN n78 ls h K := by kernel_rfl
theorem i79 : FnIs (xc 79) sgTab 79 n79 := ⟨⟨Tryd.f79, Tryd.func79, by kernel_rfl, by kernel_rfl, by kernel_rfl, by kernel_rfl⟩, rfl, by kernel_rfl⟩
theorem e79 : @f79 = fun R HT A ls h K => execF A (xc 79) sgTab drN n79 ls h K := by kernel_rfl
theorem i80 : FnIs (xc 80) sgTab 80 n80 := ⟨⟨Tryd.f80, Tryd.func80, by kernel_rfl, by kernel_rfl, by kernel_rfl, by kernel_rfl⟩, rfl, by kernel_rfl⟩
theorem e80 : @f80 = fun R HT A ls h K => execF A (xc 80) sgTab drN n80 ls h K := by kernel_rfl
theorem i82 : FnIs (xc 82) sgTab 82 n82 := ⟨⟨Tryd.f82, Tryd.func82, by kernel_rfl, by kernel_rfl, by kernel_rfl, by kernel_rfl⟩, rfl, by kernel_rfl⟩
theorem e82 : @f82 = fun R HT A ls h K => execF A (xc 82) sgTab drN n82 ls h K := by kernel_rfl
theorem i83 : FnIs (xc 83) sgTab 83 n83 := ⟨⟨Tryd.f83, Tryd.func83, by kernel_rfl, by kernel_rfl, by kernel_rfl, by kernel_rfl⟩, rfl, by kernel_rfl⟩
theorem e83 : @f83 = fun R HT A ls h K => execF A (xc 83) sgTab drN n83 ls h K := by kernel_rfl
theorem i85 : FnIs (xc 85) sgTab 85 n85 := ⟨⟨Tryd.f85, Tryd.func85, by kernel_rfl, by kernel_rfl, by kernel_rfl, by kernel_rfl⟩, rfl, by kernel_rfl⟩
theorem e85 : @f85 = fun R HT A ls h K => execF A (xc 85) sgTab drN n85 ls h K := by kernel_rfl
theorem i90 : FnIs (xc 90) sgTab 90 n90 := ⟨⟨Tryd.f90, Tryd.func90, by kernel_rfl, by kernel_rfl, by kernel_rfl, by kernel_rfl⟩, rfl, by kernel_rfl⟩
theorem e90 : @f90 = fun R HT A ls h K => execF A (xc 90) sgTab drN n90 ls h K := by kernel_rfl
theorem i91 : FnIs (xc 91) sgTab 91 n91 := ⟨⟨Tryd.f91, Tryd.func91, by kernel_rfl, by kernel_rfl, by kernel_rfl, by kernel_rfl⟩, rfl, by kernel_rfl⟩
theorem e91 : @f91 = fun R HT A ls h K => execF A (xc 91) sgTab drN n91 ls h K := by kernel_rfl
theorem i92 : FnIs (xc 92) sgTab 92 n92 := ⟨⟨Tryd.f92, Tryd.func92, by kernel_rfl, by kernel_rfl, by kernel_rfl, by kernel_rfl⟩, rfl, by kernel_rfl⟩
theorem e92 : @f92 = fun R HT A ls h K => execF A (xc 92) sgTab drN n92 ls h K := by kernel_rfl
theorem i94 : FnIs (xc 94) sgTab 94 n94 := ⟨⟨Tryd.f94, Tryd.func94, by kernel_rfl, by kernel_rfl, by kernel_rfl, by kernel_rfl⟩, rfl, by kernel_rfl⟩
theorem e94 : @f94 = fun R HT A ls h K => execF A (xc 94) sgTab drN n94 ls h K := by kernel_rfl
theorem i95 : FnIs (xc 95) sgTab 95 n95 := ⟨⟨Tryd.f95, Tryd.func95, by kernel_rfl, by kernel_rfl, by kernel_rfl, by kernel_rfl⟩, rfl, by kernel_rfl⟩
theorem e95 : @f95 = fun R HT A ls h K => execF A (xc 95) sgTab drN n95 ls h K := by kernel_rfl
theorem i96 : FnIs (xc 96) sgTab 96 n96 := ⟨⟨Tryd.f96, Tryd.func96, by kernel_rfl, by kernel_rfl, by kernel_rfl, by kernel_rfl⟩, rfl, by kernel_rfl⟩
theorem e96 : @f96 = fun R HT A ls h K => execF A (xc 96) sgTab drN n96 ls h K := by kernel_rfl
theorem i97 : FnIs (xc 97) sgTab 97 n97 := ⟨⟨Tryd.f97, Tryd.func97, by kernel_rfl, by kernel_rfl, by kernel_rfl, by kernel_rfl⟩, rfl, by kernel_rfl⟩
theorem e97 : @f97 = fun R HT A ls h K => execF A (xc 97) sgTab drN n97 ls h K := by kernel_rfl
theorem i98 : FnIs (xc 98) sgTab 98 n98 := ⟨⟨Tryd.f98, Tryd.func98, by kernel_rfl, by kernel_rfl, by kernel_rfl, by kernel_rfl⟩, rfl, by kernel_rfl⟩
theorem e98 : @f98 = fun R HT A ls h K => execF A (xc 98) sgTab drN n98 ls h K := by kernel_rfl
theorem i99 : FnIs (xc 99) sgTab 99 n99 := ⟨⟨Tryd.f99, Tryd.func99, by kernel_rfl, by kernel_rfl, by kernel_rfl, by kernel_rfl⟩, rfl, by kernel_rfl⟩
theorem e99 : @f99 = fun R HT A ls h K => execF A (xc 99) sgTab drN n99 ls h K := by kernel_rfl
theorem i100 : FnIs (xc 100) sgTab 100 n100 := ⟨⟨Tryd.f100, Tryd.func100, by kernel_rfl, by kernel_rfl, by kernel_rfl, by kernel_rfl⟩, rfl, by kernel_rfl⟩
theorem e100 : @f100 = fun R HT A ls h K => execF A (xc 100) sgTab drN n100 ls h K := by kernel_rfl
theorem i101 : FnIs (xc 101) sgTab 101 n101 := ⟨⟨Tryd.f101, Tryd.func101, by kernel_rfl, by kernel_rfl, by kernel_rfl, by kernel_rfl⟩, rfl, by kernel_rfl⟩
theorem e101 : @f101 = fun R HT A ls h K => execF A (xc 101) sgTab drN n101 ls h K := by kernel_rfl
theorem i102 : FnIs (xc 102) sgTab 102 n102 := ⟨⟨Tryd.f102, Tryd.func102, by kernel_rfl, by kernel_rfl, by kernel_rfl, by kernel_rfl⟩, rfl, by kernel_rfl⟩
theorem e102 : @f102 = fun R HT A ls h K => execF A (xc 102) sgTab drN n102 ls h K := by kernel_rfl
theorem i103 : FnIs (xc 103) sgTab 103 n103 := ⟨⟨Tryd.f103, Tryd.func103, by kernel_rfl, by kernel_rfl, by kernel_rfl, by kernel_rfl⟩, rfl, by kernel_rfl⟩
theorem e103 : @f103 = fun R HT A ls h K => execF A (xc 103) sgTab drN n103 ls h K := by kernel_rfl
theorem i104 : FnIs (xc 104) sgTab 104 n104 := ⟨⟨Tryd.f104, Tryd.func104, by kernel_rfl, by kernel_rfl, by kernel_rfl, by kernel_rfl⟩, rfl, by kernel_rfl⟩
theorem e104 : @f104 = fun R HT A ls h K => execF A (xc 104) sgTab drN n104 ls h K := by kernel_rfl
theorem i105 : FnIs (xc 105) sgTab 105 n105 := ⟨⟨Tryd.f105, Tryd.func105, by kernel_rfl, by kernel_rfl, by kernel_rfl, by kernel_rfl⟩, rfl, by kernel_rfl⟩
theorem e105 : @f105 = fun R HT A ls h K => execF A (xc 105) sgTab drN n105 ls h K := by kernel_rfl
theorem i106 : FnIs (xc 106) sgTab 106 n106 := ⟨⟨Tryd.f106, Tryd.func106, by kernel_rfl, by kernel_rfl, by kernel_rfl, by kernel_rfl⟩, rfl, by kernel_rfl⟩
theorem e106 : @f106 = fun R HT A ls h K => execF A (xc 106) sgTab drN n106 ls h K := by kernel_rfl

end Go.Am

/-
  WHAT THE PACKAGE-LEVEL VARIABLES HOLD, read off the row's list; a call as the row sees it.
-/
namespace Go.Am
namespace Sx

/-- The cells of a datum of numbers, truth values, structs and arrays. -/
def unL (P : Program) (un : TypeId → DataW Unit → Option (List Value)) : List (Nat × TypeId) → List (DataW Unit) → Nat → Option (List Value)
  | [], [], _ => some []
  | (o, t) :: l, d :: ds, off => match Nat.beq o off, un t d with
    | true, some v => match Nat.beq v.length (P.cellsOf t), unL P un l ds (off + v.length) with
      | true, some vs => some (v ++ vs)
      | _, _ => none
    | _, _ => none
  | _, _, _ => none
def unD (P : Program) : Nat → TypeId → DataW Unit → Option (List Value)
  | 0, _, _ => none
  | fu + 1, t, d => match P.underlying t, d with
    | some .bool, .lit (.bool b) => some [.bool b]
    | some (.int k), .lit (.int _ n) => some [.int k n]
    | some (.struct fs), .agg ds => match unL P (unD P fu) (fs.toList.map fun f => (f.offset, f.type)) ds 0 with
      | some vs => if vs.length = P.cellsOf t then some vs else none
      | none => none
    | some (.array n e), .agg ds => match unL P (unD P fu) ((List.range n).map fun i => (i * P.cellsOf e, e)) ds 0 with
      | some vs => if vs.length = P.cellsOf t then some vs else none
      | none => none
    | _, _ => none

section
variable {P : Program} {w : World} {base : Nat} {spare : Nat → Bool} {held : Bool} {enc : TypeId × Value → Unit}

theorem seg_ok {un : TypeId → DataW Unit → Option (List Value)} {fuel : Nat} (hun : ∀ t d vs, un t d = some vs → ∀ cs p, DataW.trod enc P w base spare held fuel t cs = some (d, p) → cs = vs) {α : Type} (o : α → Nat) (ty : α → TypeId) (cs : List Value) :
    ∀ (l : List α) (xs : List (DataW Unit × List MemPlace)) (off : Nat) (vs : List Value), l.mapM (fun a => DataW.trod enc P w base spare held fuel (ty a) ((cs.drop (o a)).take (P.cellsOf (ty a)))) = some xs →
      unL P un (l.map fun a => (o a, ty a)) (xs.map (·.1)) off = some vs → (cs.drop off).take vs.length = vs
  | [], xs, off, vs, h1, h2 => by
    simp only [List.mapM_nil, Option.pure_def, Option.some.injEq] at h1
    subst h1
    simp only [List.map_nil, unL, Option.some.injEq] at h2
    subst h2
    simp
  | a :: l, xs, off, vs, h1, h2 => by
    rw [List.mapM_cons] at h1
    obtain ⟨x, h3, h1⟩ := Option.bind_eq_some_iff.1 h1
    obtain ⟨ys, h4, h1⟩ := Option.bind_eq_some_iff.1 h1
    cases h1
    simp only [List.map_cons, unL] at h2
    split at h2
    · rename_i v e1 e2
      split at h2
      · rename_i ws e3 e4
        cases h2
        have e1 := Nat.eq_of_beq_eq_true e1
        have e3 := Nat.eq_of_beq_eq_true e3
        have hv := hun _ _ _ e2 _ _ h3
        have ih := seg_ok hun o ty cs l ys _ _ h4 e4
        rw [e1, ← e3] at hv
        rw [List.length_append, List.take_add, hv, List.drop_drop]
        rw [ih]
      · cases h2
    · cases h2

theorem unD_ok : ∀ (fu : Nat) (t : TypeId) (d : DataW Unit) (vs : List Value), unD P fu t d = some vs → ∀ (fuel : Nat) (cs : List Value) (p : List MemPlace), DataW.trod enc P w base spare held fuel t cs = some (d, p) → cs = vs
  | 0, _, _, _, h => by cases h
  | fu + 1, t, d, vs, h => by
    intro fuel cs p hp
    cases fuel with
    | zero => simp [DataW.trod] at hp
    | succ fuel =>
      have hun : ∀ t d vs, unD P fu t d = some vs → ∀ cs p, DataW.trod enc P w base spare held fuel t cs = some (d, p) → cs = vs := fun t d vs h cs p => unD_ok fu t d vs h fuel cs p
      simp only [unD] at h
      split at h
      · rename_i b e
        cases h
        simp only [DataW.trod, e] at hp
        split at hp <;> simp_all
      · rename_i k k' n e
        cases h
        simp only [DataW.trod, e] at hp
        split at hp <;> first | cases hp | skip
        all_goals first
          | (split at hp
             · rename_i hh; simp at hp; obtain ⟨⟨rfl, rfl⟩, _⟩ := hp; rw [hh.1]
             · cases hp)
          | simp_all
      · rename_i fs ds e
        split at h
        · rename_i ws e2
          split at h
          · rename_i e3
            cases h
            simp only [DataW.trod, e] at hp
            split at hp
            · rename_i e4
              obtain ⟨xs, h5, h6⟩ := Option.map_eq_some_iff.1 hp
              simp only [Prod.mk.injEq, DataW.agg.injEq] at h6
              rw [← h6.1] at e2
              have := seg_ok hun (fun f : Field => f.offset) (fun f : Field => f.type) cs _ xs 0 _ h5 e2
              rw [List.drop_zero, List.take_of_length_le (by omega)] at this
              exact this
            · cases hp
          · cases h
        · cases h
      · rename_i n el ds e
        split at h
        · rename_i ws e2
          split at h
          · rename_i e3
            cases h
            simp only [DataW.trod, e] at hp
            split at hp
            · rename_i e4
              obtain ⟨xs, h5, h6⟩ := Option.map_eq_some_iff.1 hp
              simp only [Prod.mk.injEq, DataW.agg.injEq] at h6
              rw [← h6.1] at e2
              have := seg_ok hun (fun i => i * P.cellsOf el) (fun _ => el) cs _ xs 0 _ h5 e2
              rw [List.drop_zero, List.take_of_length_le (by omega)] at this
              exact this
            · cases hp
          · cases h
        · cases h
      · cases h

end

section
variable [Val]

/-- A call, as the row sees it. -/
theorem calls_of_ok {C : Cfg} {f : FuncId} {args : List Value} {r : Value} {H' : List HObj} (h : CallOk C f args [] r H') {args' : Array Value} {W : World} (ha : args.all flat = true) (hargs : args'.toList = args) (hr : flat r = true)
    (hG : ∀ g vs, C.G g = some vs → g < W.heap.size ∧ vs.all cellOk = true ∧ vs.all flat = true ∧ ∃ c e fr, W.heap[g]? = some (.cells c e fr) ∧ c.toList = vs) :
    Calls C.P f args' W fun e W' => e = .returned r ∧ W'.os = W.os ∧ W'.output = W.output ∧ W'.tape = W.tape ∧ ∀ b, b < W.heap.size → W'.heap[b]? = W.heap[b]? := by
  have hW0 : WR C W.heap.size (fun _ => none) [] W := by
    refine ⟨fun id o h => by simp at h, fun i j oi oj pi pj h => by simp at h, fun i o p h => by simp at h, fun i o p h => by simp at h, fun _ _ => rfl, fun g vs hg => ?_⟩
    obtain ⟨h1, h2, h3, c, e, fr, h4, h5⟩ := hG g vs hg
    refine ⟨h1, h2, c, e, fr, h4, ?_⟩
    rw [h5]
    exact ⟨rfl, fun i x y hx hy => by rw [hx] at hy; cases hy; exact .of_flat (List.all_eq_true.1 h3 x (List.mem_of_getElem? hx))⟩
  have hV : VRs noL (fun _ => none) args args'.toList := by
    rw [hargs]
    exact ⟨rfl, fun i x y hx hy => by rw [hx] at hy; cases hy; exact .of_flat (List.all_eq_true.1 ha x (List.mem_of_getElem? hx))⟩
  obtain ⟨v, mu', w', a1, a2, a3, _, a5⟩ := h W.heap.size (fun _ => none) W args' (Nat.le_refl _) hV hW0
  rw [flat_eq hr a1] at a5
  intro cs
  obtain ⟨fr, b1, b2, b3⟩ := a5 cs
  exact ⟨.returned r, w', fr, ⟨rfl, a3.os, a3.output, a3.tape, fun b hb => a3.keep b hb no_own⟩, b1, b2, b3⟩

end
end Sx
end Go.Am

/-
  FROM A CALL TO THE ROW: arguments without addresses.
-/
namespace Go.Am
namespace Sx
open Go.ChangeShapes Go.WideShapes Go.ChangeAt Go.WideMaps Go.WideElems Go.RowKit

theorem kept_of {W W' : World} (h1 : W'.os = W.os) (h2 : W'.output = W.output) (h3 : ∀ b, b < W.heap.size → W'.heap[b]? = W.heap[b]?) (may : MemPlace → Prop) : W.keptBut W' may := by
  refine ⟨h1, h2, fun i hi => ?_⟩
  rw [h3 i hi]
  exact (World.keptBut_refl W may).2.2 i hi

theorem post_flat {H : Type} {enc : TypeId × Value → H} {P : Program} {f : Func} {s : ChangeSpec} {apart fresh handsOn again : Bool} {W W' : World} {args : Array Value} {v : Value} {ds gs : List (DataW H)}
    (hW : DataW.Whole enc P f.params.toList s.vars apart W args.toList ds gs [])
    (hres : ∀ (b : Nat) (sp : Nat → Bool) (hd : Bool), DataW.TrodAll enc P W' b sp hd f.resultTypes.toList (v.resultList f.resultTypes.size) (s.fn H (ds ++ gs)).results [])
    (hargs : ∀ sp : Nat → Bool, DataW.TrodAll enc P W' 0 sp true f.params.toList args.toList (s.fn H (ds ++ gs)).args [])
    (hvars : ∀ sp : Nat → Bool, DataW.TrodVars enc P W' sp s.vars (s.fn H (ds ++ gs)).vars [])
    (h1 : W'.os = W.os) (h2 : W'.output = W.output) (h3 : ∀ b, b < W.heap.size → W'.heap[b]? = W.heap[b]?)
    (hok : ∀ (j : Nat) (t : TypeId) (r : Value), f.resultTypes[j]? = some t → (v.resultList f.resultTypes.size)[j]? = some r → Value.okWide P W' .any 0 t r) :
    s.post enc P f apart fresh handsOn again W args v W' := by
  refine ⟨ds, gs, [], [], [], [], hW, hres _ _ _, hargs _, hvars _, kept_of h1 h2 h3 _, fun _ => ?_⟩
  refine ⟨hok, _, _, [], ⟨[], [], trodAll_append (hargs _) (hres _ _ _), hvars _, rfl, ?_, ?_⟩, ?_⟩
  · intro b off hp; cases hp
  · intro _; exact List.nodup_nil
  · intro p hp; cases hp

/-- A variable that is listed. -/
theorem laid_cells {P : Program} {w : World} {laid : List (String × DataW Unit)} {ps : List MemPlace} (h : DataW.LaidVars P w laid ps) : ∀ n d, (n, d) ∈ laid → ∀ g t fu vs, P.globalNamed n = some g → (P.globals[g]?).map (·.type) = some t → unD P fu t d = some vs →
    ∃ c e fr, w.heap[g]? = some (.cells c e fr) ∧ c.toList = vs := by
  induction laid generalizing ps with
  | nil => intro n d h; cases h
  | cons x l ih =>
    obtain ⟨n0, d0⟩ := x
    obtain ⟨g0, t0, cs, fuel, p, q, a1, a2, a3, a4, a5, a6⟩ := h
    intro n d hm g t fu vs b1 b2 b3
    rcases List.mem_cons.1 hm with e | hm
    · cases e
      rw [a1] at b1; cases b1
      rw [a2] at b2; cases b2
      have hc := unD_ok fu _ _ vs b3 _ _ _ a4
      unfold World.var? at a3
      rw [a1] at a3
      simp only [Option.bind_some] at a3
      split at a3
      · rename_i c ty fr e
        cases a3
        exact ⟨_, _, _, e, hc⟩
      · cases a3
    · exact ih a5 n d hm g t fu vs b1 b2 b3

section
variable [Val] [Kno]
/-- A closed function that says true. -/
theorem closed_true {C : Cfg} {Sg : FuncId → Option Sig} {T : Nat → Site} {call : CallB} (hc : CallBOk C Sg T call) {g : FuncId} (hs : Sg g = some ⟨[], [.leaf .b]⟩) (h : call (.f g) [] [] (fun l _ => match l with | [.b t] => t | _ => false) = true) :
    ∃ H', uCall C g [] [] (.bool true) H' := by
  obtain ⟨rs, h', ⟨sg, xs, ys, c1, c2, c3, c4⟩, hk⟩ := hc.f g [] [] _ (fun _ h => by cases h) h
  rw [hs] at c1
  cases c1
  have hx : xs = [] := by
    have := c2.1
    cases xs with
    | nil => rfl
    | cons x l => cases this
  subst hx
  obtain ⟨d1, d2, _⟩ := c3
  obtain ⟨y, rfl⟩ : ∃ y, ys = [y] := List.length_eq_one_iff.1 (areIs_length d1)
  · simp only [areIs, Bool.and_true] at d1
    cases y with
    | agg _ => cases d1
    | leaf l =>
      cases l with
      | b t =>
        simp only [lfsOf, S0.cells, List.map_cons, SL.lf, List.map_nil, List.append_nil] at d2
        subst d2
        have hk : t = true := hk
        subst hk
        exact ⟨_, c4⟩
      | l t =>
        simp only [lfsOf, S0.cells, List.map_cons, SL.lf, List.map_nil, List.append_nil] at d2
        subst d2
        have hk : t = true := hk
        subst hk
        exact ⟨_, c4⟩
      | i _ _ => cases d1
      | v _ => cases d1
end
end Sx
end Go.Am

/-
  THE ALGEBRA OF PROPOSITIONS: what must hold, that code does as it is told to do.
-/
namespace Go.Am
def LK.plain : LK → Bool
  | .v => false
  | _ => true
def SK.plain : SK → Bool
  | .leaf k => k.plain
  | .agg ks => ks.all LK.plain
def Sig.plain (s : Sig) : Bool := s.ps.all SK.plain && s.rs.all SK.plain
namespace Sx

section
variable [Val] [Kno]

abbrev HO' := List HObj
def condP (b : Bool) (x y : Prop) : Prop := (b = true → x) ∧ (b = false → y)
def ariP (op : BinOp) (k : IntKind) (a b : Int) (K : Int → Prop) : Prop :=
  match op with
  | .add => K (k.wrap (a + b))
  | .sub => K (k.wrap (a - b))
  | .mul => K (k.wrap (a * b))
  | .quo => b ≠ 0 ∧ K (k.wrap (a.tdiv b))
  | .rem => b ≠ 0 ∧ K (a.tmod b)
  | .and => (b = 1 ∧ K (a % 2)) ∨ (b ≠ 1 ∧ ∃ n, ArRun .and k a b n ∧ K n)
  | op => ∃ n, ArRun op k a b n ∧ K n
def cmpP (op : BinOp) (a b : Int) (K : Bool → Prop) : Prop :=
  match op with
  | .eql => K (a == b)
  | .neq => K (a != b)
  | .lss => K (decide (a < b))
  | .leq => K (decide (a ≤ b))
  | .gtr => K (decide (a > b))
  | .geq => K (decide (a ≥ b))
  | _ => False
def optP {α : Type} (o : Option α) (K : α → Prop) : Prop := ∃ x, o = some x ∧ K x
def unIP (ls : List Lf) (K : Int → List Lf → Prop) : Prop := match ls with | .i n :: r => K n r | _ => False
def unBP (ls : List Lf) (K : Bool → List Lf → Prop) : Prop := match ls with | .b n :: r => K n r | _ => False
def unVP (ls : List Lf) (K : Value → List Lf → Prop) : Prop := match ls with | .v n :: r => K n r | _ => False
def un0P (ls : List Lf) (K : Prop) : Prop := match ls with | [] => K | _ => False
def ucIP (k : IntKind) (ls : List Value) (K : Int → List Value → Prop) : Prop := match ls with | .int k' n :: r => k = k' ∧ K n r | _ => False
def ucBP (ls : List Value) (K : Bool → List Value → Prop) : Prop := match ls with | .bool n :: r => K n r | _ => False
def ucVP (ls : List Value) (K : Value → List Value → Prop) : Prop := match ls with | n :: r => K n r | _ => False
def uc0P (ls : List Value) (K : Prop) : Prop := match ls with | [] => K | _ => False
def getL (h : List HObj) : Getter := fun i => h[i]?
def peekP (f : Getter → Option (List Value)) (h : List HObj) (K : List Value → Prop) : Prop := ∃ cs, f (getL h) = some cs ∧ K cs
def heapP (f : Getter → Nat → Option (List Act1 × List Value)) (h : List HObj) (K : List Value → List HObj → Prop) : Prop := ∃ acts cs, f (getL h) h.length = some (acts, cs) ∧ K cs (actsOn h acts)
def callP (C : Cfg) (Sg : FuncId → Option Sig) (g : FuncId) (ls : List Lf) (h : List HObj) (K : List Lf → List HObj → Prop) : Prop := ∃ rs h', CallL C Sg g ls h rs h' ∧ K rs h'
def callvP (C : Cfg) (v : Value) (args : List Value) (hs : List SK) (h : List HObj) (K : List Lf → List HObj → Prop) : Prop := ∃ rs h', CallV C v args hs h rs h' ∧ K rs h'
def itP (F : (List Lf → List HObj → Prop) → List Lf → List HObj → Prop) (n : Nat) : List Lf → List HObj → Prop :=
  match n with
  | 0 => fun _ _ => False
  | n + 1 => F (itP F n)
def loopP (F : (List Lf → List HObj → Prop) → List Lf → List HObj → Prop) (ls : List Lf) (h : List HObj) : Prop := ∃ n, itP F n ls h
def rfunP (C : Cfg) (T : Nat → Site) (κ : Nat) (v : Value) (vals : List Value) (h : List HObj) (K : Option Code → List HObj → Prop) : Prop :=
  ∃ g first cap r H1 lp, v = .func (.func g) first cap ∧
    uCall C g (first.toList ++ [.func (.yield h.length) #[] #[]] ++ cap.toList) (h ++ [.loop (lpOf (T κ) κ vals)]) r H1 ∧
    hloop H1 h.length = some lp ∧ lp.state ≠ .busy ∧ K lp.pending (H1.set h.length (.loop { lp with state := .exhausted }))
def pendP (pd : Option Code) (kn kr : Prop) (ks : List (Nat × Prop)) : Prop :=
  match pd with
  | none => kn
  | some .ret => kr
  | some (.exit id) => ∃ x, (id, x) ∈ ks ∧ x
  | _ => False
def lp1P (l : Nat) (h : List HObj) (K : List HObj → Prop) : Prop := ∃ lp, hloop h l = some lp ∧ lp.state = .ready ∧ K (h.set l (.loop { lp with state := .busy }))
def lp2P (l : Nat) (j : Option Code) (h : List HObj) (K : List HObj → Prop) : Prop := ∃ lp, hloop h l = some lp ∧ K (h.set l (.loop { lp with state := if j.isNone then .ready else .done, pending := j }))

def PA (C : Cfg) (Sg : FuncId → Option Sig) (T : Nat → Site) : Alg Prop (List HObj) where
  fail := False
  cond := condP
  ari := ariP
  shf := fun op k a k' b K => ∃ n, ShRun op k a k' b n ∧ K n
  cmp := cmpP
  eqs := fun l K => K (eqAll l)
  conv := fun k a K => K (k.wrap a)
  sel := fun t a b K => K (if t then a else b)
  opt := optP
  chk := fun v K => goodV v = true ∧ K
  unI := unIP
  unB := unBP
  unV := unVP
  un0 := un0P
  ucI := ucIP
  ucB := ucBP
  ucV := ucVP
  uc0 := uc0P
  peek := peekP
  heap := heapP
  new := fun o h K => K h.length (h ++ [o])
  call := callP C Sg
  callv := callvP C
  join := fun b m => m b
  loop := loopP
  rfun := rfunP C T
  pend := pendP
  lp1 := lp1P
  lp2 := lp2P

theorem PA_ok (C : Cfg) (Sg : FuncId → Option Sig) (T : Nat → Site) : AlgOk (PA C Sg T) C Sg T id id where
  fail := fun h => h
  cond := by
    intro b x y h
    cases b
    · exact .inr ⟨rfl, h.2 rfl⟩
    · exact .inl ⟨rfl, h.1 rfl⟩
  ari := by
    intro op k a b K h
    have h : ariP op k a b K := h
    cases op <;> simp only [ariP] at h
    · exact ⟨_, fun P t w => by simp [binOp, Op.intArith], h⟩
    · exact ⟨_, fun P t w => by simp [binOp, Op.intArith], h⟩
    · exact ⟨_, fun P t w => by simp [binOp, Op.intArith], h⟩
    · obtain ⟨hb, h⟩ := h
      exact ⟨_, fun P t w => by simp [binOp, Op.intDiv, hb], h⟩
    · obtain ⟨hb, h⟩ := h
      exact ⟨_, fun P t w => by simp [binOp, Op.intDiv, hb], h⟩
    · rcases h with ⟨rfl, h'⟩ | ⟨_, n, h1, h2⟩
      · exact ⟨_, run_and_one rfl, h'⟩
      · exact ⟨n, h1, h2⟩
    all_goals exact h
  shf := fun op k a k' b K h => h
  cmp := by
    intro op a b K h
    have h : cmpP op a b K := h
    cases op <;> simp only [cmpP] at h <;> exact ⟨_, rfl, h⟩
  eqs := fun l K h => h
  conv := fun k a K h => h
  sel := fun t a b K h => h
  opt := fun o K h => h
  chk := fun v K h => h
  unI := by
    intro ls K h
    match ls, h with
    | .i n :: r, h => exact ⟨n, r, rfl, h⟩
  unB := by
    intro ls K h
    match ls, h with
    | .b n :: r, h => exact ⟨n, r, rfl, h⟩
  unV := by
    intro ls K h
    match ls, h with
    | .v n :: r, h => exact ⟨n, r, rfl, h⟩
  un0 := by
    intro ls K h
    match ls, h with
    | [], h => exact ⟨rfl, h⟩
  ucI := by
    intro k ls K h
    match ls, h with
    | .int k' n :: r, h =>
      obtain ⟨rfl, h⟩ : k = k' ∧ K n r := h
      exact ⟨n, r, rfl, h⟩
  ucB := by
    intro ls K h
    match ls, h with
    | .bool n :: r, h => exact ⟨n, r, rfl, h⟩
  ucV := by
    intro ls K h
    match ls, h with
    | n :: r, h => exact ⟨n, r, rfl, h⟩
  uc0 := by
    intro ls K h
    match ls, h with
    | [], h => exact ⟨rfl, h⟩
  peek := fun f h K hk => hk
  heap := by
    intro f h K hk
    obtain ⟨acts, cs, h1, h2⟩ := hk
    exact ⟨acts, cs, _, h1, rfl, h2⟩
  new := fun o h K hk => ⟨_, rfl, hk⟩
  call := fun g ls h K hk => hk
  callv := fun v args hs h K hk => hk
  join := fun b m h => h
  loop := by
    intro F ls h hk
    obtain ⟨n, hk⟩ := hk
    exact ⟨itP F, fun ls h => (id : False → False), fun n ls h => rfl, n, hk⟩
  rfun := by
    intro κ v vals h K hk
    obtain ⟨g, first, cap, r, H1, lp, h1, h2, h3, h4, h5⟩ := hk
    exact ⟨g, first, cap, r, H1, lp, _, h1, h2, h3, h4, rfl, h5⟩
  pend := by
    intro pd kn kr ks h
    have h : pendP pd kn kr ks := h
    unfold pendP at h
    split at h
    · exact .inl ⟨rfl, h⟩
    · exact .inr (.inl ⟨rfl, h⟩)
    · obtain ⟨x, h1, h2⟩ := h
      exact .inr (.inr ⟨_, x, rfl, h1, h2⟩)
    · exact h.elim
  lp1 := by
    intro l h K hk
    obtain ⟨lp, h1, h2, h3⟩ := hk
    exact ⟨lp, _, h1, h2, rfl, h3⟩
  lp2 := by
    intro l j h K hk
    obtain ⟨lp, h1, h2⟩ := hk
    exact ⟨lp, _, h1, rfl, h2⟩

/-! ### Calls that leave nothing behind -/


theorem SL.plain_scalar {l : SL} {k : LK} (h : l.is k = true) (hk : k.plain = true) : scalar l.val = true := by
  cases l <;> cases k <;> first | (cases hk; done) | (cases h; done) | rfl
theorem allIs_scalar : ∀ {cs : List SL} {ks : List LK}, allIs cs ks = true → ks.all LK.plain = true → (cs.map SL.val).all scalar = true
  | [], [], _, _ => rfl
  | c :: cs, k :: ks, h, hk => by
    simp only [allIs, Bool.and_eq_true] at h
    simp only [List.all_cons, Bool.and_eq_true] at hk
    simp only [List.map_cons, List.all_cons, Bool.and_eq_true]
    exact ⟨SL.plain_scalar h.1 hk.1, allIs_scalar h.2 hk.2⟩
  | [], _ :: _, h, _ => by cases h
  | _ :: _, [], h, _ => by cases h
theorem S0.plain_flat1 {x : S0} {k : SK} (h : x.is k = true) (hk : k.plain = true) : flat1 x.val = true := by
  cases x with
  | leaf l =>
    cases k with
    | leaf k =>
      have := SL.plain_scalar h hk
      show flat1 l.val = true
      cases hv : l.val <;> rw [hv] at this <;> first | exact this | cases this
    | agg _ => cases h
  | agg cs =>
    cases k with
    | leaf k => cases h
    | agg ks => exact allIs_scalar h hk
theorem flat_of_flat1 {v : Value} (h : flat1 v = true) : flat v = true := by
  cases v <;> first | exact h | cases h
theorem areIs_flat1 : ∀ {xs : List S0} {sks : List SK}, areIs xs sks = true → sks.all SK.plain = true → (valsOf xs).all flat1 = true
  | [], [], _, _ => rfl
  | x :: xs, k :: ks, h, hk => by
    simp only [areIs, Bool.and_eq_true] at h
    simp only [List.all_cons, Bool.and_eq_true] at hk
    simp only [valsOf, List.map_cons, List.all_cons, Bool.and_eq_true]
    exact ⟨S0.plain_flat1 h.1 hk.1, areIs_flat1 h.2 hk.2⟩
  | [], _ :: _, h, _ => by cases h
  | _ :: _, [], h, _ => by cases h
theorem areIs_flat {xs : List S0} {sks : List SK} (h : areIs xs sks = true) (hk : sks.all SK.plain = true) : (valsOf xs).all flat = true := by
  have := areIs_flat1 h hk
  rw [List.all_eq_true] at this ⊢
  exact fun v hv => flat_of_flat1 (this v hv)
theorem packA_flat {vs : List Value} (h : vs.all flat1 = true) : flat (packA vs) = true := by
  match vs, h with
  | [], _ => rfl
  | [v], h =>
    simp only [List.all_cons, List.all_nil, Bool.and_true] at h
    exact flat_of_flat1 h
  | a :: b :: l, h =>
    show flat (.tuple (a :: b :: l).toArray) = true
    simp only [flat, Bool.and_eq_true]
    exact ⟨by simp, h⟩

end

/-- What is known: whatever has been shown of calls that leave nothing behind. -/
@[reducible] def KnoC (C : Cfg) [Val] : Kno := ⟨fun f args r => ∀ H, CallOk C f args H r H⟩

section
variable [Val]
/-- THE CONTRACT: the function answers so, and leaves nothing behind. -/
def Ct (C : Cfg) (Sg : FuncId → Option Sig) (g : FuncId) (ls rs : List Lf) : Prop := let _ : Kno := KnoC C; ∀ H, CallL C Sg g ls H rs H

theorem uCallC_ok {C : Cfg} (hm : C.P.follows .mixedOrders = true) {f : FuncId} {args : List Value} {H : List HObj} {r : Value} {H' : List HObj} (h : let _ : Kno := KnoC C; uCall C f args H r H') : CallOk C f args H r H' :=
  @uCall_ok _ _ (KnoC C) hm (fun _ _ _ h => h) _ _ _ _ _ h

theorem ct_of {C : Cfg} {Sg : FuncId → Option Sig} (hm : C.P.follows .mixedOrders = true) (hG : ∀ g vs, C.G g = some vs → vs.all flat = true) {g : FuncId} {sg : Sig} (hs : Sg g = some sg) (hp : sg.plain = true) {ls rs : List Lf} {H' : List HObj}
    (h : let _ : Kno := KnoC C; CallL C Sg g ls [] rs H') : Ct C Sg g ls rs := by
  let _ : Kno := KnoC C
  obtain ⟨sg', xs, ys, c1, c2, c3, c4⟩ := h
  rw [hs] at c1
  cases c1
  simp only [Sig.plain, Bool.and_eq_true] at hp
  have ha := areIs_flat c2.1 hp.1
  have hr := packA_flat (areIs_flat1 c3.1 hp.2)
  intro H
  exact ⟨sg, xs, ys, hs, c2, c3, ⟨0, fun H => frame_ok hG (uCallC_ok hm c4) ha hr H, rfl⟩⟩

theorem call_ct {C : Cfg} {Sg : FuncId → Option Sig} {g : FuncId} {ls rs : List Lf} {h : List HObj} {K : List Lf → List HObj → Prop} (hc : Ct C Sg g ls rs) (hk : K rs h) : let _ : Kno := KnoC C; callP C Sg g ls h K :=
  ⟨rs, h, hc h, hk⟩
end

section
variable [Val] [Kno]
theorem it_rule {F : (List Lf → List HObj → Prop) → List Lf → List HObj → Prop} (Inv : Nat → List Lf → List HObj → Prop)
    (step : ∀ m ls h, Inv m ls h → ∀ self : List Lf → List HObj → Prop, (∀ m' ls h, m' < m → Inv m' ls h → self ls h) → F self ls h) : ∀ n m ls h, m < n → Inv m ls h → itP F n ls h
  | 0, _, _, _, hm, _ => absurd hm (Nat.not_lt_zero _)
  | n + 1, m, ls, h, hm, hi => step m ls h hi (itP F n) fun m' ls h h' hi' => it_rule Inv step n m' ls h (by omega) hi'
/-- A loop: a measure and what holds. -/
theorem loop_rule {F : (List Lf → List HObj → Prop) → List Lf → List HObj → Prop} (Inv : Nat → List Lf → List HObj → Prop) {m : Nat} {ls : List Lf} {h : List HObj} (hi : Inv m ls h)
    (step : ∀ m ls h, Inv m ls h → ∀ self : List Lf → List HObj → Prop, (∀ m' ls h, m' < m → Inv m' ls h → self ls h) → F self ls h) : loopP F ls h :=
  ⟨m + 1, it_rule Inv step (m + 1) m ls h (Nat.lt_succ_self m) hi⟩

/-- Numbers that fit are as they are. -/
theorem wrap_i64 {n : Int} (h1 : -9223372036854775808 ≤ n) (h2 : n ≤ 9223372036854775807) : IntKind.wrap .i64 n = n := by
  simp only [IntKind.wrap, IntKind.bits, IntKind.signed, Bool.true_and, ge_iff_le, decide_eq_true_eq]
  split <;> omega
theorem wrap_u8 {n : Int} (h1 : 0 ≤ n) (h2 : n ≤ 255) : IntKind.wrap .u8 n = n := by
  simp only [IntKind.wrap, IntKind.bits, IntKind.signed, Bool.false_and, Bool.false_eq_true, if_false]
  omega
end
end Sx
end Go.Am

/-
  THE ALGEBRA OF PROPOSITIONS, its rules as equations: a step each.
-/
namespace Go.Am
namespace Sx

/-- What comes behind, put away: no step looks into it. -/
class Bx (α : Sort _) where
  v : α
def hid {α : Sort _} [b : Bx α] : α := b.v
section
variable [Val] [Kno] {C : Cfg} {Sg : FuncId → Option Sig} {T : Nat → Site}

theorem b_unI {n : Int} {r : List Lf} {K : Int → List Lf → Prop} : (PA C Sg T).unI (.i n :: r) K = K n r := rfl
theorem b_unB {n : Bool} {r : List Lf} {K : Bool → List Lf → Prop} : (PA C Sg T).unB (.b n :: r) K = K n r := rfl
theorem b_unV {n : Value} {r : List Lf} {K : Value → List Lf → Prop} : (PA C Sg T).unV (.v n :: r) K = K n r := rfl
theorem b_un0 {K : Prop} : (PA C Sg T).un0 [] K = K := rfl
theorem b_ucI {k : IntKind} {n : Int} {r : List Value} {K : Int → List Value → Prop} : (PA C Sg T).ucI k (.int k n :: r) K = K n r := by
  show (k = k ∧ K n r) = K n r
  simp
theorem b_ucB {n : Bool} {r : List Value} {K : Bool → List Value → Prop} : (PA C Sg T).ucB (.bool n :: r) K = K n r := rfl
theorem b_ucV {n : Value} {r : List Value} {K : Value → List Value → Prop} : (PA C Sg T).ucV (n :: r) K = K n r := rfl
theorem b_uc0 {K : Prop} : (PA C Sg T).uc0 [] K = K := rfl
theorem p_chk {v : Value} {K : Prop} (h : goodV v = true) : (PA C Sg T).chk v K = K := by
  show (goodV v = true ∧ K) = K
  simp [h]
theorem b_cond_t {X Y : Prop} : (PA C Sg T).cond true X Y = X := by
  show ((true = true → X) ∧ (true = false → Y)) = X
  simp
theorem b_cond_f {X Y : Prop} : (PA C Sg T).cond false X Y = Y := by
  show ((false = true → X) ∧ (false = false → Y)) = Y
  simp
theorem b_lss_t {a b : Int} {K : Bool → Prop} (h : a < b) : (PA C Sg T).cmp .lss a b K = K true := by
  show K (decide (a < b)) = _; rw [decide_eq_true h]
theorem b_lss_f {a b : Int} {K : Bool → Prop} (h : b ≤ a) : (PA C Sg T).cmp .lss a b K = K false := by
  show K (decide (a < b)) = _; rw [decide_eq_false (by omega)]
theorem b_leq_t {a b : Int} {K : Bool → Prop} (h : a ≤ b) : (PA C Sg T).cmp .leq a b K = K true := by
  show K (decide (a ≤ b)) = _; rw [decide_eq_true h]
theorem b_leq_f {a b : Int} {K : Bool → Prop} (h : b < a) : (PA C Sg T).cmp .leq a b K = K false := by
  show K (decide (a ≤ b)) = _; rw [decide_eq_false (by omega)]
theorem b_gtr_t {a b : Int} {K : Bool → Prop} (h : b < a) : (PA C Sg T).cmp .gtr a b K = K true := by
  show K (decide (a > b)) = _; rw [decide_eq_true h]
theorem b_gtr_f {a b : Int} {K : Bool → Prop} (h : a ≤ b) : (PA C Sg T).cmp .gtr a b K = K false := by
  show K (decide (a > b)) = _; rw [decide_eq_false (by omega)]
theorem b_geq_t {a b : Int} {K : Bool → Prop} (h : b ≤ a) : (PA C Sg T).cmp .geq a b K = K true := by
  show K (decide (a ≥ b)) = _; rw [decide_eq_true h]
theorem b_geq_f {a b : Int} {K : Bool → Prop} (h : a < b) : (PA C Sg T).cmp .geq a b K = K false := by
  show K (decide (a ≥ b)) = _; rw [decide_eq_false (by omega)]
theorem b_eql_t {a b : Int} {K : Bool → Prop} (h : a = b) : (PA C Sg T).cmp .eql a b K = K true := by
  show K (a == b) = _; rw [beq_iff_eq.2 h]
theorem b_eql_f {a b : Int} {K : Bool → Prop} (h : a ≠ b) : (PA C Sg T).cmp .eql a b K = K false := by
  show K (a == b) = _; rw [beq_false_of_ne h]
theorem b_neq_t {a b : Int} {K : Bool → Prop} (h : a ≠ b) : (PA C Sg T).cmp .neq a b K = K true := by
  show K (a != b) = _; rw [bne_iff_ne.2 h]
theorem b_neq_f {a b : Int} {K : Bool → Prop} (h : a = b) : (PA C Sg T).cmp .neq a b K = K false := by
  show K (a != b) = _; subst h; simp
theorem b_add {a b : Int} {K : Int → Prop} (h1 : -9223372036854775808 ≤ a + b) (h2 : a + b ≤ 9223372036854775807) : (PA C Sg T).ari .add .i64 a b K = K (a + b) := by
  show K (IntKind.wrap .i64 (a + b)) = _; rw [wrap_i64 h1 h2]
theorem b_sub {a b : Int} {K : Int → Prop} (h1 : -9223372036854775808 ≤ a - b) (h2 : a - b ≤ 9223372036854775807) : (PA C Sg T).ari .sub .i64 a b K = K (a - b) := by
  show K (IntKind.wrap .i64 (a - b)) = _; rw [wrap_i64 h1 h2]
theorem b_mul {a b : Int} {K : Int → Prop} (h1 : -9223372036854775808 ≤ a * b) (h2 : a * b ≤ 9223372036854775807) : (PA C Sg T).ari .mul .i64 a b K = K (a * b) := by
  show K (IntKind.wrap .i64 (a * b)) = _; rw [wrap_i64 h1 h2]
theorem b_add8 {a b : Int} {K : Int → Prop} (h1 : 0 ≤ a + b) (h2 : a + b ≤ 255) : (PA C Sg T).ari .add .u8 a b K = K (a + b) := by
  show K (IntKind.wrap .u8 (a + b)) = _; rw [wrap_u8 h1 h2]
theorem b_sub8 {a b : Int} {K : Int → Prop} (h1 : 0 ≤ a - b) (h2 : a - b ≤ 255) : (PA C Sg T).ari .sub .u8 a b K = K (a - b) := by
  show K (IntKind.wrap .u8 (a - b)) = _; rw [wrap_u8 h1 h2]
theorem b_mul8 {a b : Int} {K : Int → Prop} (h1 : 0 ≤ a * b) (h2 : a * b ≤ 255) : (PA C Sg T).ari .mul .u8 a b K = K (a * b) := by
  show K (IntKind.wrap .u8 (a * b)) = _; rw [wrap_u8 h1 h2]
theorem tdiv_nn {a b : Int} (h : 0 ≤ a) : a.tdiv b = a / b := Int.tdiv_eq_ediv_of_nonneg h
theorem b_quo_nn {a b : Int} {K : Int → Prop} (h : 0 ≤ a) (hb : 0 < b) (h2 : a ≤ 9223372036854775807) : (PA C Sg T).ari .quo .i64 a b K = K (a / b) := by
  show (b ≠ 0 ∧ K (IntKind.wrap .i64 (a.tdiv b))) = _
  have h3 : a / b ≤ a := Int.ediv_le_self b h
  have h4 : 0 ≤ a / b := Int.ediv_nonneg h (by omega)
  rw [tdiv_nn h, wrap_i64 (by omega) (by omega)]
  simp; intro _ h; omega
theorem b_quo_ev {a : Int} {K : Int → Prop} (h : a % 2 = 0) (h1 : -9223372036854775808 ≤ a) (h2 : a ≤ 9223372036854775807) : (PA C Sg T).ari .quo .i64 a 2 K = K (a / 2) := by
  show ((2 : Int) ≠ 0 ∧ K (IntKind.wrap .i64 (a.tdiv 2))) = _
  rw [Int.tdiv_eq_ediv_of_dvd (Int.dvd_of_emod_eq_zero h), wrap_i64 (by omega) (by omega)]
  simp
theorem b_quo_dv {a b : Int} {K : Int → Prop} (h : a % b = 0) (hb : 0 < b) (h1 : -9223372036854775808 ≤ a) (h2 : a ≤ 9223372036854775807) : (PA C Sg T).ari .quo .i64 a b K = K (a / b) := by
  show (b ≠ 0 ∧ K (IntKind.wrap .i64 (a.tdiv b))) = _
  obtain ⟨q, rfl⟩ := Int.dvd_of_emod_eq_zero h
  rw [Int.mul_tdiv_cancel_left q (by omega), Int.mul_ediv_cancel_left q (by omega)]
  have hq : -9223372036854775808 ≤ q ∧ q ≤ 9223372036854775807 := by
    rcases Int.le_total 0 q with hs | hs
    · have := Int.mul_le_mul_of_nonneg_right (show (1 : Int) ≤ b by omega) hs
      omega
    · have := Int.mul_le_mul_of_nonneg_right (show (1 : Int) ≤ b by omega) (show 0 ≤ -q by omega)
      rw [Int.mul_neg b q] at this
      omega
  rw [wrap_i64 hq.1 hq.2]
  simp; intro _ h; omega
theorem b_rem_nn {k : IntKind} {a b : Int} {K : Int → Prop} (h : 0 ≤ a) (hb : 0 < b) : (PA C Sg T).ari .rem k a b K = K (a % b) := by
  show (b ≠ 0 ∧ K (a.tmod b)) = _
  rw [Int.tmod_eq_emod_of_nonneg h]
  simp; intro _ h; omega
theorem b_rem_np {k : IntKind} {a b : Int} {K : Int → Prop} (h : a ≤ 0) (hb : 0 < b) : (PA C Sg T).ari .rem k a b K = K (-((-a) % b)) := by
  show (b ≠ 0 ∧ K (a.tmod b)) = _
  have : a.tmod b = -((-a) % b) := by
    have h1 := Int.neg_tmod a b
    rw [Int.tmod_eq_emod_of_nonneg (a := -a) (by omega)] at h1
    omega
  rw [this]
  simp; intro _ h; omega
theorem b_and1 {a : Int} {K : Int → Prop} : (PA C Sg T).ari .and .i64 a 1 K = K (a % 2) := by
  show (((1 : Int) = 1 ∧ K (a % 2)) ∨ ((1 : Int) ≠ 1 ∧ ∃ n, ArRun .and .i64 a 1 n ∧ K n)) = K (a % 2)
  simp
theorem b_conv {a : Int} {K : Int → Prop} (h1 : -9223372036854775808 ≤ a) (h2 : a ≤ 9223372036854775807) : (PA C Sg T).conv .i64 a K = K a := by
  show K (IntKind.wrap .i64 a) = _; rw [wrap_i64 h1 h2]
theorem b_conv8 {a : Int} {K : Int → Prop} (h1 : 0 ≤ a) (h2 : a ≤ 255) : (PA C Sg T).conv .u8 a K = K a := by
  show K (IntKind.wrap .u8 a) = _; rw [wrap_u8 h1 h2]
theorem b_sel_t {a b : Int} {K : Int → Prop} : (PA C Sg T).sel true a b K = K a := rfl
theorem b_sel_f {a b : Int} {K : Int → Prop} : (PA C Sg T).sel false a b K = K b := rfl
theorem b_opt {α : Type} {x : α} {K : α → Prop} : (PA C Sg T).opt (some x) K = K x := by
  show (∃ y, some x = some y ∧ K y) = K x
  simp
theorem b_inB {n : Nat} {i : Int} {K : Unit → Prop} (h1 : 0 ≤ i) (h2 : i < (n : Int)) : (PA C Sg T).opt (inB n i) K = K () := by
  rw [show inB n i = some () from if_pos ⟨h1, h2⟩, b_opt]
theorem p_opt_eq {α : Type} {o : Option α} {x : α} {K : α → Prop} (h : o = some x) : (PA C Sg T).opt o K = K x := by
  rw [h, b_opt]
theorem b_join {b : List Lf → List HObj → Prop} {m : (List Lf → List HObj → Prop) → Prop} : (PA C Sg T).join b m = m b := rfl
theorem b_eqs0 {K : Bool → Prop} : (PA C Sg T).eqs [] K = K true := rfl
theorem b_eqs_t {a b : Int} {l : List (Lf × Lf)} {K : Bool → Prop} (h : a = b) : (PA C Sg T).eqs ((.i a, .i b) :: l) K = (PA C Sg T).eqs l K := by
  show K (eqAll _) = K (eqAll l)
  subst h
  simp [eqAll, eqLfD]
theorem b_eqs_f {a b : Int} {l : List (Lf × Lf)} {K : Bool → Prop} (h : a ≠ b) : (PA C Sg T).eqs ((.i a, .i b) :: l) K = K false := by
  show K (eqAll _) = K false
  have : (a == b) = false := beq_false_of_ne h
  simp [eqAll, eqLfD, this]
theorem p_loop {F : (List Lf → List HObj → Prop) → List Lf → List HObj → Prop} {ls : List Lf} {h : List HObj} (n : Nat) (hn : itP F n ls h) : (PA C Sg T).loop F ls h := ⟨n, hn⟩
theorem b_it {F : (List Lf → List HObj → Prop) → List Lf → List HObj → Prop} {n : Nat} {ls : List Lf} {h : List HObj} : itP F (n + 1) ls h = F (itP F n) ls h := rfl
theorem p_call {g : FuncId} {ls rs : List Lf} {h : List HObj} {K : List Lf → List HObj → Prop} (hc : ∀ H, CallL C Sg g ls H rs H) (hk : K rs h) : (PA C Sg T).call g ls h (@hid _ ⟨K⟩) := ⟨rs, h, hc h, hk⟩
theorem p_cond {b : Bool} {X Y : Prop} (h1 : b = true → X) (h2 : b = false → Y) : (PA C Sg T).cond b (@hid _ ⟨X⟩) (@hid _ ⟨Y⟩) := ⟨h1, h2⟩
/-- Truth values compared. -/
theorem b_eqsb_t {a b : Bool} {l : List (Lf × Lf)} {K : Bool → Prop} (h : a = b) : (PA C Sg T).eqs ((.b a, .b b) :: l) K = (PA C Sg T).eqs l K := by
  show K (eqAll _) = K (eqAll l)
  subst h
  simp [eqAll, eqLfD]
theorem b_eqsb_tf {l : List (Lf × Lf)} {K : Bool → Prop} : (PA C Sg T).eqs ((.b true, .b false) :: l) K = K false := rfl
theorem b_eqsb_ft {l : List (Lf × Lf)} {K : Bool → Prop} : (PA C Sg T).eqs ((.b false, .b true) :: l) K = K false := rfl
theorem b_mul_1 {b : Int} {K : Int → Prop} (h1 : -9223372036854775808 ≤ b) (h2 : b ≤ 9223372036854775807) : (PA C Sg T).ari .mul .i64 1 b K = K b := by
  show K (IntKind.wrap .i64 (1 * b)) = _; rw [Int.one_mul, wrap_i64 h1 h2]
theorem b_mul_0 {b : Int} {K : Int → Prop} : (PA C Sg T).ari .mul .i64 0 b K = K 0 := by
  show K (IntKind.wrap .i64 (0 * b)) = _; rw [Int.zero_mul]; rfl
theorem b_mul_m {b : Int} {K : Int → Prop} (h1 : -9223372036854775808 ≤ -b) (h2 : -b ≤ 9223372036854775807) : (PA C Sg T).ari .mul .i64 (-1) b K = K (-b) := by
  show K (IntKind.wrap .i64 (-1 * b)) = _
  have : (-1 * b : Int) = -b := by omega
  rw [this, wrap_i64 h1 h2]
theorem b_mul_r1 {b : Int} {K : Int → Prop} (h1 : -9223372036854775808 ≤ b) (h2 : b ≤ 9223372036854775807) : (PA C Sg T).ari .mul .i64 b 1 K = K b := by
  show K (IntKind.wrap .i64 (b * 1)) = _; rw [Int.mul_one, wrap_i64 h1 h2]
theorem b_mul_r0 {b : Int} {K : Int → Prop} : (PA C Sg T).ari .mul .i64 b 0 K = K 0 := by
  show K (IntKind.wrap .i64 (b * 0)) = _; rw [Int.mul_zero]; rfl
theorem b_mul_rm {b : Int} {K : Int → Prop} (h1 : -9223372036854775808 ≤ -b) (h2 : -b ≤ 9223372036854775807) : (PA C Sg T).ari .mul .i64 b (-1) K = K (-b) := by
  show K (IntKind.wrap .i64 (b * -1)) = _
  have : (b * -1 : Int) = -b := by omega
  rw [this, wrap_i64 h1 h2]
theorem b_add_0 {b : Int} {K : Int → Prop} (h1 : -9223372036854775808 ≤ b) (h2 : b ≤ 9223372036854775807) : (PA C Sg T).ari .add .i64 0 b K = K b := by
  show K (IntKind.wrap .i64 (0 + b)) = _; rw [Int.zero_add, wrap_i64 h1 h2]
theorem b_add_r0 {b : Int} {K : Int → Prop} (h1 : -9223372036854775808 ≤ b) (h2 : b ≤ 9223372036854775807) : (PA C Sg T).ari .add .i64 b 0 K = K b := by
  show K (IntKind.wrap .i64 (b + 0)) = _; rw [Int.add_zero, wrap_i64 h1 h2]
theorem b_add_11 {K : Int → Prop} : (PA C Sg T).ari .add .i64 1 1 K = K 2 := by
  show K (IntKind.wrap .i64 (1 + 1)) = _; rfl
theorem b_quo_1 {a : Int} {K : Int → Prop} (h1 : -9223372036854775808 ≤ a) (h2 : a ≤ 9223372036854775807) : (PA C Sg T).ari .quo .i64 a 1 K = K a := by
  show ((1 : Int) ≠ 0 ∧ K (IntKind.wrap .i64 (a.tdiv 1))) = _
  rw [Int.tdiv_one, wrap_i64 h1 h2]; simp
theorem p_ari_2 {op : BinOp} {k : IntKind} {a b b' : Int} {K : Int → Prop} (hb : b = b') (h : (PA C Sg T).ari op k a b' K) : (PA C Sg T).ari op k a b K := by rw [hb]; exact h
theorem p_opt_r {α : Type} {o : Option α} {x : α} {K : α → Prop} (h : o = some x) (hk : K x) : (PA C Sg T).opt o (@hid _ ⟨K⟩) := ⟨x, h, hk⟩
theorem pvx {vs : List Value} {base sz n : Nat} {i j : Int} {o : Option (List Value)} (h2 : pickV vs base [(j, sz)] n = o) (h : i = j) : pickV vs base [(i, sz)] n = o := by rw [h]; exact h2
theorem pvx2 {vs : List Value} {base sz sz' n : Nat} {i j i' j' : Int} {o : Option (List Value)} (h2 : pickV vs base [(j, sz), (j', sz')] n = o) (h : i = j) (h' : i' = j') : pickV vs base [(i, sz), (i', sz')] n = o := by rw [h, h']; exact h2
theorem plx {ls : List Lf} {base sz n : Nat} {i : Int} {o : Option (List Lf)} (j : Int) (h : i = j) (h2 : pickL ls base [(j, sz)] n = o) : pickL ls base [(i, sz)] n = o := by rw [h]; exact h2
theorem ptx {ls new : List Lf} {base sz : Nat} {i : Int} {o : Option (List Lf)} (j : Int) (h : i = j) (h2 : putL ls base [(j, sz)] new = o) : putL ls base [(i, sz)] new = o := by rw [h]; exact h2
/-! ### The same, with what comes behind put away -/
theorem p_unI {n : Int} {r : List Lf} {K : Int → List Lf → Prop} : (PA C Sg T).unI (.i n :: r) (@hid _ ⟨K⟩) = K n r := b_unI
theorem p_unB {n : Bool} {r : List Lf} {K : Bool → List Lf → Prop} : (PA C Sg T).unB (.b n :: r) (@hid _ ⟨K⟩) = K n r := b_unB
theorem p_unV {n : Value} {r : List Lf} {K : Value → List Lf → Prop} : (PA C Sg T).unV (.v n :: r) (@hid _ ⟨K⟩) = K n r := b_unV
theorem p_un0 {K : Prop} : (PA C Sg T).un0 [] (@hid _ ⟨K⟩) = K := b_un0
theorem p_ucI {k : IntKind} {n : Int} {r : List Value} {K : Int → List Value → Prop} : (PA C Sg T).ucI k (.int k n :: r) (@hid _ ⟨K⟩) = K n r := b_ucI
theorem p_ucB {n : Bool} {r : List Value} {K : Bool → List Value → Prop} : (PA C Sg T).ucB (.bool n :: r) (@hid _ ⟨K⟩) = K n r := b_ucB
theorem p_ucV {n : Value} {r : List Value} {K : Value → List Value → Prop} : (PA C Sg T).ucV (n :: r) (@hid _ ⟨K⟩) = K n r := b_ucV
theorem p_uc0 {K : Prop} : (PA C Sg T).uc0 [] (@hid _ ⟨K⟩) = K := b_uc0
theorem p_cond_t {X Y : Prop} : (PA C Sg T).cond true (@hid _ ⟨X⟩) Y = X := b_cond_t
theorem p_cond_f {X Y : Prop} : (PA C Sg T).cond false X (@hid _ ⟨Y⟩) = Y := b_cond_f
theorem p_lss_t {a b : Int} {K : Bool → Prop} (h : a < b) : (PA C Sg T).cmp .lss a b (@hid _ ⟨K⟩) = K true := b_lss_t h
theorem p_lss_f {a b : Int} {K : Bool → Prop} (h : b ≤ a) : (PA C Sg T).cmp .lss a b (@hid _ ⟨K⟩) = K false := b_lss_f h
theorem p_leq_t {a b : Int} {K : Bool → Prop} (h : a ≤ b) : (PA C Sg T).cmp .leq a b (@hid _ ⟨K⟩) = K true := b_leq_t h
theorem p_leq_f {a b : Int} {K : Bool → Prop} (h : b < a) : (PA C Sg T).cmp .leq a b (@hid _ ⟨K⟩) = K false := b_leq_f h
theorem p_gtr_t {a b : Int} {K : Bool → Prop} (h : b < a) : (PA C Sg T).cmp .gtr a b (@hid _ ⟨K⟩) = K true := b_gtr_t h
theorem p_gtr_f {a b : Int} {K : Bool → Prop} (h : a ≤ b) : (PA C Sg T).cmp .gtr a b (@hid _ ⟨K⟩) = K false := b_gtr_f h
theorem p_geq_t {a b : Int} {K : Bool → Prop} (h : b ≤ a) : (PA C Sg T).cmp .geq a b (@hid _ ⟨K⟩) = K true := b_geq_t h
theorem p_geq_f {a b : Int} {K : Bool → Prop} (h : a < b) : (PA C Sg T).cmp .geq a b (@hid _ ⟨K⟩) = K false := b_geq_f h
theorem p_eql_t {a b : Int} {K : Bool → Prop} (h : a = b) : (PA C Sg T).cmp .eql a b (@hid _ ⟨K⟩) = K true := b_eql_t h
theorem p_eql_f {a b : Int} {K : Bool → Prop} (h : a ≠ b) : (PA C Sg T).cmp .eql a b (@hid _ ⟨K⟩) = K false := b_eql_f h
theorem p_neq_t {a b : Int} {K : Bool → Prop} (h : a ≠ b) : (PA C Sg T).cmp .neq a b (@hid _ ⟨K⟩) = K true := b_neq_t h
theorem p_neq_f {a b : Int} {K : Bool → Prop} (h : a = b) : (PA C Sg T).cmp .neq a b (@hid _ ⟨K⟩) = K false := b_neq_f h
theorem p_add {a b : Int} {K : Int → Prop} (h1 : -9223372036854775808 ≤ a + b) (h2 : a + b ≤ 9223372036854775807) : (PA C Sg T).ari .add .i64 a b (@hid _ ⟨K⟩) = K (a + b) := b_add h1 h2
theorem p_sub {a b : Int} {K : Int → Prop} (h1 : -9223372036854775808 ≤ a - b) (h2 : a - b ≤ 9223372036854775807) : (PA C Sg T).ari .sub .i64 a b (@hid _ ⟨K⟩) = K (a - b) := b_sub h1 h2
theorem p_mul {a b : Int} {K : Int → Prop} (h1 : -9223372036854775808 ≤ a * b) (h2 : a * b ≤ 9223372036854775807) : (PA C Sg T).ari .mul .i64 a b (@hid _ ⟨K⟩) = K (a * b) := b_mul h1 h2
theorem p_add8 {a b : Int} {K : Int → Prop} (h1 : 0 ≤ a + b) (h2 : a + b ≤ 255) : (PA C Sg T).ari .add .u8 a b (@hid _ ⟨K⟩) = K (a + b) := b_add8 h1 h2
theorem p_sub8 {a b : Int} {K : Int → Prop} (h1 : 0 ≤ a - b) (h2 : a - b ≤ 255) : (PA C Sg T).ari .sub .u8 a b (@hid _ ⟨K⟩) = K (a - b) := b_sub8 h1 h2
theorem p_mul8 {a b : Int} {K : Int → Prop} (h1 : 0 ≤ a * b) (h2 : a * b ≤ 255) : (PA C Sg T).ari .mul .u8 a b (@hid _ ⟨K⟩) = K (a * b) := b_mul8 h1 h2
theorem p_quo_nn {a b : Int} {K : Int → Prop} (h : 0 ≤ a) (hb : 0 < b) (h2 : a ≤ 9223372036854775807) : (PA C Sg T).ari .quo .i64 a b (@hid _ ⟨K⟩) = K (a / b) := b_quo_nn h hb h2
theorem p_quo_ev {a : Int} {K : Int → Prop} (h : a % 2 = 0) (h1 : -9223372036854775808 ≤ a) (h2 : a ≤ 9223372036854775807) : (PA C Sg T).ari .quo .i64 a 2 (@hid _ ⟨K⟩) = K (a / 2) := b_quo_ev h h1 h2
theorem p_quo_dv {a b : Int} {K : Int → Prop} (h : a % b = 0) (hb : 0 < b) (h1 : -9223372036854775808 ≤ a) (h2 : a ≤ 9223372036854775807) : (PA C Sg T).ari .quo .i64 a b (@hid _ ⟨K⟩) = K (a / b) := b_quo_dv h hb h1 h2
theorem p_rem_nn {k : IntKind} {a b : Int} {K : Int → Prop} (h : 0 ≤ a) (hb : 0 < b) : (PA C Sg T).ari .rem k a b (@hid _ ⟨K⟩) = K (a % b) := b_rem_nn h hb
theorem p_rem_np {k : IntKind} {a b : Int} {K : Int → Prop} (h : a ≤ 0) (hb : 0 < b) : (PA C Sg T).ari .rem k a b (@hid _ ⟨K⟩) = K (-((-a) % b)) := b_rem_np h hb
theorem p_and1 {a : Int} {K : Int → Prop} : (PA C Sg T).ari .and .i64 a 1 (@hid _ ⟨K⟩) = K (a % 2) := b_and1
theorem p_conv {a : Int} {K : Int → Prop} (h1 : -9223372036854775808 ≤ a) (h2 : a ≤ 9223372036854775807) : (PA C Sg T).conv .i64 a (@hid _ ⟨K⟩) = K a := b_conv h1 h2
theorem p_conv8 {a : Int} {K : Int → Prop} (h1 : 0 ≤ a) (h2 : a ≤ 255) : (PA C Sg T).conv .u8 a (@hid _ ⟨K⟩) = K a := b_conv8 h1 h2
theorem p_sel_t {a b : Int} {K : Int → Prop} : (PA C Sg T).sel true a b (@hid _ ⟨K⟩) = K a := b_sel_t
theorem p_sel_f {a b : Int} {K : Int → Prop} : (PA C Sg T).sel false a b (@hid _ ⟨K⟩) = K b := b_sel_f
theorem p_opt {α : Type} {x : α} {K : α → Prop} : (PA C Sg T).opt (some x) (@hid _ ⟨K⟩) = K x := b_opt
theorem p_inB {n : Nat} {i : Int} {K : Unit → Prop} (h1 : 0 ≤ i) (h2 : i < (n : Int)) : (PA C Sg T).opt (inB n i) (@hid _ ⟨K⟩) = K () := b_inB h1 h2
theorem p_join {b : List Lf → List HObj → Prop} {m : (List Lf → List HObj → Prop) → Prop} : (PA C Sg T).join (@hid _ ⟨b⟩) (@hid _ ⟨m⟩) = m (@hid _ ⟨b⟩) := b_join
theorem p_eqs0 {K : Bool → Prop} : (PA C Sg T).eqs [] (@hid _ ⟨K⟩) = K true := b_eqs0
theorem p_eqs_t {a b : Int} {l : List (Lf × Lf)} {K : Bool → Prop} (h : a = b) : (PA C Sg T).eqs ((.i a, .i b) :: l) (@hid _ ⟨K⟩) = (PA C Sg T).eqs l (@hid _ ⟨K⟩) := b_eqs_t h
theorem p_eqs_f {a b : Int} {l : List (Lf × Lf)} {K : Bool → Prop} (h : a ≠ b) : (PA C Sg T).eqs ((.i a, .i b) :: l) (@hid _ ⟨K⟩) = K false := b_eqs_f h
theorem p_it {F : (List Lf → List HObj → Prop) → List Lf → List HObj → Prop} {n : Nat} {ls : List Lf} {h : List HObj} : itP (@hid _ ⟨F⟩) (n + 1) ls h = F (itP (@hid _ ⟨F⟩) n) ls h := b_it
theorem p_eqsb_t {a b : Bool} {l : List (Lf × Lf)} {K : Bool → Prop} (h : a = b) : (PA C Sg T).eqs ((.b a, .b b) :: l) (@hid _ ⟨K⟩) = (PA C Sg T).eqs l (@hid _ ⟨K⟩) := b_eqsb_t h
theorem p_eqsb_tf {l : List (Lf × Lf)} {K : Bool → Prop} : (PA C Sg T).eqs ((.b true, .b false) :: l) (@hid _ ⟨K⟩) = K false := b_eqsb_tf
theorem p_eqsb_ft {l : List (Lf × Lf)} {K : Bool → Prop} : (PA C Sg T).eqs ((.b false, .b true) :: l) (@hid _ ⟨K⟩) = K false := b_eqsb_ft
theorem p_mul_1 {b : Int} {K : Int → Prop} (h1 : -9223372036854775808 ≤ b) (h2 : b ≤ 9223372036854775807) : (PA C Sg T).ari .mul .i64 1 b (@hid _ ⟨K⟩) = K b := b_mul_1 h1 h2
theorem p_mul_0 {b : Int} {K : Int → Prop} : (PA C Sg T).ari .mul .i64 0 b (@hid _ ⟨K⟩) = K 0 := b_mul_0
theorem p_mul_m {b : Int} {K : Int → Prop} (h1 : -9223372036854775808 ≤ -b) (h2 : -b ≤ 9223372036854775807) : (PA C Sg T).ari .mul .i64 (-1) b (@hid _ ⟨K⟩) = K (-b) := b_mul_m h1 h2
theorem p_mul_r1 {b : Int} {K : Int → Prop} (h1 : -9223372036854775808 ≤ b) (h2 : b ≤ 9223372036854775807) : (PA C Sg T).ari .mul .i64 b 1 (@hid _ ⟨K⟩) = K b := b_mul_r1 h1 h2
theorem p_mul_r0 {b : Int} {K : Int → Prop} : (PA C Sg T).ari .mul .i64 b 0 (@hid _ ⟨K⟩) = K 0 := b_mul_r0
theorem p_mul_rm {b : Int} {K : Int → Prop} (h1 : -9223372036854775808 ≤ -b) (h2 : -b ≤ 9223372036854775807) : (PA C Sg T).ari .mul .i64 b (-1) (@hid _ ⟨K⟩) = K (-b) := b_mul_rm h1 h2
theorem p_add_0 {b : Int} {K : Int → Prop} (h1 : -9223372036854775808 ≤ b) (h2 : b ≤ 9223372036854775807) : (PA C Sg T).ari .add .i64 0 b (@hid _ ⟨K⟩) = K b := b_add_0 h1 h2
theorem p_add_r0 {b : Int} {K : Int → Prop} (h1 : -9223372036854775808 ≤ b) (h2 : b ≤ 9223372036854775807) : (PA C Sg T).ari .add .i64 b 0 (@hid _ ⟨K⟩) = K b := b_add_r0 h1 h2
theorem p_add_11 {K : Int → Prop} : (PA C Sg T).ari .add .i64 1 1 (@hid _ ⟨K⟩) = K 2 := b_add_11
theorem p_quo_1 {a : Int} {K : Int → Prop} (h1 : -9223372036854775808 ≤ a) (h2 : a ≤ 9223372036854775807) : (PA C Sg T).ari .quo .i64 a 1 (@hid _ ⟨K⟩) = K a := b_quo_1 h1 h2
theorem p_hid2 {f : List Lf → List HObj → Prop} {a : List Lf} {b : List HObj} : @hid _ ⟨f⟩ a b = f a b := rfl
theorem p_eqs2_f {a b c d : Int} {K : Bool → Prop} (h : ¬ (a = c ∧ b = d)) : (PA C Sg T).eqs [(.i a, .i c), (.i b, .i d)] (@hid _ ⟨K⟩) = K false := by
  show K (eqAll _) = K false
  have : eqAll [(.i a, .i c), (.i b, .i d)] = false := by
    rw [Bool.eq_false_iff]
    simpa [eqAll, eqLfD] using h
  rw [this]
theorem p_eqs3_f {a b c d e f : Int} {K : Bool → Prop} (h : ¬ (a = d ∧ b = e ∧ c = f)) : (PA C Sg T).eqs [(.i a, .i d), (.i b, .i e), (.i c, .i f)] (@hid _ ⟨K⟩) = K false := by
  show K (eqAll _) = K false
  have : eqAll [(.i a, .i d), (.i b, .i e), (.i c, .i f)] = false := by
    rw [Bool.eq_false_iff]
    simpa [eqAll, eqLfD] using h
  rw [this]
theorem p_callH {g : FuncId} {ls rs : List Lf} {h h' : List HObj} {K : List Lf → List HObj → Prop} (hc : CallL C Sg g ls h rs h') (hk : K rs h') : (PA C Sg T).call g ls h (@hid _ ⟨K⟩) := ⟨rs, h', hc, hk⟩
theorem p_callE {g : FuncId} {ls : List Lf} {h : List HObj} {P : Int → Prop} {K : List Lf → List HObj → Prop} (hc : ∃ r, P r ∧ ∀ H, CallL C Sg g ls H [.i r] H) (hk : ∀ r, P r → K [.i r] h) : (PA C Sg T).call g ls h (@hid _ ⟨K⟩) := by
  obtain ⟨r, h1, h2⟩ := hc
  exact ⟨_, h, h2 h, hk r h1⟩
theorem callv_ct {g : FuncId} {sg : Sig} {ls rs : List Lf} {H H' : List HObj} (hc : CallL C Sg g ls H rs H') (hs : Sg g = some sg) (xs : List S0) (h1 : areIs xs sg.ps = true) (h2 : lfsOf xs = ls) :
    CallV C (.func (.func g) #[] #[]) (valsOf xs) sg.rs H rs H' := by
  obtain ⟨sg', xs', ys, c1, c2, c3, c4⟩ := hc
  rw [hs] at c1
  cases c1
  obtain ⟨w1, _⟩ := areIs_val c2.1 h1 (c2.2.1.trans h2.symm)
  rw [w1] at c4
  exact ⟨ys, c3, .inl ⟨g, #[], #[], rfl, by simpa using c4⟩⟩
theorem p_callv {v : Value} {args : List Value} {hs : List SK} {rs : List Lf} {h h' : List HObj} {K : List Lf → List HObj → Prop} (hc : CallV C v args hs h rs h') (hk : K rs h') : (PA C Sg T).callv v args hs h (@hid _ ⟨K⟩) := ⟨rs, h', hc, hk⟩
theorem p_new {o : HObj} {h : List HObj} {K : Nat → List HObj → Prop} : (PA C Sg T).new o h (@hid _ ⟨K⟩) = K h.length (h ++ [o]) := rfl
theorem p_chk_r {v : Value} {K : Prop} (h : goodV v = true) (hk : K) : (PA C Sg T).chk v (@hid _ ⟨K⟩) := ⟨h, hk⟩
theorem p_heap_r {f : Getter → Nat → Option (List Act1 × List Value)} {h : List HObj} {K : List Value → List HObj → Prop} {acts : List Act1} {cs : List Value} (e : f (getL h) h.length = some (acts, cs)) (hk : K cs (actsOn h acts)) : (PA C Sg T).heap f h (@hid _ ⟨K⟩) := ⟨acts, cs, e, hk⟩
theorem p_peek_r {f : Getter → Option (List Value)} {h : List HObj} {K : List Value → Prop} {cs : List Value} (e : f (getL h) = some cs) (hk : K cs) : (PA C Sg T).peek f h (@hid _ ⟨K⟩) := ⟨cs, e, hk⟩
/-- Rules in one. -/
def pxs (C : Cfg) (Sg : FuncId → Option Sig) (T : Nat → Site) := And.intro @p_hid2 (And.intro (@p_new _ _ C Sg T) (And.intro (@p_unI _ _ C Sg T) (And.intro (@p_unB _ _ C Sg T) (And.intro (@p_unV _ _ C Sg T) (And.intro (@p_un0 _ _ C Sg T) (And.intro (@p_ucI _ _ C Sg T) (And.intro (@p_ucB _ _ C Sg T) (And.intro (@p_ucV _ _ C Sg T) (And.intro (@p_uc0 _ _ C Sg T) (And.intro (@p_cond_t _ _ C Sg T) (And.intro (@p_cond_f _ _ C Sg T) (And.intro (@p_opt _ _ C Sg T) (And.intro (@p_inB _ _ C Sg T) (And.intro (@p_join _ _ C Sg T) (And.intro (@p_sel_t _ _ C Sg T) (And.intro (@p_sel_f _ _ C Sg T) ((@p_it))))))))))))))))))
/-- Rules in one. -/
def pxc (C : Cfg) (Sg : FuncId → Option Sig) (T : Nat → Site) := And.intro (@p_lss_t _ _ C Sg T) (And.intro (@p_lss_f _ _ C Sg T) (And.intro (@p_leq_t _ _ C Sg T) (And.intro (@p_leq_f _ _ C Sg T) (And.intro (@p_gtr_t _ _ C Sg T) (And.intro (@p_gtr_f _ _ C Sg T) (And.intro (@p_geq_t _ _ C Sg T) (And.intro (@p_geq_f _ _ C Sg T) (And.intro (@p_eql_t _ _ C Sg T) (And.intro (@p_eql_f _ _ C Sg T) (And.intro (@p_neq_t _ _ C Sg T) (And.intro (@p_neq_f _ _ C Sg T) (And.intro (@p_eqs0 _ _ C Sg T) (And.intro (@p_eqs_t _ _ C Sg T) (And.intro (@p_eqs_f _ _ C Sg T) (And.intro (@p_eqs2_f _ _ C Sg T) (And.intro (@p_eqs3_f _ _ C Sg T) (And.intro (@p_eqsb_t _ _ C Sg T) (And.intro (@p_eqsb_tf _ _ C Sg T) ((@p_eqsb_ft _ _ C Sg T))))))))))))))))))))
/-- Rules in one. -/
def pxa (C : Cfg) (Sg : FuncId → Option Sig) (T : Nat → Site) := And.intro (@p_mul_1 _ _ C Sg T) (And.intro (@p_mul_0 _ _ C Sg T) (And.intro (@p_mul_m _ _ C Sg T) (And.intro (@p_mul_r1 _ _ C Sg T) (And.intro (@p_mul_r0 _ _ C Sg T) (And.intro (@p_mul_rm _ _ C Sg T) (And.intro (@p_add_0 _ _ C Sg T) (And.intro (@p_add_r0 _ _ C Sg T) (And.intro (@p_add_11 _ _ C Sg T) (And.intro (@p_quo_1 _ _ C Sg T) (And.intro (@p_add _ _ C Sg T) (And.intro (@p_sub _ _ C Sg T) (And.intro (@p_mul _ _ C Sg T) (And.intro (@p_add8 _ _ C Sg T) (And.intro (@p_sub8 _ _ C Sg T) (And.intro (@p_mul8 _ _ C Sg T) (And.intro (@p_quo_nn _ _ C Sg T) (And.intro (@p_quo_dv _ _ C Sg T) (And.intro (@p_rem_nn _ _ C Sg T) (And.intro (@p_rem_np _ _ C Sg T) (And.intro (@p_and1 _ _ C Sg T) (And.intro (@p_conv _ _ C Sg T) ((@p_conv8 _ _ C Sg T)))))))))))))))))))))))
end
end Sx
end Go.Am

/-
  THE SEAT'S CALLS: what is known of them, and how it is shown.
-/
set_option maxRecDepth 100000
namespace Go.Am
open Sx Go.Proofs

instance val0 : Val := ⟨fun _ => 0⟩
noncomputable instance kno0 : Kno := KnoC cc
theorem mixed : cc.P.follows .mixedOrders = true := by kernel_rfl
theorem gl_flat (g : Nat) (vs : List Value) (h : cc.G g = some vs) : vs.all flat = true := by
  unfold cc at h
  simp only at h
  split at h <;> first | (cases h; done) | (obtain rfl := Option.some.inj h; kernel_rfl)
theorem gl_cell (g : Nat) (vs : List Value) (h : cc.G g = some vs) : vs.all cellOk = true := by
  unfold cc at h
  simp only at h
  split at h <;> first | (cases h; done) | (obtain rfl := Option.some.inj h; kernel_rfl)
noncomputable abbrev P1 : Alg Prop (List HObj) := PA cc sgTab siteTab
/-- It answers so, and leaves nothing behind. -/
abbrev Cc (g : FuncId) (ls rs : List Lf) : Prop := ∀ H, CallL cc sgTab g ls H rs H

theorem fn_ok {f : FuncId} {fn : Fn1} (hi : FnIs (xc f) sgTab f fn) {ls : List Lf} {H : List HObj} {K : List Lf → List HObj → Prop} (hls : goodLs ls = true)
    (h : execF P1 (xc f) sgTab drN fn ls H K) : ∃ rs H', CallL cc sgTab f ls H rs H' ∧ K rs H' := by
  obtain ⟨rs, h', a1, _, a3⟩ := execF_ok (X := xc f) (holds := id) (abs := id) (PA_ok cc sgTab siteTab) (fun pts ops h n σ σ' hx => dr_ok neuN_ok pts ops h n σ σ' hx) hi (goodLs_ok hls) h
  exact ⟨rs, h', a1, a3⟩
/-- The rules, here. -/
def qxs := pxs cc sgTab siteTab
/-- The rules, here. -/
def qxc := pxc cc sgTab siteTab
/-- The rules, here. -/
def qxa := pxa cc sgTab siteTab
end Go.Am

/-
  THE FUNCTIONS OVER THE ALGEBRA OF PROPOSITIONS, BY PROGRAM.
-/
set_option maxRecDepth 100000
namespace Go.Am
open Sx Go.Proofs

/-- crimp/crimplaw03.CellsNeighbour -/
def p10 (A : Alg Prop (List HObj)) (ls : List Lf) (h : List HObj) (K : List Lf → List HObj → Prop) : Prop := A.unI ls (@hid _ ⟨fun n6 l7 => A.unI l7 (@hid _ ⟨fun n8 l9 => A.unI l9 (@hid _ ⟨fun n10 l11 => A.unI l11 (@hid _ ⟨fun n12 l13 => A.unI l13 (@hid _ ⟨fun n14 l15 => A.unI l15 (@hid _ ⟨fun n16 l17 => A.unI l17 (@hid _ ⟨fun n18 l19 => A.un0 l19 (@hid _ ⟨A.call 47 [(.i n6), (.i n8), (.i n10), (.i n12)] h (@hid _ ⟨fun l20 h21 => A.unI l20 (@hid _ ⟨fun n22 l23 => A.unI l23 (@hid _ ⟨fun n24 l25 => A.unI l25 (@hid _ ⟨fun n26 l27 => A.unI l27 (@hid _ ⟨fun n28 l29 => A.un0 l29 (@hid _ ⟨A.call 48 [(.i n6), (.i n8), (.i n10), (.i n14), (.i n16), (.i n18)] h21 (@hid _ ⟨fun l30 h31 => A.unI l30 (@hid _ ⟨fun n32 l33 => A.unI l33 (@hid _ ⟨fun n34 l35 => A.un0 l35 (@hid _ ⟨A.call 42 [(.i n6), (.i n8), (.i n10)] h31 (@hid _ ⟨fun l36 h37 => A.unI l36 (@hid _ ⟨fun n38 l39 => A.un0 l39 (@hid _ ⟨A.cmp .eql n38 0 (@hid _ ⟨fun t40 => A.cond t40 (@hid _ ⟨A.join (@hid _ ⟨fun l41 h42 => A.unB l41 (@hid _ ⟨fun t43 l44 => A.un0 l44 (@hid _ ⟨K [(.b t43)] h42⟩)⟩)⟩) (@hid _ ⟨fun j45 => A.cmp .eql n28 1 (@hid _ ⟨fun t46 => A.cond t46 (@hid _ ⟨A.eqs [((.i n22), (.i 0)), ((.i n24), (.i 0)), ((.i n26), (.i 0))] (@hid _ ⟨fun t47 => A.cond t47 (@hid _ ⟨A.call 42 [(.i n6), (.i n8), (.i n10)] h37 (@hid _ ⟨fun l48 h49 => A.unI l48 (@hid _ ⟨fun n50 l51 => A.un0 l51 (@hid _ ⟨A.cmp .eql n50 1 (@hid _ ⟨fun t52 => A.cond t52 (@hid _ ⟨A.call 44 [] h49 (@hid _ ⟨fun l53 h54 => A.unB l53 (@hid _ ⟨fun t55 l56 => A.un0 l56 (@hid _ ⟨j45 [(.b t55)] h54⟩)⟩)⟩)⟩) (@hid _ ⟨A.cmp .eql n34 1 (@hid _ ⟨fun t57 => A.cond t57 (@hid _ ⟨A.call 44 [] h49 (@hid _ ⟨fun l58 h59 => A.unB l58 (@hid _ ⟨fun t60 l61 => A.un0 l61 (@hid _ ⟨j45 [(.b t60)] h59⟩)⟩)⟩)⟩) (@hid _ ⟨j45 [(.b false)] h49⟩)⟩)⟩)⟩)⟩)⟩)⟩)⟩) (@hid _ ⟨j45 [(.b false)] h37⟩)⟩)⟩) (@hid _ ⟨j45 [(.b false)] h37⟩)⟩)⟩)⟩) (@hid _ ⟨A.cmp .gtr n12 2 (@hid _ ⟨fun t62 => A.cond t62 (@hid _ ⟨A.join (@hid _ ⟨fun l63 h64 => A.unB l63 (@hid _ ⟨fun t65 l66 => A.un0 l66 (@hid _ ⟨K [(.b t65)] h64⟩)⟩)⟩) (@hid _ ⟨fun j67 => A.cmp .eql n28 1 (@hid _ ⟨fun t68 => A.cond t68 (@hid _ ⟨A.eqs [((.i n22), (.i 0)), ((.i n24), (.i 0)), ((.i n26), (.i 0))] (@hid _ ⟨fun t69 => A.cond t69 (@hid _ ⟨A.call 42 [(.i n6), (.i n8), (.i n10)] h37 (@hid _ ⟨fun l70 h71 => A.unI l70 (@hid _ ⟨fun n72 l73 => A.un0 l73 (@hid _ ⟨A.cmp .eql n72 1 (@hid _ ⟨fun t74 => A.cond t74 (@hid _ ⟨A.call 44 [] h71 (@hid _ ⟨fun l75 h76 => A.unB l75 (@hid _ ⟨fun t77 l78 => A.un0 l78 (@hid _ ⟨j67 [(.b t77)] h76⟩)⟩)⟩)⟩) (@hid _ ⟨A.cmp .eql n34 1 (@hid _ ⟨fun t79 => A.cond t79 (@hid _ ⟨A.call 44 [] h71 (@hid _ ⟨fun l80 h81 => A.unB l80 (@hid _ ⟨fun t82 l83 => A.un0 l83 (@hid _ ⟨j67 [(.b t82)] h81⟩)⟩)⟩)⟩) (@hid _ ⟨j67 [(.b false)] h71⟩)⟩)⟩)⟩)⟩)⟩)⟩)⟩) (@hid _ ⟨j67 [(.b false)] h37⟩)⟩)⟩) (@hid _ ⟨j67 [(.b false)] h37⟩)⟩)⟩)⟩) (@hid _ ⟨A.loop (@hid _ ⟨fun s84 l85 h86 => A.unI l85 (@hid _ ⟨fun n87 l88 => A.unI l88 (@hid _ ⟨fun n89 l90 => A.un0 l90 (@hid _ ⟨A.cmp .lss n89 3 (@hid _ ⟨fun t91 => A.cond t91 (@hid _ ⟨A.call 42 [(.i n14), (.i n16), (.i n18)] h86 (@hid _ ⟨fun l92 h93 => A.unI l92 (@hid _ ⟨fun n94 l95 => A.un0 l95 (@hid _ ⟨A.cmp .eql n94 1 (@hid _ ⟨fun t96 => A.cond t96 (@hid _ ⟨A.call 49 [(.i n6), (.i n8), (.i n10), (.i n89)] h93 (@hid _ ⟨fun l97 h98 => A.unI l97 (@hid _ ⟨fun n99 l100 => A.unI l100 (@hid _ ⟨fun n101 l102 => A.unI l102 (@hid _ ⟨fun n103 l104 => A.un0 l104 (@hid _ ⟨A.eqs [((.i n99), (.i n14)), ((.i n101), (.i n16)), ((.i n103), (.i n18))] (@hid _ ⟨fun t105 => A.join (@hid _ ⟨fun l106 h107 => A.unI l106 (@hid _ ⟨fun n108 l109 => A.un0 l109 (@hid _ ⟨A.ari .add .i64 n89 1 (@hid _ ⟨fun n110 => s84 [(.i n108), (.i n110)] h107⟩)⟩)⟩)⟩) (@hid _ ⟨fun j111 => A.cond t105 (@hid _ ⟨A.ari .add .i64 n87 1 (@hid _ ⟨fun n112 => j111 [(.i n112)] h98⟩)⟩) (@hid _ ⟨j111 [(.i n87)] h98⟩)⟩)⟩)⟩)⟩)⟩)⟩)⟩)⟩) (@hid _ ⟨A.ari .add .i64 n89 1 (@hid _ ⟨fun n113 => s84 [(.i n87), (.i n113)] h93⟩)⟩)⟩)⟩)⟩)⟩)⟩) (@hid _ ⟨A.cmp .eql n34 0 (@hid _ ⟨fun t114 => A.cmp .eql n87 1 (@hid _ ⟨fun t115 => A.eqs [((.b t114), (.b t115))] (@hid _ ⟨fun t116 => A.cond (!t116) (@hid _ ⟨K [(.b false)] h86⟩) (@hid _ ⟨A.cmp .eql n34 1 (@hid _ ⟨fun t117 => A.call 42 [(.i n14), (.i n16), (.i n18)] h86 (@hid _ ⟨fun l118 h119 => A.unI l118 (@hid _ ⟨fun n120 l121 => A.un0 l121 (@hid _ ⟨A.cmp .eql n120 0 (@hid _ ⟨fun t122 => A.eqs [((.b t117), (.b t122))] (@hid _ ⟨fun t123 => A.cond (!t123) (@hid _ ⟨K [(.b false)] h119⟩) (@hid _ ⟨A.cmp .neq n34 0 (@hid _ ⟨fun t124 => A.cond t124 (@hid _ ⟨A.cmp .neq n34 1 (@hid _ ⟨fun t125 => A.cond t125 (@hid _ ⟨A.cmp .neq n34 7 (@hid _ ⟨fun t126 => A.cond t126 (@hid _ ⟨K [(.b false)] h119⟩) (@hid _ ⟨A.conv .i64 n12 (@hid _ ⟨fun n127 => A.call 49 [(.i n6), (.i n8), (.i n10), (.i n127)] h119 (@hid _ ⟨fun l128 h129 => A.unI l128 (@hid _ ⟨fun n130 l131 => A.unI l131 (@hid _ ⟨fun n132 l133 => A.unI l133 (@hid _ ⟨fun n134 l135 => A.un0 l135 (@hid _ ⟨A.call 42 [(.i n130), (.i n132), (.i n134)] h129 (@hid _ ⟨fun l136 h137 => A.unI l136 (@hid _ ⟨fun n138 l139 => A.un0 l139 (@hid _ ⟨A.cmp .eql n138 0 (@hid _ ⟨fun t140 => A.cond t140 (@hid _ ⟨A.join (@hid _ ⟨fun l141 h142 => A.unB l141 (@hid _ ⟨fun t143 l144 => A.un0 l144 (@hid _ ⟨K [(.b t143)] h142⟩)⟩)⟩) (@hid _ ⟨fun j145 => A.cmp .eql n28 3 (@hid _ ⟨fun t146 => A.cond t146 (@hid _ ⟨A.eqs [((.i n22), (.i 0)), ((.i n24), (.i 0)), ((.i n26), (.i 0))] (@hid _ ⟨fun t147 => A.cond t147 (@hid _ ⟨A.call 44 [] h137 (@hid _ ⟨fun l148 h149 => A.unB l148 (@hid _ ⟨fun t150 l151 => A.un0 l151 (@hid _ ⟨j145 [(.b t150)] h149⟩)⟩)⟩)⟩) (@hid _ ⟨j145 [(.b false)] h137⟩)⟩)⟩) (@hid _ ⟨j145 [(.b false)] h137⟩)⟩)⟩)⟩) (@hid _ ⟨A.call 47 [(.i n22), (.i n24), (.i n26), (.i n12)] h137 (@hid _ ⟨fun l152 h153 => A.unI l152 (@hid _ ⟨fun n154 l155 => A.unI l155 (@hid _ ⟨fun n156 l157 => A.unI l157 (@hid _ ⟨fun n158 l159 => A.unI l159 (@hid _ ⟨fun n160 l161 => A.un0 l161 (@hid _ ⟨A.call 48 [(.i n6), (.i n8), (.i n10), (.i n22), (.i n24), (.i n26)] h153 (@hid _ ⟨fun l162 h163 => A.unI l162 (@hid _ ⟨fun n164 l165 => A.unI l165 (@hid _ ⟨fun n166 l167 => A.un0 l167 (@hid _ ⟨A.cmp .neq n28 0 (@hid _ ⟨fun t168 => A.cond t168 (@hid _ ⟨K [(.b false)] h163⟩) (@hid _ ⟨A.eqs [((.i n22), (.i n130)), ((.i n24), (.i n132)), ((.i n26), (.i n134))] (@hid _ ⟨fun t169 => A.cond (!t169) (@hid _ ⟨K [(.b false)] h163⟩) (@hid _ ⟨A.cmp .neq n160 0 (@hid _ ⟨fun t170 => A.cond t170 (@hid _ ⟨K [(.b false)] h163⟩) (@hid _ ⟨A.eqs [((.i n154), (.i n6)), ((.i n156), (.i n8)), ((.i n158), (.i n10))] (@hid _ ⟨fun t171 => A.cond (!t171) (@hid _ ⟨K [(.b false)] h163⟩) (@hid _ ⟨A.cmp .neq n166 0 (@hid _ ⟨fun t172 => A.cond t172 (@hid _ ⟨K [(.b false)] h163⟩) (@hid _ ⟨A.cmp .neq n164 n12 (@hid _ ⟨fun t173 => A.cond t173 (@hid _ ⟨K [(.b false)] h163⟩) (@hid _ ⟨A.conv .i64 n12 (@hid _ ⟨fun n174 => A.call 31 [(.i n6), (.i n8), (.i n10), (.i n174)] h163 (@hid _ ⟨fun l175 h176 => A.unI l175 (@hid _ ⟨fun n177 l178 => A.unI l178 (@hid _ ⟨fun n179 l180 => A.un0 l180 (@hid _ ⟨A.call 46 [(.i n177), (.i n179)] h176 (@hid _ ⟨fun l181 h182 => A.unI l181 (@hid _ ⟨fun n183 l184 => A.un0 l184 (@hid _ ⟨A.cmp .eql n183 0 (@hid _ ⟨fun t185 => A.cond t185 (@hid _ ⟨A.call 44 [] h182 (@hid _ ⟨fun l186 h187 => A.unB l186 (@hid _ ⟨fun t188 l189 => A.un0 l189 (@hid _ ⟨K [(.b t188)] h187⟩)⟩)⟩)⟩) (@hid _ ⟨A.call 50 [(.i n177), (.i n179), (.i n6), (.i n8), (.i n10)] h182 (@hid _ ⟨fun l190 h191 => A.unI l190 (@hid _ ⟨fun n192 l193 => A.unI l193 (@hid _ ⟨fun n194 l195 => A.un0 l195 (@hid _ ⟨A.call 50 [(.i n177), (.i n179), (.i n22), (.i n24), (.i n26)] h191 (@hid _ ⟨fun l196 h197 => A.unI l196 (@hid _ ⟨fun n198 l199 => A.unI l199 (@hid _ ⟨fun n200 l201 => A.un0 l201 (@hid _ ⟨A.join (@hid _ ⟨fun l202 h203 => A.unB l202 (@hid _ ⟨fun t204 l205 => A.un0 l205 (@hid _ ⟨K [(.b t204)] h203⟩)⟩)⟩) (@hid _ ⟨fun j206 => A.cmp .eql n194 0 (@hid _ ⟨fun t207 => A.cond t207 (@hid _ ⟨A.cmp .eql n200 0 (@hid _ ⟨fun t208 => A.cond t208 (@hid _ ⟨A.ari .add .i64 n192 n198 (@hid _ ⟨fun n209 => A.cmp .eql n209 1 (@hid _ ⟨fun t210 => A.cond t210 (@hid _ ⟨A.call 44 [] h197 (@hid _ ⟨fun l211 h212 => A.unB l211 (@hid _ ⟨fun t213 l214 => A.un0 l214 (@hid _ ⟨j206 [(.b t213)] h212⟩)⟩)⟩)⟩) (@hid _ ⟨j206 [(.b false)] h197⟩)⟩)⟩)⟩) (@hid _ ⟨j206 [(.b false)] h197⟩)⟩)⟩) (@hid _ ⟨j206 [(.b false)] h197⟩)⟩)⟩)⟩)⟩)⟩)⟩)⟩)⟩)⟩)⟩)⟩)⟩)⟩)⟩)⟩)⟩)⟩)⟩)⟩)⟩)⟩)⟩)⟩)⟩)⟩)⟩)⟩)⟩)⟩)⟩)⟩)⟩)⟩)⟩)⟩)⟩)⟩)⟩)⟩)⟩)⟩)⟩)⟩)⟩)⟩)⟩)⟩)⟩)⟩)⟩)⟩)⟩)⟩)⟩)⟩)⟩) (@hid _ ⟨A.conv .i64 n12 (@hid _ ⟨fun n215 => A.call 49 [(.i n6), (.i n8), (.i n10), (.i n215)] h119 (@hid _ ⟨fun l216 h217 => A.unI l216 (@hid _ ⟨fun n218 l219 => A.unI l219 (@hid _ ⟨fun n220 l221 => A.unI l221 (@hid _ ⟨fun n222 l223 => A.un0 l223 (@hid _ ⟨A.call 42 [(.i n218), (.i n220), (.i n222)] h217 (@hid _ ⟨fun l224 h225 => A.unI l224 (@hid _ ⟨fun n226 l227 => A.un0 l227 (@hid _ ⟨A.cmp .eql n226 0 (@hid _ ⟨fun t228 => A.cond t228 (@hid _ ⟨A.join (@hid _ ⟨fun l229 h230 => A.unB l229 (@hid _ ⟨fun t231 l232 => A.un0 l232 (@hid _ ⟨K [(.b t231)] h230⟩)⟩)⟩) (@hid _ ⟨fun j233 => A.cmp .eql n28 3 (@hid _ ⟨fun t234 => A.cond t234 (@hid _ ⟨A.eqs [((.i n22), (.i 0)), ((.i n24), (.i 0)), ((.i n26), (.i 0))] (@hid _ ⟨fun t235 => A.cond t235 (@hid _ ⟨A.call 44 [] h225 (@hid _ ⟨fun l236 h237 => A.unB l236 (@hid _ ⟨fun t238 l239 => A.un0 l239 (@hid _ ⟨j233 [(.b t238)] h237⟩)⟩)⟩)⟩) (@hid _ ⟨j233 [(.b false)] h225⟩)⟩)⟩) (@hid _ ⟨j233 [(.b false)] h225⟩)⟩)⟩)⟩) (@hid _ ⟨A.call 47 [(.i n22), (.i n24), (.i n26), (.i n12)] h225 (@hid _ ⟨fun l240 h241 => A.unI l240 (@hid _ ⟨fun n242 l243 => A.unI l243 (@hid _ ⟨fun n244 l245 => A.unI l245 (@hid _ ⟨fun n246 l247 => A.unI l247 (@hid _ ⟨fun n248 l249 => A.un0 l249 (@hid _ ⟨A.call 48 [(.i n6), (.i n8), (.i n10), (.i n22), (.i n24), (.i n26)] h241 (@hid _ ⟨fun l250 h251 => A.unI l250 (@hid _ ⟨fun n252 l253 => A.unI l253 (@hid _ ⟨fun n254 l255 => A.un0 l255 (@hid _ ⟨A.cmp .neq n28 0 (@hid _ ⟨fun t256 => A.cond t256 (@hid _ ⟨K [(.b false)] h251⟩) (@hid _ ⟨A.eqs [((.i n22), (.i n218)), ((.i n24), (.i n220)), ((.i n26), (.i n222))] (@hid _ ⟨fun t257 => A.cond (!t257) (@hid _ ⟨K [(.b false)] h251⟩) (@hid _ ⟨A.cmp .neq n248 0 (@hid _ ⟨fun t258 => A.cond t258 (@hid _ ⟨K [(.b false)] h251⟩) (@hid _ ⟨A.eqs [((.i n242), (.i n6)), ((.i n244), (.i n8)), ((.i n246), (.i n10))] (@hid _ ⟨fun t259 => A.cond (!t259) (@hid _ ⟨K [(.b false)] h251⟩) (@hid _ ⟨A.cmp .neq n254 0 (@hid _ ⟨fun t260 => A.cond t260 (@hid _ ⟨K [(.b false)] h251⟩) (@hid _ ⟨A.cmp .neq n252 n12 (@hid _ ⟨fun t261 => A.cond t261 (@hid _ ⟨K [(.b false)] h251⟩) (@hid _ ⟨A.conv .i64 n12 (@hid _ ⟨fun n262 => A.call 31 [(.i n6), (.i n8), (.i n10), (.i n262)] h251 (@hid _ ⟨fun l263 h264 => A.unI l263 (@hid _ ⟨fun n265 l266 => A.unI l266 (@hid _ ⟨fun n267 l268 => A.un0 l268 (@hid _ ⟨A.call 46 [(.i n265), (.i n267)] h264 (@hid _ ⟨fun l269 h270 => A.unI l269 (@hid _ ⟨fun n271 l272 => A.un0 l272 (@hid _ ⟨A.cmp .eql n271 0 (@hid _ ⟨fun t273 => A.cond t273 (@hid _ ⟨A.call 44 [] h270 (@hid _ ⟨fun l274 h275 => A.unB l274 (@hid _ ⟨fun t276 l277 => A.un0 l277 (@hid _ ⟨K [(.b t276)] h275⟩)⟩)⟩)⟩) (@hid _ ⟨A.call 50 [(.i n265), (.i n267), (.i n6), (.i n8), (.i n10)] h270 (@hid _ ⟨fun l278 h279 => A.unI l278 (@hid _ ⟨fun n280 l281 => A.unI l281 (@hid _ ⟨fun n282 l283 => A.un0 l283 (@hid _ ⟨A.call 50 [(.i n265), (.i n267), (.i n22), (.i n24), (.i n26)] h279 (@hid _ ⟨fun l284 h285 => A.unI l284 (@hid _ ⟨fun n286 l287 => A.unI l287 (@hid _ ⟨fun n288 l289 => A.un0 l289 (@hid _ ⟨A.join (@hid _ ⟨fun l290 h291 => A.unB l290 (@hid _ ⟨fun t292 l293 => A.un0 l293 (@hid _ ⟨K [(.b t292)] h291⟩)⟩)⟩) (@hid _ ⟨fun j294 => A.cmp .eql n282 0 (@hid _ ⟨fun t295 => A.cond t295 (@hid _ ⟨A.cmp .eql n288 0 (@hid _ ⟨fun t296 => A.cond t296 (@hid _ ⟨A.ari .add .i64 n280 n286 (@hid _ ⟨fun n297 => A.cmp .eql n297 1 (@hid _ ⟨fun t298 => A.cond t298 (@hid _ ⟨A.call 44 [] h285 (@hid _ ⟨fun l299 h300 => A.unB l299 (@hid _ ⟨fun t301 l302 => A.un0 l302 (@hid _ ⟨j294 [(.b t301)] h300⟩)⟩)⟩)⟩) (@hid _ ⟨j294 [(.b false)] h285⟩)⟩)⟩)⟩) (@hid _ ⟨j294 [(.b false)] h285⟩)⟩)⟩) (@hid _ ⟨j294 [(.b false)] h285⟩)⟩)⟩)⟩)⟩)⟩)⟩)⟩)⟩)⟩)⟩)⟩)⟩)⟩)⟩)⟩)⟩)⟩)⟩)⟩)⟩)⟩)⟩)⟩)⟩)⟩)⟩)⟩)⟩)⟩)⟩)⟩)⟩)⟩)⟩)⟩)⟩)⟩)⟩)⟩)⟩)⟩)⟩)⟩)⟩)⟩)⟩)⟩)⟩)⟩)⟩)⟩)⟩)⟩)⟩)⟩)⟩) (@hid _ ⟨A.conv .i64 n12 (@hid _ ⟨fun n303 => A.call 49 [(.i n6), (.i n8), (.i n10), (.i n303)] h119 (@hid _ ⟨fun l304 h305 => A.unI l304 (@hid _ ⟨fun n306 l307 => A.unI l307 (@hid _ ⟨fun n308 l309 => A.unI l309 (@hid _ ⟨fun n310 l311 => A.un0 l311 (@hid _ ⟨A.call 42 [(.i n306), (.i n308), (.i n310)] h305 (@hid _ ⟨fun l312 h313 => A.unI l312 (@hid _ ⟨fun n314 l315 => A.un0 l315 (@hid _ ⟨A.cmp .eql n314 0 (@hid _ ⟨fun t316 => A.cond t316 (@hid _ ⟨A.join (@hid _ ⟨fun l317 h318 => A.unB l317 (@hid _ ⟨fun t319 l320 => A.un0 l320 (@hid _ ⟨K [(.b t319)] h318⟩)⟩)⟩) (@hid _ ⟨fun j321 => A.cmp .eql n28 3 (@hid _ ⟨fun t322 => A.cond t322 (@hid _ ⟨A.eqs [((.i n22), (.i 0)), ((.i n24), (.i 0)), ((.i n26), (.i 0))] (@hid _ ⟨fun t323 => A.cond t323 (@hid _ ⟨A.call 44 [] h313 (@hid _ ⟨fun l324 h325 => A.unB l324 (@hid _ ⟨fun t326 l327 => A.un0 l327 (@hid _ ⟨j321 [(.b t326)] h325⟩)⟩)⟩)⟩) (@hid _ ⟨j321 [(.b false)] h313⟩)⟩)⟩) (@hid _ ⟨j321 [(.b false)] h313⟩)⟩)⟩)⟩) (@hid _ ⟨A.call 47 [(.i n22), (.i n24), (.i n26), (.i n12)] h313 (@hid _ ⟨fun l328 h329 => A.unI l328 (@hid _ ⟨fun n330 l331 => A.unI l331 (@hid _ ⟨fun n332 l333 => A.unI l333 (@hid _ ⟨fun n334 l335 => A.unI l335 (@hid _ ⟨fun n336 l337 => A.un0 l337 (@hid _ ⟨A.call 48 [(.i n6), (.i n8), (.i n10), (.i n22), (.i n24), (.i n26)] h329 (@hid _ ⟨fun l338 h339 => A.unI l338 (@hid _ ⟨fun n340 l341 => A.unI l341 (@hid _ ⟨fun n342 l343 => A.un0 l343 (@hid _ ⟨A.cmp .neq n28 0 (@hid _ ⟨fun t344 => A.cond t344 (@hid _ ⟨K [(.b false)] h339⟩) (@hid _ ⟨A.eqs [((.i n22), (.i n306)), ((.i n24), (.i n308)), ((.i n26), (.i n310))] (@hid _ ⟨fun t345 => A.cond (!t345) (@hid _ ⟨K [(.b false)] h339⟩) (@hid _ ⟨A.cmp .neq n336 0 (@hid _ ⟨fun t346 => A.cond t346 (@hid _ ⟨K [(.b false)] h339⟩) (@hid _ ⟨A.eqs [((.i n330), (.i n6)), ((.i n332), (.i n8)), ((.i n334), (.i n10))] (@hid _ ⟨fun t347 => A.cond (!t347) (@hid _ ⟨K [(.b false)] h339⟩) (@hid _ ⟨A.cmp .neq n342 0 (@hid _ ⟨fun t348 => A.cond t348 (@hid _ ⟨K [(.b false)] h339⟩) (@hid _ ⟨A.cmp .neq n340 n12 (@hid _ ⟨fun t349 => A.cond t349 (@hid _ ⟨K [(.b false)] h339⟩) (@hid _ ⟨A.conv .i64 n12 (@hid _ ⟨fun n350 => A.call 31 [(.i n6), (.i n8), (.i n10), (.i n350)] h339 (@hid _ ⟨fun l351 h352 => A.unI l351 (@hid _ ⟨fun n353 l354 => A.unI l354 (@hid _ ⟨fun n355 l356 => A.un0 l356 (@hid _ ⟨A.call 46 [(.i n353), (.i n355)] h352 (@hid _ ⟨fun l357 h358 => A.unI l357 (@hid _ ⟨fun n359 l360 => A.un0 l360 (@hid _ ⟨A.cmp .eql n359 0 (@hid _ ⟨fun t361 => A.cond t361 (@hid _ ⟨A.call 44 [] h358 (@hid _ ⟨fun l362 h363 => A.unB l362 (@hid _ ⟨fun t364 l365 => A.un0 l365 (@hid _ ⟨K [(.b t364)] h363⟩)⟩)⟩)⟩) (@hid _ ⟨A.call 50 [(.i n353), (.i n355), (.i n6), (.i n8), (.i n10)] h358 (@hid _ ⟨fun l366 h367 => A.unI l366 (@hid _ ⟨fun n368 l369 => A.unI l369 (@hid _ ⟨fun n370 l371 => A.un0 l371 (@hid _ ⟨A.call 50 [(.i n353), (.i n355), (.i n22), (.i n24), (.i n26)] h367 (@hid _ ⟨fun l372 h373 => A.unI l372 (@hid _ ⟨fun n374 l375 => A.unI l375 (@hid _ ⟨fun n376 l377 => A.un0 l377 (@hid _ ⟨A.join (@hid _ ⟨fun l378 h379 => A.unB l378 (@hid _ ⟨fun t380 l381 => A.un0 l381 (@hid _ ⟨K [(.b t380)] h379⟩)⟩)⟩) (@hid _ ⟨fun j382 => A.cmp .eql n370 0 (@hid _ ⟨fun t383 => A.cond t383 (@hid _ ⟨A.cmp .eql n376 0 (@hid _ ⟨fun t384 => A.cond t384 (@hid _ ⟨A.ari .add .i64 n368 n374 (@hid _ ⟨fun n385 => A.cmp .eql n385 1 (@hid _ ⟨fun t386 => A.cond t386 (@hid _ ⟨A.call 44 [] h373 (@hid _ ⟨fun l387 h388 => A.unB l387 (@hid _ ⟨fun t389 l390 => A.un0 l390 (@hid _ ⟨j382 [(.b t389)] h388⟩)⟩)⟩)⟩) (@hid _ ⟨j382 [(.b false)] h373⟩)⟩)⟩)⟩) (@hid _ ⟨j382 [(.b false)] h373⟩)⟩)⟩) (@hid _ ⟨j382 [(.b false)] h373⟩)⟩)⟩)⟩)⟩)⟩)⟩)⟩)⟩)⟩)⟩)⟩)⟩)⟩)⟩)⟩)⟩)⟩)⟩)⟩)⟩)⟩)⟩)⟩)⟩)⟩)⟩)⟩)⟩)⟩)⟩)⟩)⟩)⟩)⟩)⟩)⟩)⟩)⟩)⟩)⟩)⟩)⟩)⟩)⟩)⟩)⟩)⟩)⟩)⟩)⟩)⟩)⟩)⟩)⟩)⟩)⟩)⟩)⟩)⟩)⟩)⟩)⟩)⟩)⟩)⟩)⟩)⟩)⟩)⟩)⟩)⟩)⟩) [(.i 0), (.i 0)] h37⟩)⟩)⟩)⟩)⟩)⟩)⟩)⟩)⟩)⟩)⟩)⟩)⟩)⟩)⟩)⟩)⟩)⟩)⟩)⟩)⟩)⟩)⟩)⟩)⟩)
theorem g10 : (fun A : Alg Prop (List HObj) => p10 A) = fun A => f10 A := by kernel_rfl
theorem h10 (ls : List Lf) (H : List HObj) (K : List Lf → List HObj → Prop) : p10 P1 ls H K = execF P1 (xc 10) sgTab drN n10 ls H K :=
  congrFun (congrFun (congrFun ((congrFun g10 P1).trans (congrFun (congrFun (congrFun e10 Prop) (List HObj)) P1)) ls) H) K
theorem u10 {ls : List Lf} {H : List HObj} {K : List Lf → List HObj → Prop} (hls : goodLs ls = true) (h : p10 P1 ls H K) : ∃ rs H', CallL cc sgTab 10 ls H rs H' ∧ K rs H' :=
  fn_ok i10 hls (h10 ls H K ▸ h)
theorem q10 {ls rs : List Lf} (hls : goodLs ls = true) (h : p10 P1 ls [] fun rs' _ => rs' = rs) : Cc 10 ls rs := by
  obtain ⟨_, _, h1, rfl⟩ := u10 hls h
  exact ct_of mixed gl_flat (sg := ⟨[.agg [.i .i64, .i .i64, .i .u8], .leaf (.i .u8), .agg [.i .i64, .i .i64, .i .u8]], [lb]⟩) rfl (by kernel_rfl) h1
/-- crimp/crimpref01.Far -/
def p28 (A : Alg Prop (List HObj)) (ls : List Lf) (h : List HObj) (K : List Lf → List HObj → Prop) : Prop := A.unI ls (@hid _ ⟨fun n6 l7 => A.unI l7 (@hid _ ⟨fun n8 l9 => A.unI l9 (@hid _ ⟨fun n10 l11 => A.unI l11 (@hid _ ⟨fun n12 l13 => A.un0 l13 (@hid _ ⟨A.call 70 [(.i n6)] h (@hid _ ⟨fun l14 h15 => A.unI l14 (@hid _ ⟨fun n16 l17 => A.unI l17 (@hid _ ⟨fun n18 l19 => A.un0 l19 (@hid _ ⟨A.ari .mul .i64 n16 n10 (@hid _ ⟨fun n20 => A.ari .mul .i64 n18 n12 (@hid _ ⟨fun n21 => A.ari .add .i64 n20 n21 (@hid _ ⟨fun n22 => A.ari .mul .i64 2 n8 (@hid _ ⟨fun n23 => A.ari .sub .i64 n22 n23 (@hid _ ⟨fun n24 => K [(.i n24)] h15⟩)⟩)⟩)⟩)⟩)⟩)⟩)⟩)⟩)⟩)⟩)⟩)⟩)⟩)
theorem g28 : (fun A : Alg Prop (List HObj) => p28 A) = fun A => f28 A := by kernel_rfl
theorem h28 (ls : List Lf) (H : List HObj) (K : List Lf → List HObj → Prop) : p28 P1 ls H K = execF P1 (xc 28) sgTab drN n28 ls H K :=
  congrFun (congrFun (congrFun ((congrFun g28 P1).trans (congrFun (congrFun (congrFun e28 Prop) (List HObj)) P1)) ls) H) K
theorem u28 {ls : List Lf} {H : List HObj} {K : List Lf → List HObj → Prop} (hls : goodLs ls = true) (h : p28 P1 ls H K) : ∃ rs H', CallL cc sgTab 28 ls H rs H' ∧ K rs H' :=
  fn_ok i28 hls (h28 ls H K ▸ h)
theorem q28 {ls rs : List Lf} (hls : goodLs ls = true) (h : p28 P1 ls [] fun rs' _ => rs' = rs) : Cc 28 ls rs := by
  obtain ⟨_, _, h1, rfl⟩ := u28 hls h
  exact ct_of mixed gl_flat (sg := ⟨[.agg [.i .u8, .i .i64], .agg [.i .i64, .i .i64]], [li]⟩) rfl (by kernel_rfl) h1
/-- crimp/crimpref03.Line -/
def p31 (A : Alg Prop (List HObj)) (ls : List Lf) (h : List HObj) (K : List Lf → List HObj → Prop) : Prop := A.unI ls (@hid _ ⟨fun n6 l7 => A.unI l7 (@hid _ ⟨fun n8 l9 => A.unI l9 (@hid _ ⟨fun n10 l11 => A.unI l11 (@hid _ ⟨fun n12 l13 => A.un0 l13 (@hid _ ⟨A.call 45 [(.i n6), (.i n8), (.i n10)] h (@hid _ ⟨fun l14 h15 => A.unI l14 (@hid _ ⟨fun n16 l17 => A.unI l17 (@hid _ ⟨fun n18 l19 => A.unI l19 (@hid _ ⟨fun n20 l21 => A.unI l21 (@hid _ ⟨fun n22 l23 => A.unI l23 (@hid _ ⟨fun n24 l25 => A.unI l25 (@hid _ ⟨fun n26 l27 => A.un0 l27 (@hid _ ⟨A.ari .add .i64 n12 1 (@hid _ ⟨fun n28 => A.ari .rem .i64 n28 3 (@hid _ ⟨fun n29 => A.opt (inB 3 n29) (@hid _ ⟨fun x30 => A.opt (pickL [(.i n16), (.i n18), (.i n20), (.i n22), (.i n24), (.i n26)] 0 [(n29, 2)] 2) (@hid _ ⟨fun x31 => A.unI x31 (@hid _ ⟨fun n32 l33 => A.unI l33 (@hid _ ⟨fun n34 l35 => A.un0 l35 (@hid _ ⟨A.ari .add .i64 n12 2 (@hid _ ⟨fun n36 => A.ari .rem .i64 n36 3 (@hid _ ⟨fun n37 => A.opt (inB 3 n37) (@hid _ ⟨fun x38 => A.opt (pickL [(.i n16), (.i n18), (.i n20), (.i n22), (.i n24), (.i n26)] 0 [(n37, 2)] 2) (@hid _ ⟨fun x39 => A.unI x39 (@hid _ ⟨fun n40 l41 => A.unI l41 (@hid _ ⟨fun n42 l43 => A.un0 l43 (@hid _ ⟨A.loop (@hid _ ⟨fun s44 l45 h46 => A.unI l45 (@hid _ ⟨fun n47 l48 => A.unI l48 (@hid _ ⟨fun n49 l50 => A.unI l50 (@hid _ ⟨fun n51 l52 => A.un0 l52 (@hid _ ⟨A.cmp .leq n47 4 (@hid _ ⟨fun t53 => A.cond t53 (@hid _ ⟨A.call 70 [(.i n47)] h46 (@hid _ ⟨fun l54 h55 => A.unI l54 (@hid _ ⟨fun n56 l57 => A.unI l57 (@hid _ ⟨fun n58 l59 => A.un0 l59 (@hid _ ⟨A.ari .mul .i64 n56 n32 (@hid _ ⟨fun n60 => A.ari .mul .i64 n58 n34 (@hid _ ⟨fun n61 => A.ari .add .i64 n60 n61 (@hid _ ⟨fun n62 => A.ari .mul .i64 n56 n40 (@hid _ ⟨fun n63 => A.ari .mul .i64 n58 n42 (@hid _ ⟨fun n64 => A.ari .add .i64 n63 n64 (@hid _ ⟨fun n65 => A.cmp .eql n62 n65 (@hid _ ⟨fun t66 => A.join (@hid _ ⟨fun l67 h68 => A.unI l67 (@hid _ ⟨fun n69 l70 => A.unI l70 (@hid _ ⟨fun n71 l72 => A.un0 l72 (@hid _ ⟨A.ari .add .u8 n47 1 (@hid _ ⟨fun n73 => s44 [(.i n73), (.i n69), (.i n71)] h68⟩)⟩)⟩)⟩)⟩) (@hid _ ⟨fun j74 => A.cond t66 (@hid _ ⟨A.ari .mul .i64 n56 n32 (@hid _ ⟨fun n75 => A.ari .mul .i64 n58 n34 (@hid _ ⟨fun n76 => A.ari .add .i64 n75 n76 (@hid _ ⟨fun n77 => A.ari .quo .i64 n77 2 (@hid _ ⟨fun n78 => j74 [(.i n47), (.i n78)] h55⟩)⟩)⟩)⟩)⟩) (@hid _ ⟨j74 [(.i n49), (.i n51)] h55⟩)⟩)⟩)⟩)⟩)⟩)⟩)⟩)⟩)⟩)⟩)⟩)⟩)⟩) (@hid _ ⟨K [(.i n49), (.i n51)] h46⟩)⟩)⟩)⟩)⟩)⟩)⟩) [(.i 1), (.i 0), (.i 0)] h15⟩)⟩)⟩)⟩)⟩)⟩)⟩)⟩)⟩)⟩)⟩)⟩)⟩)⟩)⟩)⟩)⟩)⟩)⟩)⟩)⟩)⟩)⟩)⟩)⟩)⟩)⟩)
theorem g31 : (fun A : Alg Prop (List HObj) => p31 A) = fun A => f31 A := by kernel_rfl
theorem h31 (ls : List Lf) (H : List HObj) (K : List Lf → List HObj → Prop) : p31 P1 ls H K = execF P1 (xc 31) sgTab drN n31 ls H K :=
  congrFun (congrFun (congrFun ((congrFun g31 P1).trans (congrFun (congrFun (congrFun e31 Prop) (List HObj)) P1)) ls) H) K
theorem u31 {ls : List Lf} {H : List HObj} {K : List Lf → List HObj → Prop} (hls : goodLs ls = true) (h : p31 P1 ls H K) : ∃ rs H', CallL cc sgTab 31 ls H rs H' ∧ K rs H' :=
  fn_ok i31 hls (h31 ls H K ▸ h)
theorem q31 {ls rs : List Lf} (hls : goodLs ls = true) (h : p31 P1 ls [] fun rs' _ => rs' = rs) : Cc 31 ls rs := by
  obtain ⟨_, _, h1, rfl⟩ := u31 hls h
  exact ct_of mixed gl_flat (sg := ⟨[.agg [.i .i64, .i .i64, .i .u8], li], [.agg [.i .u8, .i .i64]]⟩) rfl (by kernel_rfl) h1
/-- crimp/cells.Corners -/
def p41 (A : Alg Prop (List HObj)) (ls : List Lf) (h : List HObj) (K : List Lf → List HObj → Prop) : Prop := A.unI ls (@hid _ ⟨fun n6 l7 => A.unI l7 (@hid _ ⟨fun n8 l9 => A.unI l9 (@hid _ ⟨fun n10 l11 => A.un0 l11 (@hid _ ⟨A.call 43 [(.i n6), (.i n8), (.i n10)] h (@hid _ ⟨fun l12 h13 => A.unI l12 (@hid _ ⟨fun n14 l15 => A.un0 l15 (@hid _ ⟨A.cmp .neq n14 0 (@hid _ ⟨fun t16 => A.cond t16 (@hid _ ⟨K [(.i 0), (.i 0), (.i 0), (.i 0), (.i 0), (.i 0), (.i 1)] h13⟩) (@hid _ ⟨A.opt (inB 4 n10) (@hid _ ⟨fun x17 => A.opt (pickV gl0 0 [(n10, 17)] 17) (@hid _ ⟨fun x18 => A.ucI .i64 x18 (@hid _ ⟨fun n19 l20 => A.ucI .i64 l20 (@hid _ ⟨fun n21 l22 => A.ucI .u8 l22 (@hid _ ⟨fun n23 l24 => A.ucI .i64 l24 (@hid _ ⟨fun n25 l26 => A.ucI .i64 l26 (@hid _ ⟨fun n27 l28 => A.ucI .i64 l28 (@hid _ ⟨fun n29 l30 => A.ucI .u8 l30 (@hid _ ⟨fun n31 l32 => A.ucI .i64 l32 (@hid _ ⟨fun n33 l34 => A.ucI .i64 l34 (@hid _ ⟨fun n35 l36 => A.ucI .u8 l36 (@hid _ ⟨fun n37 l38 => A.ucI .i64 l38 (@hid _ ⟨fun n39 l40 => A.ucI .i64 l40 (@hid _ ⟨fun n41 l42 => A.ucI .u8 l42 (@hid _ ⟨fun n43 l44 => A.ucI .i64 l44 (@hid _ ⟨fun n45 l46 => A.ucI .i64 l46 (@hid _ ⟨fun n47 l48 => A.ucI .i64 l48 (@hid _ ⟨fun n49 l50 => A.ucI .i64 l50 (@hid _ ⟨fun n51 l52 => A.uc0 l52 (@hid _ ⟨A.loop (@hid _ ⟨fun s53 l54 h55 => A.unI l54 (@hid _ ⟨fun n56 l57 => A.unI l57 (@hid _ ⟨fun n58 l59 => A.unI l59 (@hid _ ⟨fun n60 l61 => A.unI l61 (@hid _ ⟨fun n62 l63 => A.unI l63 (@hid _ ⟨fun n64 l65 => A.unI l65 (@hid _ ⟨fun n66 l67 => A.unI l67 (@hid _ ⟨fun n68 l69 => A.un0 l69 (@hid _ ⟨A.cmp .lss n56 3 (@hid _ ⟨fun t70 => A.cond t70 (@hid _ ⟨A.opt (inB 3 n56) (@hid _ ⟨fun x71 => A.opt (pickL [(.i n58), (.i n60), (.i n62), (.i n64), (.i n66), (.i n68)] 0 [(n56, 2)] 1) (@hid _ ⟨fun x72 => A.unI x72 (@hid _ ⟨fun n73 l74 => A.un0 l74 (@hid _ ⟨A.ari .mul .i64 2 n6 (@hid _ ⟨fun n75 => A.ari .add .i64 n73 n75 (@hid _ ⟨fun n76 => A.opt (inB 3 n56) (@hid _ ⟨fun x77 => A.opt (putL [(.i n58), (.i n60), (.i n62), (.i n64), (.i n66), (.i n68)] 0 [(n56, 2)] [(.i n76)]) (@hid _ ⟨fun x78 => A.unI x78 (@hid _ ⟨fun n79 l80 => A.unI l80 (@hid _ ⟨fun n81 l82 => A.unI l82 (@hid _ ⟨fun n83 l84 => A.unI l84 (@hid _ ⟨fun n85 l86 => A.unI l86 (@hid _ ⟨fun n87 l88 => A.unI l88 (@hid _ ⟨fun n89 l90 => A.un0 l90 (@hid _ ⟨A.opt (inB 3 n56) (@hid _ ⟨fun x91 => A.opt (pickL [(.i n79), (.i n81), (.i n83), (.i n85), (.i n87), (.i n89)] 1 [(n56, 2)] 1) (@hid _ ⟨fun x92 => A.unI x92 (@hid _ ⟨fun n93 l94 => A.un0 l94 (@hid _ ⟨A.ari .mul .i64 2 n8 (@hid _ ⟨fun n95 => A.ari .add .i64 n93 n95 (@hid _ ⟨fun n96 => A.opt (inB 3 n56) (@hid _ ⟨fun x97 => A.opt (putL [(.i n79), (.i n81), (.i n83), (.i n85), (.i n87), (.i n89)] 1 [(n56, 2)] [(.i n96)]) (@hid _ ⟨fun x98 => A.unI x98 (@hid _ ⟨fun n99 l100 => A.unI l100 (@hid _ ⟨fun n101 l102 => A.unI l102 (@hid _ ⟨fun n103 l104 => A.unI l104 (@hid _ ⟨fun n105 l106 => A.unI l106 (@hid _ ⟨fun n107 l108 => A.unI l108 (@hid _ ⟨fun n109 l110 => A.un0 l110 (@hid _ ⟨A.ari .add .i64 n56 1 (@hid _ ⟨fun n111 => s53 [(.i n111), (.i n99), (.i n101), (.i n103), (.i n105), (.i n107), (.i n109)] h55⟩)⟩)⟩)⟩)⟩)⟩)⟩)⟩)⟩)⟩)⟩)⟩)⟩)⟩)⟩)⟩)⟩)⟩)⟩)⟩)⟩)⟩)⟩)⟩)⟩)⟩)⟩)⟩)⟩)⟩)⟩)⟩) (@hid _ ⟨K [(.i n58), (.i n60), (.i n62), (.i n64), (.i n66), (.i n68), (.i 0)] h55⟩)⟩)⟩)⟩)⟩)⟩)⟩)⟩)⟩)⟩)⟩) [(.i 0), (.i 1), (.i 1), (.i n45), (.i n47), (.i n49), (.i n51)] h13⟩)⟩)⟩)⟩)⟩)⟩)⟩)⟩)⟩)⟩)⟩)⟩)⟩)⟩)⟩)⟩)⟩)⟩)⟩)⟩)⟩)⟩)⟩)⟩)⟩)⟩)⟩)⟩)⟩)
theorem g41 : (fun A : Alg Prop (List HObj) => p41 A) = fun A => f41 A := by kernel_rfl
theorem h41 (ls : List Lf) (H : List HObj) (K : List Lf → List HObj → Prop) : p41 P1 ls H K = execF P1 (xc 41) sgTab drN n41 ls H K :=
  congrFun (congrFun (congrFun ((congrFun g41 P1).trans (congrFun (congrFun (congrFun e41 Prop) (List HObj)) P1)) ls) H) K
theorem u41 {ls : List Lf} {H : List HObj} {K : List Lf → List HObj → Prop} (hls : goodLs ls = true) (h : p41 P1 ls H K) : ∃ rs H', CallL cc sgTab 41 ls H rs H' ∧ K rs H' :=
  fn_ok i41 hls (h41 ls H K ▸ h)
theorem q41 {ls rs : List Lf} (hls : goodLs ls = true) (h : p41 P1 ls [] fun rs' _ => rs' = rs) : Cc 41 ls rs := by
  obtain ⟨_, _, h1, rfl⟩ := u41 hls h
  exact ct_of mixed gl_flat (sg := ⟨[.agg [.i .i64, .i .i64, .i .u8]], [.agg [.i .i64, .i .i64, .i .i64, .i .i64, .i .i64, .i .i64], li]⟩) rfl (by kernel_rfl) h1
/-- crimp/crimpref03.Valid -/
def p42 (A : Alg Prop (List HObj)) (ls : List Lf) (h : List HObj) (K : List Lf → List HObj → Prop) : Prop := A.unI ls (@hid _ ⟨fun n6 l7 => A.unI l7 (@hid _ ⟨fun n8 l9 => A.unI l9 (@hid _ ⟨fun n10 l11 => A.un0 l11 (@hid _ ⟨A.cmp .lss n6 (-4096) (@hid _ ⟨fun t12 => A.cond t12 (@hid _ ⟨K [(.i 0)] h⟩) (@hid _ ⟨A.cmp .gtr n6 4096 (@hid _ ⟨fun t13 => A.cond t13 (@hid _ ⟨K [(.i 0)] h⟩) (@hid _ ⟨A.cmp .lss n8 (-4096) (@hid _ ⟨fun t14 => A.cond t14 (@hid _ ⟨K [(.i 0)] h⟩) (@hid _ ⟨A.cmp .gtr n8 4096 (@hid _ ⟨fun t15 => A.cond t15 (@hid _ ⟨K [(.i 0)] h⟩) (@hid _ ⟨A.cmp .gtr n10 3 (@hid _ ⟨fun t16 => A.cond t16 (@hid _ ⟨K [(.i 0)] h⟩) (@hid _ ⟨K [(.i 1)] h⟩)⟩)⟩)⟩)⟩)⟩)⟩)⟩)⟩)⟩)⟩)⟩)⟩)⟩)
theorem g42 : (fun A : Alg Prop (List HObj) => p42 A) = fun A => f42 A := by kernel_rfl
theorem h42 (ls : List Lf) (H : List HObj) (K : List Lf → List HObj → Prop) : p42 P1 ls H K = execF P1 (xc 42) sgTab drN n42 ls H K :=
  congrFun (congrFun (congrFun ((congrFun g42 P1).trans (congrFun (congrFun (congrFun e42 Prop) (List HObj)) P1)) ls) H) K
theorem u42 {ls : List Lf} {H : List HObj} {K : List Lf → List HObj → Prop} (hls : goodLs ls = true) (h : p42 P1 ls H K) : ∃ rs H', CallL cc sgTab 42 ls H rs H' ∧ K rs H' :=
  fn_ok i42 hls (h42 ls H K ▸ h)
theorem q42 {ls rs : List Lf} (hls : goodLs ls = true) (h : p42 P1 ls [] fun rs' _ => rs' = rs) : Cc 42 ls rs := by
  obtain ⟨_, _, h1, rfl⟩ := u42 hls h
  exact ct_of mixed gl_flat (sg := ⟨[.agg [.i .i64, .i .i64, .i .u8]], [li]⟩) rfl (by kernel_rfl) h1
/-- crimp/cells.Check -/
def p43 (A : Alg Prop (List HObj)) (ls : List Lf) (h : List HObj) (K : List Lf → List HObj → Prop) : Prop := A.unI ls (@hid _ ⟨fun n6 l7 => A.unI l7 (@hid _ ⟨fun n8 l9 => A.unI l9 (@hid _ ⟨fun n10 l11 => A.un0 l11 (@hid _ ⟨A.cmp .lss n6 (-4096) (@hid _ ⟨fun t12 => A.cond t12 (@hid _ ⟨K [(.i 1)] h⟩) (@hid _ ⟨A.cmp .gtr n6 4096 (@hid _ ⟨fun t13 => A.cond t13 (@hid _ ⟨K [(.i 1)] h⟩) (@hid _ ⟨A.cmp .lss n8 (-4096) (@hid _ ⟨fun t14 => A.cond t14 (@hid _ ⟨K [(.i 1)] h⟩) (@hid _ ⟨A.cmp .gtr n8 4096 (@hid _ ⟨fun t15 => A.cond t15 (@hid _ ⟨K [(.i 1)] h⟩) (@hid _ ⟨A.cmp .gtr n10 3 (@hid _ ⟨fun t16 => A.cond t16 (@hid _ ⟨K [(.i 1)] h⟩) (@hid _ ⟨K [(.i 0)] h⟩)⟩)⟩)⟩)⟩)⟩)⟩)⟩)⟩)⟩)⟩)⟩)⟩)⟩)
theorem g43 : (fun A : Alg Prop (List HObj) => p43 A) = fun A => f43 A := by kernel_rfl
theorem h43 (ls : List Lf) (H : List HObj) (K : List Lf → List HObj → Prop) : p43 P1 ls H K = execF P1 (xc 43) sgTab drN n43 ls H K :=
  congrFun (congrFun (congrFun ((congrFun g43 P1).trans (congrFun (congrFun (congrFun e43 Prop) (List HObj)) P1)) ls) H) K
theorem u43 {ls : List Lf} {H : List HObj} {K : List Lf → List HObj → Prop} (hls : goodLs ls = true) (h : p43 P1 ls H K) : ∃ rs H', CallL cc sgTab 43 ls H rs H' ∧ K rs H' :=
  fn_ok i43 hls (h43 ls H K ▸ h)
theorem q43 {ls rs : List Lf} (hls : goodLs ls = true) (h : p43 P1 ls [] fun rs' _ => rs' = rs) : Cc 43 ls rs := by
  obtain ⟨_, _, h1, rfl⟩ := u43 hls h
  exact ct_of mixed gl_flat (sg := ⟨[.agg [.i .i64, .i .i64, .i .u8]], [li]⟩) rfl (by kernel_rfl) h1
/-- crimp/crimpref03.Corners -/
def p45 (A : Alg Prop (List HObj)) (ls : List Lf) (h : List HObj) (K : List Lf → List HObj → Prop) : Prop := A.unI ls (@hid _ ⟨fun n6 l7 => A.unI l7 (@hid _ ⟨fun n8 l9 => A.unI l9 (@hid _ ⟨fun n10 l11 => A.un0 l11 (@hid _ ⟨A.ari .mul .i64 2 n6 (@hid _ ⟨fun n12 => A.ari .mul .i64 2 n8 (@hid _ ⟨fun n13 => A.ari .add .i64 n12 2 (@hid _ ⟨fun n14 => A.ari .add .i64 n12 2 (@hid _ ⟨fun n15 => A.ari .add .i64 n13 2 (@hid _ ⟨fun n16 => A.ari .add .i64 n13 2 (@hid _ ⟨fun n17 => A.conv .i64 n10 (@hid _ ⟨fun n18 => A.conv .i64 n10 (@hid _ ⟨fun n19 => A.ari .add .i64 n19 1 (@hid _ ⟨fun n20 => A.ari .rem .i64 n20 4 (@hid _ ⟨fun n21 => A.ari .rem .i64 n18 2 (@hid _ ⟨fun n22 => A.cmp .eql n22 1 (@hid _ ⟨fun t23 => A.join (@hid _ ⟨fun l24 h25 => A.unI l24 (@hid _ ⟨fun n26 l27 => A.unI l27 (@hid _ ⟨fun n28 l29 => A.un0 l29 (@hid _ ⟨A.ari .add .i64 n12 1 (@hid _ ⟨fun n30 => A.ari .add .i64 n13 1 (@hid _ ⟨fun n31 => A.opt (inB 4 n26) (@hid _ ⟨fun x32 => A.opt (pickL [(.i n12), (.i n13), (.i n14), (.i n13), (.i n15), (.i n16), (.i n12), (.i n17)] 0 [(n26, 2)] 2) (@hid _ ⟨fun x33 => A.unI x33 (@hid _ ⟨fun n34 l35 => A.unI l35 (@hid _ ⟨fun n36 l37 => A.un0 l37 (@hid _ ⟨A.opt (inB 4 n28) (@hid _ ⟨fun x38 => A.opt (pickL [(.i n12), (.i n13), (.i n14), (.i n13), (.i n15), (.i n16), (.i n12), (.i n17)] 0 [(n28, 2)] 2) (@hid _ ⟨fun x39 => A.unI x39 (@hid _ ⟨fun n40 l41 => A.unI l41 (@hid _ ⟨fun n42 l43 => A.un0 l43 (@hid _ ⟨K [(.i n30), (.i n31), (.i n34), (.i n36), (.i n40), (.i n42)] h25⟩)⟩)⟩)⟩)⟩)⟩)⟩)⟩)⟩)⟩)⟩)⟩)⟩)⟩)⟩)⟩) (@hid _ ⟨fun j44 => A.cond t23 (@hid _ ⟨j44 [(.i n21), (.i n18)] h⟩) (@hid _ ⟨j44 [(.i n18), (.i n21)] h⟩)⟩)⟩)⟩)⟩)⟩)⟩)⟩)⟩)⟩)⟩)⟩)⟩)⟩)⟩)⟩)⟩)⟩)
theorem g45 : (fun A : Alg Prop (List HObj) => p45 A) = fun A => f45 A := by kernel_rfl
theorem h45 (ls : List Lf) (H : List HObj) (K : List Lf → List HObj → Prop) : p45 P1 ls H K = execF P1 (xc 45) sgTab drN n45 ls H K :=
  congrFun (congrFun (congrFun ((congrFun g45 P1).trans (congrFun (congrFun (congrFun e45 Prop) (List HObj)) P1)) ls) H) K
theorem u45 {ls : List Lf} {H : List HObj} {K : List Lf → List HObj → Prop} (hls : goodLs ls = true) (h : p45 P1 ls H K) : ∃ rs H', CallL cc sgTab 45 ls H rs H' ∧ K rs H' :=
  fn_ok i45 hls (h45 ls H K ▸ h)
theorem q45 {ls rs : List Lf} (hls : goodLs ls = true) (h : p45 P1 ls [] fun rs' _ => rs' = rs) : Cc 45 ls rs := by
  obtain ⟨_, _, h1, rfl⟩ := u45 hls h
  exact ct_of mixed gl_flat (sg := ⟨[.agg [.i .i64, .i .i64, .i .u8]], [.agg [.i .i64, .i .i64, .i .i64, .i .i64, .i .i64, .i .i64]]⟩) rfl (by kernel_rfl) h1
/-- crimp/crimpref01.Valid -/
def p46 (A : Alg Prop (List HObj)) (ls : List Lf) (h : List HObj) (K : List Lf → List HObj → Prop) : Prop := A.unI ls (@hid _ ⟨fun n6 l7 => A.unI l7 (@hid _ ⟨fun n8 l9 => A.un0 l9 (@hid _ ⟨A.cmp .geq n6 1 (@hid _ ⟨fun t10 => A.cond t10 (@hid _ ⟨A.cmp .leq n6 4 (@hid _ ⟨fun t11 => A.cond t11 (@hid _ ⟨A.cmp .geq n8 (-4096) (@hid _ ⟨fun t12 => A.cond t12 (@hid _ ⟨A.cmp .leq n8 4096 (@hid _ ⟨fun t13 => A.cond t13 (@hid _ ⟨K [(.i 1)] h⟩) (@hid _ ⟨K [(.i 0)] h⟩)⟩)⟩) (@hid _ ⟨K [(.i 0)] h⟩)⟩)⟩) (@hid _ ⟨K [(.i 0)] h⟩)⟩)⟩) (@hid _ ⟨K [(.i 0)] h⟩)⟩)⟩)⟩)⟩)
theorem g46 : (fun A : Alg Prop (List HObj) => p46 A) = fun A => f46 A := by kernel_rfl
theorem h46 (ls : List Lf) (H : List HObj) (K : List Lf → List HObj → Prop) : p46 P1 ls H K = execF P1 (xc 46) sgTab drN n46 ls H K :=
  congrFun (congrFun (congrFun ((congrFun g46 P1).trans (congrFun (congrFun (congrFun e46 Prop) (List HObj)) P1)) ls) H) K
theorem u46 {ls : List Lf} {H : List HObj} {K : List Lf → List HObj → Prop} (hls : goodLs ls = true) (h : p46 P1 ls H K) : ∃ rs H', CallL cc sgTab 46 ls H rs H' ∧ K rs H' :=
  fn_ok i46 hls (h46 ls H K ▸ h)
theorem q46 {ls rs : List Lf} (hls : goodLs ls = true) (h : p46 P1 ls [] fun rs' _ => rs' = rs) : Cc 46 ls rs := by
  obtain ⟨_, _, h1, rfl⟩ := u46 hls h
  exact ct_of mixed gl_flat (sg := ⟨[.agg [.i .u8, .i .i64]], [li]⟩) rfl (by kernel_rfl) h1
/-- crimp/cells.Neighbour -/
def p47 (A : Alg Prop (List HObj)) (ls : List Lf) (h : List HObj) (K : List Lf → List HObj → Prop) : Prop := A.unI ls (@hid _ ⟨fun n6 l7 => A.unI l7 (@hid _ ⟨fun n8 l9 => A.unI l9 (@hid _ ⟨fun n10 l11 => A.unI l11 (@hid _ ⟨fun n12 l13 => A.un0 l13 (@hid _ ⟨A.call 43 [(.i n6), (.i n8), (.i n10)] h (@hid _ ⟨fun l14 h15 => A.unI l14 (@hid _ ⟨fun n16 l17 => A.un0 l17 (@hid _ ⟨A.cmp .neq n16 0 (@hid _ ⟨fun t18 => A.cond t18 (@hid _ ⟨K [(.i 0), (.i 0), (.i 0), (.i 1)] h15⟩) (@hid _ ⟨A.cmp .gtr n12 2 (@hid _ ⟨fun t19 => A.cond t19 (@hid _ ⟨K [(.i 0), (.i 0), (.i 0), (.i 1)] h15⟩) (@hid _ ⟨A.opt (inB 4 n10) (@hid _ ⟨fun x20 => A.opt (inB 3 n12) (@hid _ ⟨fun x21 => A.opt (pickV gl0 4 [(n10, 17), (n12, 3)] 3) (@hid _ ⟨fun x22 => A.ucI .i64 x22 (@hid _ ⟨fun n23 l24 => A.ucI .i64 l24 (@hid _ ⟨fun n25 l26 => A.ucI .u8 l26 (@hid _ ⟨fun n27 l28 => A.uc0 l28 (@hid _ ⟨A.ari .add .i64 n23 n6 (@hid _ ⟨fun n29 => A.ari .add .i64 n25 n8 (@hid _ ⟨fun n30 => A.call 43 [(.i n29), (.i n30), (.i n27)] h15 (@hid _ ⟨fun l31 h32 => A.unI l31 (@hid _ ⟨fun n33 l34 => A.un0 l34 (@hid _ ⟨A.cmp .neq n33 0 (@hid _ ⟨fun t35 => A.cond t35 (@hid _ ⟨K [(.i 0), (.i 0), (.i 0), (.i 3)] h32⟩) (@hid _ ⟨K [(.i n29), (.i n30), (.i n27), (.i 0)] h32⟩)⟩)⟩)⟩)⟩)⟩)⟩)⟩)⟩)⟩)⟩)⟩)⟩)⟩)⟩)⟩)⟩)⟩)⟩)⟩)⟩)⟩)⟩)⟩)⟩)⟩)
theorem g47 : (fun A : Alg Prop (List HObj) => p47 A) = fun A => f47 A := by kernel_rfl
theorem h47 (ls : List Lf) (H : List HObj) (K : List Lf → List HObj → Prop) : p47 P1 ls H K = execF P1 (xc 47) sgTab drN n47 ls H K :=
  congrFun (congrFun (congrFun ((congrFun g47 P1).trans (congrFun (congrFun (congrFun e47 Prop) (List HObj)) P1)) ls) H) K
theorem u47 {ls : List Lf} {H : List HObj} {K : List Lf → List HObj → Prop} (hls : goodLs ls = true) (h : p47 P1 ls H K) : ∃ rs H', CallL cc sgTab 47 ls H rs H' ∧ K rs H' :=
  fn_ok i47 hls (h47 ls H K ▸ h)
theorem q47 {ls rs : List Lf} (hls : goodLs ls = true) (h : p47 P1 ls [] fun rs' _ => rs' = rs) : Cc 47 ls rs := by
  obtain ⟨_, _, h1, rfl⟩ := u47 hls h
  exact ct_of mixed gl_flat (sg := ⟨[.agg [.i .i64, .i .i64, .i .u8], .leaf (.i .u8)], [.agg [.i .i64, .i .i64, .i .u8], li]⟩) rfl (by kernel_rfl) h1
/-- crimp/cells.Touch -/
def p48 (A : Alg Prop (List HObj)) (ls : List Lf) (h : List HObj) (K : List Lf → List HObj → Prop) : Prop := A.unI ls (@hid _ ⟨fun n6 l7 => A.unI l7 (@hid _ ⟨fun n8 l9 => A.unI l9 (@hid _ ⟨fun n10 l11 => A.unI l11 (@hid _ ⟨fun n12 l13 => A.unI l13 (@hid _ ⟨fun n14 l15 => A.unI l15 (@hid _ ⟨fun n16 l17 => A.un0 l17 (@hid _ ⟨A.call 43 [(.i n6), (.i n8), (.i n10)] h (@hid _ ⟨fun l18 h19 => A.unI l18 (@hid _ ⟨fun n20 l21 => A.un0 l21 (@hid _ ⟨A.cmp .neq n20 0 (@hid _ ⟨fun t22 => A.cond t22 (@hid _ ⟨K [(.i 0), (.i 1)] h19⟩) (@hid _ ⟨A.call 43 [(.i n12), (.i n14), (.i n16)] h19 (@hid _ ⟨fun l23 h24 => A.unI l23 (@hid _ ⟨fun n25 l26 => A.un0 l26 (@hid _ ⟨A.cmp .neq n25 0 (@hid _ ⟨fun t27 => A.cond t27 (@hid _ ⟨K [(.i 0), (.i 1)] h24⟩) (@hid _ ⟨A.loop (@hid _ ⟨fun s28 l29 h30 => A.unI l29 (@hid _ ⟨fun n31 l32 => A.un0 l32 (@hid _ ⟨A.cmp .lss n31 3 (@hid _ ⟨fun t33 => A.cond t33 (@hid _ ⟨A.call 47 [(.i n6), (.i n8), (.i n10), (.i n31)] h30 (@hid _ ⟨fun l34 h35 => A.unI l34 (@hid _ ⟨fun n36 l37 => A.unI l37 (@hid _ ⟨fun n38 l39 => A.unI l39 (@hid _ ⟨fun n40 l41 => A.unI l41 (@hid _ ⟨fun n42 l43 => A.un0 l43 (@hid _ ⟨A.cmp .eql n42 0 (@hid _ ⟨fun t44 => A.cond t44 (@hid _ ⟨A.eqs [((.i n36), (.i n12)), ((.i n38), (.i n14)), ((.i n40), (.i n16))] (@hid _ ⟨fun t45 => A.cond t45 (@hid _ ⟨K [(.i n31), (.i 0)] h35⟩) (@hid _ ⟨A.ari .add .u8 n31 1 (@hid _ ⟨fun n46 => s28 [(.i n46)] h35⟩)⟩)⟩)⟩) (@hid _ ⟨A.ari .add .u8 n31 1 (@hid _ ⟨fun n47 => s28 [(.i n47)] h35⟩)⟩)⟩)⟩)⟩)⟩)⟩)⟩)⟩)⟩) (@hid _ ⟨K [(.i 0), (.i 7)] h30⟩)⟩)⟩)⟩)⟩) [(.i 0)] h24⟩)⟩)⟩)⟩)⟩)⟩)⟩)⟩)⟩)⟩)⟩)⟩)⟩)⟩)⟩)⟩)⟩)
theorem g48 : (fun A : Alg Prop (List HObj) => p48 A) = fun A => f48 A := by kernel_rfl
theorem h48 (ls : List Lf) (H : List HObj) (K : List Lf → List HObj → Prop) : p48 P1 ls H K = execF P1 (xc 48) sgTab drN n48 ls H K :=
  congrFun (congrFun (congrFun ((congrFun g48 P1).trans (congrFun (congrFun (congrFun e48 Prop) (List HObj)) P1)) ls) H) K
theorem u48 {ls : List Lf} {H : List HObj} {K : List Lf → List HObj → Prop} (hls : goodLs ls = true) (h : p48 P1 ls H K) : ∃ rs H', CallL cc sgTab 48 ls H rs H' ∧ K rs H' :=
  fn_ok i48 hls (h48 ls H K ▸ h)
theorem q48 {ls rs : List Lf} (hls : goodLs ls = true) (h : p48 P1 ls [] fun rs' _ => rs' = rs) : Cc 48 ls rs := by
  obtain ⟨_, _, h1, rfl⟩ := u48 hls h
  exact ct_of mixed gl_flat (sg := ⟨[.agg [.i .i64, .i .i64, .i .u8], .agg [.i .i64, .i .i64, .i .u8]], [.leaf (.i .u8), li]⟩) rfl (by kernel_rfl) h1
/-- crimp/crimpref03.Neighbour -/
def p49 (A : Alg Prop (List HObj)) (ls : List Lf) (h : List HObj) (K : List Lf → List HObj → Prop) : Prop := A.unI ls (@hid _ ⟨fun n6 l7 => A.unI l7 (@hid _ ⟨fun n8 l9 => A.unI l9 (@hid _ ⟨fun n10 l11 => A.unI l11 (@hid _ ⟨fun n12 l13 => A.un0 l13 (@hid _ ⟨A.call 31 [(.i n6), (.i n8), (.i n10), (.i n12)] h (@hid _ ⟨fun l14 h15 => A.unI l14 (@hid _ ⟨fun n16 l17 => A.unI l17 (@hid _ ⟨fun n18 l19 => A.un0 l19 (@hid _ ⟨A.call 45 [(.i n6), (.i n8), (.i n10)] h15 (@hid _ ⟨fun l20 h21 => A.unI l20 (@hid _ ⟨fun n22 l23 => A.unI l23 (@hid _ ⟨fun n24 l25 => A.unI l25 (@hid _ ⟨fun n26 l27 => A.unI l27 (@hid _ ⟨fun n28 l29 => A.unI l29 (@hid _ ⟨fun n30 l31 => A.unI l31 (@hid _ ⟨fun n32 l33 => A.un0 l33 (@hid _ ⟨A.loop (@hid _ ⟨fun s34 l35 h36 => A.unI l35 (@hid _ ⟨fun n37 l38 => A.unI l38 (@hid _ ⟨fun n39 l40 => A.unI l40 (@hid _ ⟨fun n41 l42 => A.unI l42 (@hid _ ⟨fun n43 l44 => A.unI l44 (@hid _ ⟨fun n45 l46 => A.unI l46 (@hid _ ⟨fun n47 l48 => A.unI l48 (@hid _ ⟨fun n49 l50 => A.un0 l50 (@hid _ ⟨A.cmp .lss n37 3 (@hid _ ⟨fun t51 => A.cond t51 (@hid _ ⟨A.opt (inB 3 n37) (@hid _ ⟨fun x52 => A.opt (pickL [(.i n39), (.i n41), (.i n43), (.i n45), (.i n47), (.i n49)] 0 [(n37, 2)] 2) (@hid _ ⟨fun x53 => A.unI x53 (@hid _ ⟨fun n54 l55 => A.unI l55 (@hid _ ⟨fun n56 l57 => A.un0 l57 (@hid _ ⟨A.call 76 [(.i n16), (.i n18), (.i n54), (.i n56)] h36 (@hid _ ⟨fun l58 h59 => A.unI l58 (@hid _ ⟨fun n60 l61 => A.unI l61 (@hid _ ⟨fun n62 l63 => A.un0 l63 (@hid _ ⟨A.opt (inB 3 n37) (@hid _ ⟨fun x64 => A.opt (putL [(.i n39), (.i n41), (.i n43), (.i n45), (.i n47), (.i n49)] 0 [(n37, 2)] [(.i n60), (.i n62)]) (@hid _ ⟨fun x65 => A.unI x65 (@hid _ ⟨fun n66 l67 => A.unI l67 (@hid _ ⟨fun n68 l69 => A.unI l69 (@hid _ ⟨fun n70 l71 => A.unI l71 (@hid _ ⟨fun n72 l73 => A.unI l73 (@hid _ ⟨fun n74 l75 => A.unI l75 (@hid _ ⟨fun n76 l77 => A.un0 l77 (@hid _ ⟨A.ari .add .i64 n37 1 (@hid _ ⟨fun n78 => s34 [(.i n78), (.i n66), (.i n68), (.i n70), (.i n72), (.i n74), (.i n76)] h59⟩)⟩)⟩)⟩)⟩)⟩)⟩)⟩)⟩)⟩)⟩)⟩)⟩)⟩)⟩)⟩)⟩)⟩)⟩)⟩) (@hid _ ⟨A.call 77 [(.i n39), (.i n41), (.i n43), (.i n45), (.i n47), (.i n49)] h36 (@hid _ ⟨fun l79 h80 => A.unI l79 (@hid _ ⟨fun n81 l82 => A.unI l82 (@hid _ ⟨fun n83 l84 => A.unI l84 (@hid _ ⟨fun n85 l86 => A.un0 l86 (@hid _ ⟨K [(.i n81), (.i n83), (.i n85)] h80⟩)⟩)⟩)⟩)⟩)⟩)⟩)⟩)⟩)⟩)⟩)⟩)⟩)⟩)⟩)⟩) [(.i 0), (.i n22), (.i n24), (.i n26), (.i n28), (.i n30), (.i n32)] h21⟩)⟩)⟩)⟩)⟩)⟩)⟩)⟩)⟩)⟩)⟩)⟩)⟩)⟩)⟩)⟩)⟩)
theorem g49 : (fun A : Alg Prop (List HObj) => p49 A) = fun A => f49 A := by kernel_rfl
theorem h49 (ls : List Lf) (H : List HObj) (K : List Lf → List HObj → Prop) : p49 P1 ls H K = execF P1 (xc 49) sgTab drN n49 ls H K :=
  congrFun (congrFun (congrFun ((congrFun g49 P1).trans (congrFun (congrFun (congrFun e49 Prop) (List HObj)) P1)) ls) H) K
theorem u49 {ls : List Lf} {H : List HObj} {K : List Lf → List HObj → Prop} (hls : goodLs ls = true) (h : p49 P1 ls H K) : ∃ rs H', CallL cc sgTab 49 ls H rs H' ∧ K rs H' :=
  fn_ok i49 hls (h49 ls H K ▸ h)
theorem q49 {ls rs : List Lf} (hls : goodLs ls = true) (h : p49 P1 ls [] fun rs' _ => rs' = rs) : Cc 49 ls rs := by
  obtain ⟨_, _, h1, rfl⟩ := u49 hls h
  exact ct_of mixed gl_flat (sg := ⟨[.agg [.i .i64, .i .i64, .i .u8], li], [.agg [.i .i64, .i .i64, .i .u8]]⟩) rfl (by kernel_rfl) h1
/-- crimp/cells.Side -/
def p50 (A : Alg Prop (List HObj)) (ls : List Lf) (h : List HObj) (K : List Lf → List HObj → Prop) : Prop := A.unI ls (@hid _ ⟨fun n6 l7 => A.unI l7 (@hid _ ⟨fun n8 l9 => A.unI l9 (@hid _ ⟨fun n10 l11 => A.unI l11 (@hid _ ⟨fun n12 l13 => A.unI l13 (@hid _ ⟨fun n14 l15 => A.un0 l15 (@hid _ ⟨A.call 41 [(.i n10), (.i n12), (.i n14)] h (@hid _ ⟨fun l16 h17 => A.unI l16 (@hid _ ⟨fun n18 l19 => A.unI l19 (@hid _ ⟨fun n20 l21 => A.unI l21 (@hid _ ⟨fun n22 l23 => A.unI l23 (@hid _ ⟨fun n24 l25 => A.unI l25 (@hid _ ⟨fun n26 l27 => A.unI l27 (@hid _ ⟨fun n28 l29 => A.unI l29 (@hid _ ⟨fun n30 l31 => A.un0 l31 (@hid _ ⟨A.cmp .neq n30 0 (@hid _ ⟨fun t32 => A.cond t32 (@hid _ ⟨K [(.i 0), (.i 1)] h17⟩) (@hid _ ⟨A.call 74 [(.i n6), (.i n8)] h17 (@hid _ ⟨fun l33 h34 => A.unI l33 (@hid _ ⟨fun n35 l36 => A.un0 l36 (@hid _ ⟨A.cmp .neq n35 0 (@hid _ ⟨fun t37 => A.cond t37 (@hid _ ⟨K [(.i 0), (.i 1)] h34⟩) (@hid _ ⟨A.loop (@hid _ ⟨fun s38 l39 h40 => A.unI l39 (@hid _ ⟨fun n41 l42 => A.un0 l42 (@hid _ ⟨A.cmp .lss n41 3 (@hid _ ⟨fun t43 => A.cond t43 (@hid _ ⟨A.opt (inB 3 n41) (@hid _ ⟨fun x44 => A.opt (pickL [(.i n18), (.i n20), (.i n22), (.i n24), (.i n26), (.i n28)] 0 [(n41, 2)] 2) (@hid _ ⟨fun x45 => A.unI x45 (@hid _ ⟨fun n46 l47 => A.unI l47 (@hid _ ⟨fun n48 l49 => A.un0 l49 (@hid _ ⟨A.call 78 [(.i n6), (.i n8), (.i n46), (.i n48)] h40 (@hid _ ⟨fun l50 h51 => A.unI l50 (@hid _ ⟨fun n52 l53 => A.un0 l53 (@hid _ ⟨A.cmp .gtr n52 0 (@hid _ ⟨fun t54 => A.cond t54 (@hid _ ⟨K [(.i 1), (.i 0)] h51⟩) (@hid _ ⟨A.ari .add .i64 n41 1 (@hid _ ⟨fun n55 => s38 [(.i n55)] h51⟩)⟩)⟩)⟩)⟩)⟩)⟩)⟩)⟩)⟩)⟩)⟩) (@hid _ ⟨K [(.i 0), (.i 0)] h40⟩)⟩)⟩)⟩)⟩) [(.i 0)] h34⟩)⟩)⟩)⟩)⟩)⟩)⟩)⟩)⟩)⟩)⟩)⟩)⟩)⟩)⟩)⟩)⟩)⟩)⟩)⟩)⟩)⟩)
theorem g50 : (fun A : Alg Prop (List HObj) => p50 A) = fun A => f50 A := by kernel_rfl
theorem h50 (ls : List Lf) (H : List HObj) (K : List Lf → List HObj → Prop) : p50 P1 ls H K = execF P1 (xc 50) sgTab drN n50 ls H K :=
  congrFun (congrFun (congrFun ((congrFun g50 P1).trans (congrFun (congrFun (congrFun e50 Prop) (List HObj)) P1)) ls) H) K
theorem u50 {ls : List Lf} {H : List HObj} {K : List Lf → List HObj → Prop} (hls : goodLs ls = true) (h : p50 P1 ls H K) : ∃ rs H', CallL cc sgTab 50 ls H rs H' ∧ K rs H' :=
  fn_ok i50 hls (h50 ls H K ▸ h)
theorem q50 {ls rs : List Lf} (hls : goodLs ls = true) (h : p50 P1 ls [] fun rs' _ => rs' = rs) : Cc 50 ls rs := by
  obtain ⟨_, _, h1, rfl⟩ := u50 hls h
  exact ct_of mixed gl_flat (sg := ⟨[.agg [.i .u8, .i .i64], .agg [.i .i64, .i .i64, .i .u8]], [li, li]⟩) rfl (by kernel_rfl) h1
/-- crimp/crimpref01.Across -/
def p70 (A : Alg Prop (List HObj)) (ls : List Lf) (h : List HObj) (K : List Lf → List HObj → Prop) : Prop := A.unI ls (@hid _ ⟨fun n6 l7 => A.un0 l7 (@hid _ ⟨A.cmp .eql n6 1 (@hid _ ⟨fun t8 => A.cond t8 (@hid _ ⟨K [(.i 1), (.i 0)] h⟩) (@hid _ ⟨A.cmp .eql n6 2 (@hid _ ⟨fun t9 => A.cond t9 (@hid _ ⟨K [(.i 0), (.i 1)] h⟩) (@hid _ ⟨A.cmp .eql n6 3 (@hid _ ⟨fun t10 => A.cond t10 (@hid _ ⟨K [(.i 1), (.i 1)] h⟩) (@hid _ ⟨K [(.i (-1)), (.i 1)] h⟩)⟩)⟩)⟩)⟩)⟩)⟩)⟩)
theorem g70 : (fun A : Alg Prop (List HObj) => p70 A) = fun A => f70 A := by kernel_rfl
theorem h70 (ls : List Lf) (H : List HObj) (K : List Lf → List HObj → Prop) : p70 P1 ls H K = execF P1 (xc 70) sgTab drN n70 ls H K :=
  congrFun (congrFun (congrFun ((congrFun g70 P1).trans (congrFun (congrFun (congrFun e70 Prop) (List HObj)) P1)) ls) H) K
theorem u70 {ls : List Lf} {H : List HObj} {K : List Lf → List HObj → Prop} (hls : goodLs ls = true) (h : p70 P1 ls H K) : ∃ rs H', CallL cc sgTab 70 ls H rs H' ∧ K rs H' :=
  fn_ok i70 hls (h70 ls H K ▸ h)
theorem q70 {ls rs : List Lf} (hls : goodLs ls = true) (h : p70 P1 ls [] fun rs' _ => rs' = rs) : Cc 70 ls rs := by
  obtain ⟨_, _, h1, rfl⟩ := u70 hls h
  exact ct_of mixed gl_flat (sg := ⟨[.leaf (.i .u8)], [li, li]⟩) rfl (by kernel_rfl) h1
/-- crimp/lines.Check -/
def p74 (A : Alg Prop (List HObj)) (ls : List Lf) (h : List HObj) (K : List Lf → List HObj → Prop) : Prop := A.unI ls (@hid _ ⟨fun n6 l7 => A.unI l7 (@hid _ ⟨fun n8 l9 => A.un0 l9 (@hid _ ⟨A.cmp .lss n6 1 (@hid _ ⟨fun t10 => A.cond t10 (@hid _ ⟨K [(.i 1)] h⟩) (@hid _ ⟨A.cmp .gtr n6 4 (@hid _ ⟨fun t11 => A.cond t11 (@hid _ ⟨K [(.i 1)] h⟩) (@hid _ ⟨A.cmp .lss n8 (-4096) (@hid _ ⟨fun t12 => A.cond t12 (@hid _ ⟨K [(.i 1)] h⟩) (@hid _ ⟨A.cmp .gtr n8 4096 (@hid _ ⟨fun t13 => A.cond t13 (@hid _ ⟨K [(.i 1)] h⟩) (@hid _ ⟨K [(.i 0)] h⟩)⟩)⟩)⟩)⟩)⟩)⟩)⟩)⟩)⟩)⟩)
theorem g74 : (fun A : Alg Prop (List HObj) => p74 A) = fun A => f74 A := by kernel_rfl
theorem h74 (ls : List Lf) (H : List HObj) (K : List Lf → List HObj → Prop) : p74 P1 ls H K = execF P1 (xc 74) sgTab drN n74 ls H K :=
  congrFun (congrFun (congrFun ((congrFun g74 P1).trans (congrFun (congrFun (congrFun e74 Prop) (List HObj)) P1)) ls) H) K
theorem u74 {ls : List Lf} {H : List HObj} {K : List Lf → List HObj → Prop} (hls : goodLs ls = true) (h : p74 P1 ls H K) : ∃ rs H', CallL cc sgTab 74 ls H rs H' ∧ K rs H' :=
  fn_ok i74 hls (h74 ls H K ▸ h)
theorem q74 {ls rs : List Lf} (hls : goodLs ls = true) (h : p74 P1 ls [] fun rs' _ => rs' = rs) : Cc 74 ls rs := by
  obtain ⟨_, _, h1, rfl⟩ := u74 hls h
  exact ct_of mixed gl_flat (sg := ⟨[.agg [.i .u8, .i .i64]], [li]⟩) rfl (by kernel_rfl) h1
/-- crimp/crimpref01.Reflect -/
def p76 (A : Alg Prop (List HObj)) (ls : List Lf) (h : List HObj) (K : List Lf → List HObj → Prop) : Prop := A.unI ls (@hid _ ⟨fun n6 l7 => A.unI l7 (@hid _ ⟨fun n8 l9 => A.unI l9 (@hid _ ⟨fun n10 l11 => A.unI l11 (@hid _ ⟨fun n12 l13 => A.un0 l13 (@hid _ ⟨A.call 70 [(.i n6)] h (@hid _ ⟨fun l14 h15 => A.unI l14 (@hid _ ⟨fun n16 l17 => A.unI l17 (@hid _ ⟨fun n18 l19 => A.un0 l19 (@hid _ ⟨A.call 28 [(.i n6), (.i n8), (.i n10), (.i n12)] h15 (@hid _ ⟨fun l20 h21 => A.unI l20 (@hid _ ⟨fun n22 l23 => A.un0 l23 (@hid _ ⟨A.ari .mul .i64 2 n22 (@hid _ ⟨fun n24 => A.ari .mul .i64 n16 n16 (@hid _ ⟨fun n25 => A.ari .mul .i64 n18 n18 (@hid _ ⟨fun n26 => A.ari .add .i64 n25 n26 (@hid _ ⟨fun n27 => A.ari .quo .i64 n24 n27 (@hid _ ⟨fun n28 => A.ari .mul .i64 n28 n16 (@hid _ ⟨fun n29 => A.ari .sub .i64 n10 n29 (@hid _ ⟨fun n30 => A.ari .mul .i64 n28 n18 (@hid _ ⟨fun n31 => A.ari .sub .i64 n12 n31 (@hid _ ⟨fun n32 => K [(.i n30), (.i n32)] h21⟩)⟩)⟩)⟩)⟩)⟩)⟩)⟩)⟩)⟩)⟩)⟩)⟩)⟩)⟩)⟩)⟩)⟩)⟩)⟩)⟩)
theorem g76 : (fun A : Alg Prop (List HObj) => p76 A) = fun A => f76 A := by kernel_rfl
theorem h76 (ls : List Lf) (H : List HObj) (K : List Lf → List HObj → Prop) : p76 P1 ls H K = execF P1 (xc 76) sgTab drN n76 ls H K :=
  congrFun (congrFun (congrFun ((congrFun g76 P1).trans (congrFun (congrFun (congrFun e76 Prop) (List HObj)) P1)) ls) H) K
theorem u76 {ls : List Lf} {H : List HObj} {K : List Lf → List HObj → Prop} (hls : goodLs ls = true) (h : p76 P1 ls H K) : ∃ rs H', CallL cc sgTab 76 ls H rs H' ∧ K rs H' :=
  fn_ok i76 hls (h76 ls H K ▸ h)
theorem q76 {ls rs : List Lf} (hls : goodLs ls = true) (h : p76 P1 ls [] fun rs' _ => rs' = rs) : Cc 76 ls rs := by
  obtain ⟨_, _, h1, rfl⟩ := u76 hls h
  exact ct_of mixed gl_flat (sg := ⟨[.agg [.i .u8, .i .i64], .agg [.i .i64, .i .i64]], [.agg [.i .i64, .i .i64]]⟩) rfl (by kernel_rfl) h1
/-- crimp/crimpref03.With -/
def p77 (A : Alg Prop (List HObj)) (ls : List Lf) (h : List HObj) (K : List Lf → List HObj → Prop) : Prop := A.unI ls (@hid _ ⟨fun n6 l7 => A.unI l7 (@hid _ ⟨fun n8 l9 => A.unI l9 (@hid _ ⟨fun n10 l11 => A.unI l11 (@hid _ ⟨fun n12 l13 => A.unI l13 (@hid _ ⟨fun n14 l15 => A.unI l15 (@hid _ ⟨fun n16 l17 => A.un0 l17 (@hid _ ⟨A.loop (@hid _ ⟨fun s18 l19 h20 => A.unI l19 (@hid _ ⟨fun n21 l22 => A.un0 l22 (@hid _ ⟨A.cmp .lss n21 3 (@hid _ ⟨fun t23 => A.cond t23 (@hid _ ⟨A.join (@hid _ ⟨fun l24 h25 => A.un0 l24 (@hid _ ⟨A.ari .add .i64 n21 1 (@hid _ ⟨fun n26 => s18 [(.i n26)] h25⟩)⟩)⟩) (@hid _ ⟨fun j27 => A.opt (inB 3 n21) (@hid _ ⟨fun x28 => A.opt (pickL [(.i n6), (.i n8), (.i n10), (.i n12), (.i n14), (.i n16)] 0 [(n21, 2)] 2) (@hid _ ⟨fun x29 => A.unI x29 (@hid _ ⟨fun n30 l31 => A.unI l31 (@hid _ ⟨fun n32 l33 => A.un0 l33 (@hid _ ⟨A.ari .add .i64 n21 1 (@hid _ ⟨fun n34 => A.ari .rem .i64 n34 3 (@hid _ ⟨fun n35 => A.opt (inB 3 n35) (@hid _ ⟨fun x36 => A.opt (pickL [(.i n6), (.i n8), (.i n10), (.i n12), (.i n14), (.i n16)] 0 [(n35, 2)] 2) (@hid _ ⟨fun x37 => A.unI x37 (@hid _ ⟨fun n38 l39 => A.unI l39 (@hid _ ⟨fun n40 l41 => A.un0 l41 (@hid _ ⟨A.ari .add .i64 n21 2 (@hid _ ⟨fun n42 => A.ari .rem .i64 n42 3 (@hid _ ⟨fun n43 => A.opt (inB 3 n43) (@hid _ ⟨fun x44 => A.opt (pickL [(.i n6), (.i n8), (.i n10), (.i n12), (.i n14), (.i n16)] 0 [(n43, 2)] 2) (@hid _ ⟨fun x45 => A.unI x45 (@hid _ ⟨fun n46 l47 => A.unI l47 (@hid _ ⟨fun n48 l49 => A.un0 l49 (@hid _ ⟨A.ari .rem .i64 n30 2 (@hid _ ⟨fun n50 => A.cmp .eql n50 0 (@hid _ ⟨fun t51 => A.cond t51 (@hid _ ⟨j27 [] h20⟩) (@hid _ ⟨A.ari .rem .i64 n32 2 (@hid _ ⟨fun n52 => A.cmp .eql n52 0 (@hid _ ⟨fun t53 => A.cond t53 (@hid _ ⟨j27 [] h20⟩) (@hid _ ⟨A.loop (@hid _ ⟨fun s54 l55 h56 => A.unI l55 (@hid _ ⟨fun n57 l58 => A.un0 l58 (@hid _ ⟨A.cmp .lss n57 4 (@hid _ ⟨fun t59 => A.cond t59 (@hid _ ⟨A.ari .sub .i64 n30 1 (@hid _ ⟨fun n60 => A.ari .quo .i64 n60 2 (@hid _ ⟨fun n61 => A.ari .sub .i64 n32 1 (@hid _ ⟨fun n62 => A.ari .quo .i64 n62 2 (@hid _ ⟨fun n63 => A.call 45 [(.i n61), (.i n63), (.i n57)] h56 (@hid _ ⟨fun l64 h65 => A.unI l64 (@hid _ ⟨fun n66 l67 => A.unI l67 (@hid _ ⟨fun n68 l69 => A.unI l69 (@hid _ ⟨fun n70 l71 => A.unI l71 (@hid _ ⟨fun n72 l73 => A.unI l73 (@hid _ ⟨fun n74 l75 => A.unI l75 (@hid _ ⟨fun n76 l77 => A.un0 l77 (@hid _ ⟨A.eqs [((.i n70), (.i n38)), ((.i n72), (.i n40))] (@hid _ ⟨fun t78 => A.cond t78 (@hid _ ⟨A.eqs [((.i n74), (.i n46)), ((.i n76), (.i n48))] (@hid _ ⟨fun t79 => A.cond t79 (@hid _ ⟨K [(.i n61), (.i n63), (.i n57)] h65⟩) (@hid _ ⟨A.eqs [((.i n70), (.i n46)), ((.i n72), (.i n48))] (@hid _ ⟨fun t80 => A.cond t80 (@hid _ ⟨A.eqs [((.i n74), (.i n38)), ((.i n76), (.i n40))] (@hid _ ⟨fun t81 => A.cond t81 (@hid _ ⟨K [(.i n61), (.i n63), (.i n57)] h65⟩) (@hid _ ⟨A.ari .add .u8 n57 1 (@hid _ ⟨fun n82 => s54 [(.i n82)] h65⟩)⟩)⟩)⟩) (@hid _ ⟨A.ari .add .u8 n57 1 (@hid _ ⟨fun n83 => s54 [(.i n83)] h65⟩)⟩)⟩)⟩)⟩)⟩) (@hid _ ⟨A.eqs [((.i n70), (.i n46)), ((.i n72), (.i n48))] (@hid _ ⟨fun t84 => A.cond t84 (@hid _ ⟨A.eqs [((.i n74), (.i n38)), ((.i n76), (.i n40))] (@hid _ ⟨fun t85 => A.cond t85 (@hid _ ⟨K [(.i n61), (.i n63), (.i n57)] h65⟩) (@hid _ ⟨A.ari .add .u8 n57 1 (@hid _ ⟨fun n86 => s54 [(.i n86)] h65⟩)⟩)⟩)⟩) (@hid _ ⟨A.ari .add .u8 n57 1 (@hid _ ⟨fun n87 => s54 [(.i n87)] h65⟩)⟩)⟩)⟩)⟩)⟩)⟩)⟩)⟩)⟩)⟩)⟩)⟩)⟩)⟩)⟩)⟩)⟩) (@hid _ ⟨j27 [] h56⟩)⟩)⟩)⟩)⟩) [(.i 0)] h20⟩)⟩)⟩)⟩)⟩)⟩)⟩)⟩)⟩)⟩)⟩)⟩)⟩)⟩)⟩)⟩)⟩)⟩)⟩)⟩)⟩)⟩)⟩)⟩)⟩)⟩)⟩) (@hid _ ⟨K [(.i 0), (.i 0), (.i 4)] h20⟩)⟩)⟩)⟩)⟩) [(.i 0)] h⟩)⟩)⟩)⟩)⟩)⟩)⟩)
theorem g77 : (fun A : Alg Prop (List HObj) => p77 A) = fun A => f77 A := by kernel_rfl
theorem h77 (ls : List Lf) (H : List HObj) (K : List Lf → List HObj → Prop) : p77 P1 ls H K = execF P1 (xc 77) sgTab drN n77 ls H K :=
  congrFun (congrFun (congrFun ((congrFun g77 P1).trans (congrFun (congrFun (congrFun e77 Prop) (List HObj)) P1)) ls) H) K
theorem u77 {ls : List Lf} {H : List HObj} {K : List Lf → List HObj → Prop} (hls : goodLs ls = true) (h : p77 P1 ls H K) : ∃ rs H', CallL cc sgTab 77 ls H rs H' ∧ K rs H' :=
  fn_ok i77 hls (h77 ls H K ▸ h)
theorem q77 {ls rs : List Lf} (hls : goodLs ls = true) (h : p77 P1 ls [] fun rs' _ => rs' = rs) : Cc 77 ls rs := by
  obtain ⟨_, _, h1, rfl⟩ := u77 hls h
  exact ct_of mixed gl_flat (sg := ⟨[.agg [.i .i64, .i .i64, .i .i64, .i .i64, .i .i64, .i .i64]], [.agg [.i .i64, .i .i64, .i .u8]]⟩) rfl (by kernel_rfl) h1
/-- crimp/lines.Side -/
def p78 (A : Alg Prop (List HObj)) (ls : List Lf) (h : List HObj) (K : List Lf → List HObj → Prop) : Prop := A.unI ls (@hid _ ⟨fun n6 l7 => A.unI l7 (@hid _ ⟨fun n8 l9 => A.unI l9 (@hid _ ⟨fun n10 l11 => A.unI l11 (@hid _ ⟨fun n12 l13 => A.un0 l13 (@hid _ ⟨A.call 74 [(.i n6), (.i n8)] h (@hid _ ⟨fun l14 h15 => A.unI l14 (@hid _ ⟨fun n16 l17 => A.un0 l17 (@hid _ ⟨A.cmp .neq n16 0 (@hid _ ⟨fun t18 => A.cond t18 (@hid _ ⟨K [(.i 0)] h15⟩) (@hid _ ⟨A.call 90 [(.i n10), (.i n12)] h15 (@hid _ ⟨fun l19 h20 => A.unI l19 (@hid _ ⟨fun n21 l22 => A.un0 l22 (@hid _ ⟨A.cmp .neq n21 0 (@hid _ ⟨fun t23 => A.cond t23 (@hid _ ⟨K [(.i 0)] h20⟩) (@hid _ ⟨A.call 91 [] h20 (@hid _ ⟨fun l24 h25 => A.unV l24 (@hid _ ⟨fun x26 l27 => A.unV l27 (@hid _ ⟨fun x28 l29 => A.unV l29 (@hid _ ⟨fun x30 l31 => A.unV l31 (@hid _ ⟨fun x32 l33 => A.unV l33 (@hid _ ⟨fun x34 l35 => A.unV l35 (@hid _ ⟨fun x36 l37 => A.unV l37 (@hid _ ⟨fun x38 l39 => A.unV l39 (@hid _ ⟨fun x40 l41 => A.unV l41 (@hid _ ⟨fun x42 l43 => A.unV l43 (@hid _ ⟨fun x44 l45 => A.unV l45 (@hid _ ⟨fun x46 l47 => A.unV l47 (@hid _ ⟨fun x48 l49 => A.unV l49 (@hid _ ⟨fun x50 l51 => A.unV l51 (@hid _ ⟨fun x52 l53 => A.unV l53 (@hid _ ⟨fun x54 l55 => A.un0 l55 (@hid _ ⟨A.opt (inB 5 n6) (@hid _ ⟨fun x56 => A.opt (pickL [(.v x26), (.v x28), (.v x30), (.v x32), (.v x34), (.v x36), (.v x38), (.v x40), (.v x42), (.v x44), (.v x46), (.v x48), (.v x50), (.v x52), (.v x54)] 0 [(n6, 3)] 3) (@hid _ ⟨fun x57 => A.unV x57 (@hid _ ⟨fun x58 l59 => A.unV l59 (@hid _ ⟨fun x60 l61 => A.unV l61 (@hid _ ⟨fun x62 l63 => A.un0 l63 (@hid _ ⟨A.callv x58 [(.agg ⟨[(.int .i64 n10), (.int .i64 n12)]⟩)] [(.leaf (.i .i64))] h25 (@hid _ ⟨fun l64 h65 => A.unI l64 (@hid _ ⟨fun n66 l67 => A.un0 l67 (@hid _ ⟨A.ari .mul .i64 2 n8 (@hid _ ⟨fun n68 => A.cmp .lss n66 n68 (@hid _ ⟨fun t69 => A.cond t69 (@hid _ ⟨K [(.i (-1))] h65⟩) (@hid _ ⟨A.ari .mul .i64 2 n8 (@hid _ ⟨fun n70 => A.cmp .gtr n66 n70 (@hid _ ⟨fun t71 => A.cond t71 (@hid _ ⟨K [(.i 1)] h65⟩) (@hid _ ⟨K [(.i 0)] h65⟩)⟩)⟩)⟩)⟩)⟩)⟩)⟩)⟩)⟩)⟩)⟩)⟩)⟩)⟩)⟩)⟩)⟩)⟩)⟩)⟩)⟩)⟩)⟩)⟩)⟩)⟩)⟩)⟩)⟩)⟩)⟩)⟩)⟩)⟩)⟩)⟩)⟩)⟩)⟩)⟩)⟩)⟩)⟩)⟩)⟩)⟩)
theorem g78 : (fun A : Alg Prop (List HObj) => p78 A) = fun A => f78 A := by kernel_rfl
theorem h78 (ls : List Lf) (H : List HObj) (K : List Lf → List HObj → Prop) : p78 P1 ls H K = execF P1 (xc 78) sgTab drN n78 ls H K :=
  congrFun (congrFun (congrFun ((congrFun g78 P1).trans (congrFun (congrFun (congrFun e78 Prop) (List HObj)) P1)) ls) H) K
theorem u78 {ls : List Lf} {H : List HObj} {K : List Lf → List HObj → Prop} (hls : goodLs ls = true) (h : p78 P1 ls H K) : ∃ rs H', CallL cc sgTab 78 ls H rs H' ∧ K rs H' :=
  fn_ok i78 hls (h78 ls H K ▸ h)
theorem q78 {ls rs : List Lf} (hls : goodLs ls = true) (h : p78 P1 ls [] fun rs' _ => rs' = rs) : Cc 78 ls rs := by
  obtain ⟨_, _, h1, rfl⟩ := u78 hls h
  exact ct_of mixed gl_flat (sg := ⟨[.agg [.i .u8, .i .i64], .agg [.i .i64, .i .i64]], [li]⟩) rfl (by kernel_rfl) h1
/-- crimp/lines.CheckPoint -/
def p90 (A : Alg Prop (List HObj)) (ls : List Lf) (h : List HObj) (K : List Lf → List HObj → Prop) : Prop := A.unI ls (@hid _ ⟨fun n6 l7 => A.unI l7 (@hid _ ⟨fun n8 l9 => A.un0 l9 (@hid _ ⟨A.cmp .lss n6 (-65536) (@hid _ ⟨fun t10 => A.cond t10 (@hid _ ⟨K [(.i 1)] h⟩) (@hid _ ⟨A.cmp .gtr n6 65536 (@hid _ ⟨fun t11 => A.cond t11 (@hid _ ⟨K [(.i 1)] h⟩) (@hid _ ⟨A.cmp .lss n8 (-65536) (@hid _ ⟨fun t12 => A.cond t12 (@hid _ ⟨K [(.i 1)] h⟩) (@hid _ ⟨A.cmp .gtr n8 65536 (@hid _ ⟨fun t13 => A.cond t13 (@hid _ ⟨K [(.i 1)] h⟩) (@hid _ ⟨K [(.i 0)] h⟩)⟩)⟩)⟩)⟩)⟩)⟩)⟩)⟩)⟩)⟩)
theorem g90 : (fun A : Alg Prop (List HObj) => p90 A) = fun A => f90 A := by kernel_rfl
theorem h90 (ls : List Lf) (H : List HObj) (K : List Lf → List HObj → Prop) : p90 P1 ls H K = execF P1 (xc 90) sgTab drN n90 ls H K :=
  congrFun (congrFun (congrFun ((congrFun g90 P1).trans (congrFun (congrFun (congrFun e90 Prop) (List HObj)) P1)) ls) H) K
theorem u90 {ls : List Lf} {H : List HObj} {K : List Lf → List HObj → Prop} (hls : goodLs ls = true) (h : p90 P1 ls H K) : ∃ rs H', CallL cc sgTab 90 ls H rs H' ∧ K rs H' :=
  fn_ok i90 hls (h90 ls H K ▸ h)
theorem q90 {ls rs : List Lf} (hls : goodLs ls = true) (h : p90 P1 ls [] fun rs' _ => rs' = rs) : Cc 90 ls rs := by
  obtain ⟨_, _, h1, rfl⟩ := u90 hls h
  exact ct_of mixed gl_flat (sg := ⟨[.agg [.i .i64, .i .i64]], [li]⟩) rfl (by kernel_rfl) h1
/-- crimp/lines.rules -/
def p91 (A : Alg Prop (List HObj)) (ls : List Lf) (h : List HObj) (K : List Lf → List HObj → Prop) : Prop := A.un0 ls (@hid _ ⟨A.new (.cells [(.int .u8 0), (.int .u8 0), (.int .u8 0), (.int .u8 0), (.int .u8 0)] 1 true) h (@hid _ ⟨fun m6 h7 => A.heap (stP (.pointer (some ⟨m6, 0, none⟩)) [(.int .u8 0), (.int .u8 2), (.int .u8 1), (.int .u8 4), (.int .u8 3)]) h7 (@hid _ ⟨fun l8 h9 => A.chk (.func (.func 103) ⟨[]⟩ ⟨[(.pointer (some ⟨m6, 0, none⟩))]⟩) (@hid _ ⟨A.chk (.func (.func 106) ⟨[]⟩ ⟨[(.pointer (some ⟨m6, 0, none⟩))]⟩) (@hid _ ⟨K [(.v .nilFunc), (.v .nilFunc), (.v .nilFunc), (.v (.func (.func 94) ⟨[]⟩ ⟨[]⟩)), (.v (.func (.func 96) ⟨[]⟩ ⟨[]⟩)), (.v (.func (.func 97) ⟨[]⟩ ⟨[]⟩)), (.v (.func (.func 98) ⟨[]⟩ ⟨[]⟩)), (.v (.func (.func 99) ⟨[]⟩ ⟨[]⟩)), (.v (.func (.func 100) ⟨[]⟩ ⟨[]⟩)), (.v (.func (.func 101) ⟨[]⟩ ⟨[]⟩)), (.v (.func (.func 102) ⟨[]⟩ ⟨[]⟩)), (.v (.func (.func 103) ⟨[]⟩ ⟨[(.pointer (some ⟨m6, 0, none⟩))]⟩)), (.v (.func (.func 104) ⟨[]⟩ ⟨[]⟩)), (.v (.func (.func 105) ⟨[]⟩ ⟨[]⟩)), (.v (.func (.func 106) ⟨[]⟩ ⟨[(.pointer (some ⟨m6, 0, none⟩))]⟩))] h9⟩)⟩)⟩)⟩)⟩)
theorem g91 : (fun A : Alg Prop (List HObj) => p91 A) = fun A => f91 A := by kernel_rfl
theorem h91 (ls : List Lf) (H : List HObj) (K : List Lf → List HObj → Prop) : p91 P1 ls H K = execF P1 (xc 91) sgTab drN n91 ls H K :=
  congrFun (congrFun (congrFun ((congrFun g91 P1).trans (congrFun (congrFun (congrFun e91 Prop) (List HObj)) P1)) ls) H) K
theorem u91 {ls : List Lf} {H : List HObj} {K : List Lf → List HObj → Prop} (hls : goodLs ls = true) (h : p91 P1 ls H K) : ∃ rs H', CallL cc sgTab 91 ls H rs H' ∧ K rs H' :=
  fn_ok i91 hls (h91 ls H K ▸ h)
/-- crimp/lines.rules$1 -/
def p94 (A : Alg Prop (List HObj)) (ls : List Lf) (h : List HObj) (K : List Lf → List HObj → Prop) : Prop := A.unI ls (@hid _ ⟨fun n6 l7 => A.unI l7 (@hid _ ⟨fun n8 l9 => A.un0 l9 (@hid _ ⟨A.call 95 [(.i 1), (.i n6), (.i n8)] h (@hid _ ⟨fun l10 h11 => A.unI l10 (@hid _ ⟨fun n12 l13 => A.un0 l13 (@hid _ ⟨K [(.i n12)] h11⟩)⟩)⟩)⟩)⟩)⟩)
theorem g94 : (fun A : Alg Prop (List HObj) => p94 A) = fun A => f94 A := by kernel_rfl
theorem h94 (ls : List Lf) (H : List HObj) (K : List Lf → List HObj → Prop) : p94 P1 ls H K = execF P1 (xc 94) sgTab drN n94 ls H K :=
  congrFun (congrFun (congrFun ((congrFun g94 P1).trans (congrFun (congrFun (congrFun e94 Prop) (List HObj)) P1)) ls) H) K
theorem u94 {ls : List Lf} {H : List HObj} {K : List Lf → List HObj → Prop} (hls : goodLs ls = true) (h : p94 P1 ls H K) : ∃ rs H', CallL cc sgTab 94 ls H rs H' ∧ K rs H' :=
  fn_ok i94 hls (h94 ls H K ▸ h)
theorem q94 {ls rs : List Lf} (hls : goodLs ls = true) (h : p94 P1 ls [] fun rs' _ => rs' = rs) : Cc 94 ls rs := by
  obtain ⟨_, _, h1, rfl⟩ := u94 hls h
  exact ct_of mixed gl_flat (sg := ⟨[.agg [.i .i64, .i .i64]], [li]⟩) rfl (by kernel_rfl) h1
/-- crimp/lines.along -/
def p95 (A : Alg Prop (List HObj)) (ls : List Lf) (h : List HObj) (K : List Lf → List HObj → Prop) : Prop := A.unI ls (@hid _ ⟨fun n6 l7 => A.unI l7 (@hid _ ⟨fun n8 l9 => A.unI l9 (@hid _ ⟨fun n10 l11 => A.un0 l11 (@hid _ ⟨A.cmp .eql n6 1 (@hid _ ⟨fun t12 => A.cond t12 (@hid _ ⟨K [(.i n8)] h⟩) (@hid _ ⟨A.cmp .eql n6 2 (@hid _ ⟨fun t13 => A.cond t13 (@hid _ ⟨K [(.i n10)] h⟩) (@hid _ ⟨A.cmp .eql n6 3 (@hid _ ⟨fun t14 => A.cond t14 (@hid _ ⟨A.ari .add .i64 n8 n10 (@hid _ ⟨fun n15 => K [(.i n15)] h⟩)⟩) (@hid _ ⟨A.ari .sub .i64 n10 n8 (@hid _ ⟨fun n16 => K [(.i n16)] h⟩)⟩)⟩)⟩)⟩)⟩)⟩)⟩)⟩)⟩)⟩)
theorem g95 : (fun A : Alg Prop (List HObj) => p95 A) = fun A => f95 A := by kernel_rfl
theorem h95 (ls : List Lf) (H : List HObj) (K : List Lf → List HObj → Prop) : p95 P1 ls H K = execF P1 (xc 95) sgTab drN n95 ls H K :=
  congrFun (congrFun (congrFun ((congrFun g95 P1).trans (congrFun (congrFun (congrFun e95 Prop) (List HObj)) P1)) ls) H) K
theorem u95 {ls : List Lf} {H : List HObj} {K : List Lf → List HObj → Prop} (hls : goodLs ls = true) (h : p95 P1 ls H K) : ∃ rs H', CallL cc sgTab 95 ls H rs H' ∧ K rs H' :=
  fn_ok i95 hls (h95 ls H K ▸ h)
theorem q95 {ls rs : List Lf} (hls : goodLs ls = true) (h : p95 P1 ls [] fun rs' _ => rs' = rs) : Cc 95 ls rs := by
  obtain ⟨_, _, h1, rfl⟩ := u95 hls h
  exact ct_of mixed gl_flat (sg := ⟨[.leaf (.i .u8), .agg [.i .i64, .i .i64]], [li]⟩) rfl (by kernel_rfl) h1
/-- crimp/lines.rules$4 -/
def p98 (A : Alg Prop (List HObj)) (ls : List Lf) (h : List HObj) (K : List Lf → List HObj → Prop) : Prop := A.unI ls (@hid _ ⟨fun n6 l7 => A.unI l7 (@hid _ ⟨fun n8 l9 => A.un0 l9 (@hid _ ⟨A.call 95 [(.i 2), (.i n6), (.i n8)] h (@hid _ ⟨fun l10 h11 => A.unI l10 (@hid _ ⟨fun n12 l13 => A.un0 l13 (@hid _ ⟨K [(.i n12)] h11⟩)⟩)⟩)⟩)⟩)⟩)
theorem g98 : (fun A : Alg Prop (List HObj) => p98 A) = fun A => f98 A := by kernel_rfl
theorem h98 (ls : List Lf) (H : List HObj) (K : List Lf → List HObj → Prop) : p98 P1 ls H K = execF P1 (xc 98) sgTab drN n98 ls H K :=
  congrFun (congrFun (congrFun ((congrFun g98 P1).trans (congrFun (congrFun (congrFun e98 Prop) (List HObj)) P1)) ls) H) K
theorem u98 {ls : List Lf} {H : List HObj} {K : List Lf → List HObj → Prop} (hls : goodLs ls = true) (h : p98 P1 ls H K) : ∃ rs H', CallL cc sgTab 98 ls H rs H' ∧ K rs H' :=
  fn_ok i98 hls (h98 ls H K ▸ h)
theorem q98 {ls rs : List Lf} (hls : goodLs ls = true) (h : p98 P1 ls [] fun rs' _ => rs' = rs) : Cc 98 ls rs := by
  obtain ⟨_, _, h1, rfl⟩ := u98 hls h
  exact ct_of mixed gl_flat (sg := ⟨[.agg [.i .i64, .i .i64]], [li]⟩) rfl (by kernel_rfl) h1
/-- crimp/lines.rules$7 -/
def p101 (A : Alg Prop (List HObj)) (ls : List Lf) (h : List HObj) (K : List Lf → List HObj → Prop) : Prop := A.unI ls (@hid _ ⟨fun n6 l7 => A.unI l7 (@hid _ ⟨fun n8 l9 => A.un0 l9 (@hid _ ⟨A.call 95 [(.i 3), (.i n6), (.i n8)] h (@hid _ ⟨fun l10 h11 => A.unI l10 (@hid _ ⟨fun n12 l13 => A.un0 l13 (@hid _ ⟨K [(.i n12)] h11⟩)⟩)⟩)⟩)⟩)⟩)
theorem g101 : (fun A : Alg Prop (List HObj) => p101 A) = fun A => f101 A := by kernel_rfl
theorem h101 (ls : List Lf) (H : List HObj) (K : List Lf → List HObj → Prop) : p101 P1 ls H K = execF P1 (xc 101) sgTab drN n101 ls H K :=
  congrFun (congrFun (congrFun ((congrFun g101 P1).trans (congrFun (congrFun (congrFun e101 Prop) (List HObj)) P1)) ls) H) K
theorem u101 {ls : List Lf} {H : List HObj} {K : List Lf → List HObj → Prop} (hls : goodLs ls = true) (h : p101 P1 ls H K) : ∃ rs H', CallL cc sgTab 101 ls H rs H' ∧ K rs H' :=
  fn_ok i101 hls (h101 ls H K ▸ h)
theorem q101 {ls rs : List Lf} (hls : goodLs ls = true) (h : p101 P1 ls [] fun rs' _ => rs' = rs) : Cc 101 ls rs := by
  obtain ⟨_, _, h1, rfl⟩ := u101 hls h
  exact ct_of mixed gl_flat (sg := ⟨[.agg [.i .i64, .i .i64]], [li]⟩) rfl (by kernel_rfl) h1
/-- crimp/lines.rules$10 -/
def p104 (A : Alg Prop (List HObj)) (ls : List Lf) (h : List HObj) (K : List Lf → List HObj → Prop) : Prop := A.unI ls (@hid _ ⟨fun n6 l7 => A.unI l7 (@hid _ ⟨fun n8 l9 => A.un0 l9 (@hid _ ⟨A.call 95 [(.i 4), (.i n6), (.i n8)] h (@hid _ ⟨fun l10 h11 => A.unI l10 (@hid _ ⟨fun n12 l13 => A.un0 l13 (@hid _ ⟨K [(.i n12)] h11⟩)⟩)⟩)⟩)⟩)⟩)
theorem g104 : (fun A : Alg Prop (List HObj) => p104 A) = fun A => f104 A := by kernel_rfl
theorem h104 (ls : List Lf) (H : List HObj) (K : List Lf → List HObj → Prop) : p104 P1 ls H K = execF P1 (xc 104) sgTab drN n104 ls H K :=
  congrFun (congrFun (congrFun ((congrFun g104 P1).trans (congrFun (congrFun (congrFun e104 Prop) (List HObj)) P1)) ls) H) K
theorem u104 {ls : List Lf} {H : List HObj} {K : List Lf → List HObj → Prop} (hls : goodLs ls = true) (h : p104 P1 ls H K) : ∃ rs H', CallL cc sgTab 104 ls H rs H' ∧ K rs H' :=
  fn_ok i104 hls (h104 ls H K ▸ h)
theorem q104 {ls rs : List Lf} (hls : goodLs ls = true) (h : p104 P1 ls [] fun rs' _ => rs' = rs) : Cc 104 ls rs := by
  obtain ⟨_, _, h1, rfl⟩ := u104 hls h
  exact ct_of mixed gl_flat (sg := ⟨[.agg [.i .i64, .i .i64]], [li]⟩) rfl (by kernel_rfl) h1
end Go.Am

/-
  CONTRACTS, BY PROGRAM: checks, far, mirror images, corners.
-/
set_option maxRecDepth 100000
namespace Go.Am
open Sx Go.Proofs

theorem cellCheck_ok {x y q : Int} (h : ¬ (x < -4096) ∧ ¬ (4096 < x) ∧ ¬ (y < -4096) ∧ ¬ (4096 < y) ∧ ¬ (3 < q)) : Cc 43 [.i x, .i y, .i q] [.i 0] := by
  refine q43 rfl ?_; unfold p43
  simp (disch := omega) only [↓qxs, ↓qxc, ↓qxa]
theorem cellCheck_no {x y q : Int} (h : ¬ (¬ (x < -4096) ∧ ¬ (4096 < x) ∧ ¬ (y < -4096) ∧ ¬ (4096 < y) ∧ ¬ (3 < q))) : Cc 43 [.i x, .i y, .i q] [.i 1] := by
  refine q43 rfl ?_; unfold p43
  by_cases h0 : x < -4096
  · simp (disch := omega) only [↓qxs, ↓qxc, ↓qxa]
  by_cases h1 : 4096 < x
  · simp (disch := omega) only [↓qxs, ↓qxc, ↓qxa]
  by_cases h2 : y < -4096
  · simp (disch := omega) only [↓qxs, ↓qxc, ↓qxa]
  by_cases h3 : 4096 < y
  · simp (disch := omega) only [↓qxs, ↓qxc, ↓qxa]
  simp (disch := omega) only [↓qxs, ↓qxc, ↓qxa]
theorem lineCheck_ok {k c : Int} (h : ¬ (k < 1) ∧ ¬ (4 < k) ∧ ¬ (c < -4096) ∧ ¬ (4096 < c)) : Cc 74 [.i k, .i c] [.i 0] := by
  refine q74 rfl ?_; unfold p74
  simp (disch := omega) only [↓qxs, ↓qxc, ↓qxa]
theorem pointCheck_ok {x y : Int} (h : ¬ (x < -65536) ∧ ¬ (65536 < x) ∧ ¬ (y < -65536) ∧ ¬ (65536 < y)) : Cc 90 [.i x, .i y] [.i 0] := by
  refine q90 rfl ?_; unfold p90
  simp (disch := omega) only [↓qxs, ↓qxc, ↓qxa]
theorem v3_ok {x y q : Int} (h : ¬ (x < -4096) ∧ ¬ (4096 < x) ∧ ¬ (y < -4096) ∧ ¬ (4096 < y) ∧ ¬ (3 < q)) : Cc 42 [.i x, .i y, .i q] [.i 1] := by
  refine q42 rfl ?_; unfold p42
  simp (disch := omega) only [↓qxs, ↓qxc, ↓qxa]
theorem v3_no {x y q : Int} (h : ¬ (¬ (x < -4096) ∧ ¬ (4096 < x) ∧ ¬ (y < -4096) ∧ ¬ (4096 < y) ∧ ¬ (3 < q))) : Cc 42 [.i x, .i y, .i q] [.i 0] := by
  refine q42 rfl ?_; unfold p42
  by_cases h0 : x < -4096
  · simp (disch := omega) only [↓qxs, ↓qxc, ↓qxa]
  by_cases h1 : 4096 < x
  · simp (disch := omega) only [↓qxs, ↓qxc, ↓qxa]
  by_cases h2 : y < -4096
  · simp (disch := omega) only [↓qxs, ↓qxc, ↓qxa]
  by_cases h3 : 4096 < y
  · simp (disch := omega) only [↓qxs, ↓qxc, ↓qxa]
  simp (disch := omega) only [↓qxs, ↓qxc, ↓qxa]
theorem v1_ok {k c : Int} (h : ¬ (k < 1) ∧ ¬ (4 < k) ∧ ¬ (c < -4096) ∧ ¬ (4096 < c)) : Cc 46 [.i k, .i c] [.i 1] := by
  refine q46 rfl ?_; unfold p46
  simp (disch := omega) only [↓qxs, ↓qxc, ↓qxa]
theorem v1_no {k c : Int} (h : ¬ (¬ (k < 1) ∧ ¬ (4 < k) ∧ ¬ (c < -4096) ∧ ¬ (4096 < c))) : Cc 46 [.i k, .i c] [.i 0] := by
  refine q46 rfl ?_; unfold p46
  by_cases h0 : k < 1
  · simp (disch := omega) only [↓qxs, ↓qxc, ↓qxa]
  by_cases h1 : 4 < k
  · simp (disch := omega) only [↓qxs, ↓qxc, ↓qxa]
  by_cases h2 : c < -4096
  · simp (disch := omega) only [↓qxs, ↓qxc, ↓qxa]
  simp (disch := omega) only [↓qxs, ↓qxc, ↓qxa]
theorem across1 : Cc 70 [.i 1] [.i 1, .i 0] := by
  refine q70 rfl ?_; unfold p70
  simp (disch := omega) only [↓qxs, ↓qxc, ↓qxa]
theorem across2 : Cc 70 [.i 2] [.i 0, .i 1] := by
  refine q70 rfl ?_; unfold p70
  simp (disch := omega) only [↓qxs, ↓qxc, ↓qxa]
theorem across3 : Cc 70 [.i 3] [.i 1, .i 1] := by
  refine q70 rfl ?_; unfold p70
  simp (disch := omega) only [↓qxs, ↓qxc, ↓qxa]
theorem across4 : Cc 70 [.i 4] [.i (-1), .i 1] := by
  refine q70 rfl ?_; unfold p70
  simp (disch := omega) only [↓qxs, ↓qxc, ↓qxa]
theorem far1 {c x y : Int} (h : -1000000 ≤ c ∧ c ≤ 1000000 ∧ -1000000 ≤ x ∧ x ≤ 1000000 ∧ -1000000 ≤ y ∧ y ≤ 1000000) : Cc 28 [.i 1, .i c, .i x, .i y] [.i (x - 2 * c)] := by
  refine q28 rfl ?_; unfold p28
  repeat (first | simp (disch := omega) only [↓qxs, ↓qxc, ↓qxa] | refine p_call across1 ?_)
  (try simp only [List.cons.injEq, Lf.i.injEq, and_true, true_and]); (try omega)
theorem far2 {c x y : Int} (h : -1000000 ≤ c ∧ c ≤ 1000000 ∧ -1000000 ≤ x ∧ x ≤ 1000000 ∧ -1000000 ≤ y ∧ y ≤ 1000000) : Cc 28 [.i 2, .i c, .i x, .i y] [.i (y - 2 * c)] := by
  refine q28 rfl ?_; unfold p28
  repeat (first | simp (disch := omega) only [↓qxs, ↓qxc, ↓qxa] | refine p_call across2 ?_)
  (try simp only [List.cons.injEq, Lf.i.injEq, and_true, true_and]); (try omega)
theorem far3 {c x y : Int} (h : -1000000 ≤ c ∧ c ≤ 1000000 ∧ -1000000 ≤ x ∧ x ≤ 1000000 ∧ -1000000 ≤ y ∧ y ≤ 1000000) : Cc 28 [.i 3, .i c, .i x, .i y] [.i (x + y - 2 * c)] := by
  refine q28 rfl ?_; unfold p28
  repeat (first | simp (disch := omega) only [↓qxs, ↓qxc, ↓qxa] | refine p_call across3 ?_)
  (try simp only [List.cons.injEq, Lf.i.injEq, and_true, true_and]); (try omega)
theorem far4 {c x y : Int} (h : -1000000 ≤ c ∧ c ≤ 1000000 ∧ -1000000 ≤ x ∧ x ≤ 1000000 ∧ -1000000 ≤ y ∧ y ≤ 1000000) : Cc 28 [.i 4, .i c, .i x, .i y] [.i (y - x - 2 * c)] := by
  refine q28 rfl ?_; unfold p28
  repeat (first | simp (disch := omega) only [↓qxs, ↓qxc, ↓qxa] | refine p_call across4 ?_)
  (try simp only [List.cons.injEq, Lf.i.injEq, and_true, true_and]); (try omega)
theorem refl1 {c x y : Int} (h : -1000000 ≤ c ∧ c ≤ 1000000 ∧ -1000000 ≤ x ∧ x ≤ 1000000 ∧ -1000000 ≤ y ∧ y ≤ 1000000) : Cc 76 [.i 1, .i c, .i x, .i y] [.i (4 * c - x), .i y] := by
  refine q76 rfl ?_; unfold p76
  repeat (first | simp (disch := omega) only [↓qxs, ↓qxc, ↓qxa] | refine p_ari_2 (by simp only [Int.reduceToNat, Int.reduceAdd, Int.reduceMul, Int.reduceMod, Int.reduceSub, Int.reduceNeg, Int.reduceDiv, Nat.reduceAdd, Nat.reduceMul, Nat.reduceLeDiff, List.length_cons, List.length_nil, ↓reduceIte, List.drop_succ_cons, List.drop_zero, List.take_succ_cons, List.take_zero, List.cons_append, List.nil_append, Nat.zero_add, Int.toNat_zero, Nat.zero_mul, Nat.add_zero, Int.zero_add]; exact rfl) ?_ | refine p_call across1 ?_ | refine p_call (far1 (by omega)) ?_)
  (try simp only [List.cons.injEq, Lf.i.injEq, and_true, true_and]); (try omega)
theorem refl2 {c x y : Int} (h : -1000000 ≤ c ∧ c ≤ 1000000 ∧ -1000000 ≤ x ∧ x ≤ 1000000 ∧ -1000000 ≤ y ∧ y ≤ 1000000) : Cc 76 [.i 2, .i c, .i x, .i y] [.i x, .i (4 * c - y)] := by
  refine q76 rfl ?_; unfold p76
  repeat (first | simp (disch := omega) only [↓qxs, ↓qxc, ↓qxa] | refine p_ari_2 (by simp only [Int.reduceToNat, Int.reduceAdd, Int.reduceMul, Int.reduceMod, Int.reduceSub, Int.reduceNeg, Int.reduceDiv, Nat.reduceAdd, Nat.reduceMul, Nat.reduceLeDiff, List.length_cons, List.length_nil, ↓reduceIte, List.drop_succ_cons, List.drop_zero, List.take_succ_cons, List.take_zero, List.cons_append, List.nil_append, Nat.zero_add, Int.toNat_zero, Nat.zero_mul, Nat.add_zero, Int.zero_add]; exact rfl) ?_ | refine p_call across2 ?_ | refine p_call (far2 (by omega)) ?_)
  (try simp only [List.cons.injEq, Lf.i.injEq, and_true, true_and]); (try omega)
theorem refl3 {c x y : Int} (h : -1000000 ≤ c ∧ c ≤ 1000000 ∧ -1000000 ≤ x ∧ x ≤ 1000000 ∧ -1000000 ≤ y ∧ y ≤ 1000000) : Cc 76 [.i 3, .i c, .i x, .i y] [.i (2 * c - y), .i (2 * c - x)] := by
  refine q76 rfl ?_; unfold p76
  repeat (first | simp (disch := omega) only [↓qxs, ↓qxc, ↓qxa] | refine p_ari_2 (by simp only [Int.reduceToNat, Int.reduceAdd, Int.reduceMul, Int.reduceMod, Int.reduceSub, Int.reduceNeg, Int.reduceDiv, Nat.reduceAdd, Nat.reduceMul, Nat.reduceLeDiff, List.length_cons, List.length_nil, ↓reduceIte, List.drop_succ_cons, List.drop_zero, List.take_succ_cons, List.take_zero, List.cons_append, List.nil_append, Nat.zero_add, Int.toNat_zero, Nat.zero_mul, Nat.add_zero, Int.zero_add]; exact rfl) ?_ | refine p_call across3 ?_ | refine p_call (far3 (by omega)) ?_)
  (try simp only [List.cons.injEq, Lf.i.injEq, and_true, true_and]); (try omega)
theorem refl4 {c x y : Int} (h : -1000000 ≤ c ∧ c ≤ 1000000 ∧ -1000000 ≤ x ∧ x ≤ 1000000 ∧ -1000000 ≤ y ∧ y ≤ 1000000) : Cc 76 [.i 4, .i c, .i x, .i y] [.i (y - 2 * c), .i (x + 2 * c)] := by
  refine q76 rfl ?_; unfold p76
  repeat (first | simp (disch := omega) only [↓qxs, ↓qxc, ↓qxa] | refine p_ari_2 (by simp only [Int.reduceToNat, Int.reduceAdd, Int.reduceMul, Int.reduceMod, Int.reduceSub, Int.reduceNeg, Int.reduceDiv, Nat.reduceAdd, Nat.reduceMul, Nat.reduceLeDiff, List.length_cons, List.length_nil, ↓reduceIte, List.drop_succ_cons, List.drop_zero, List.take_succ_cons, List.take_zero, List.cons_append, List.nil_append, Nat.zero_add, Int.toNat_zero, Nat.zero_mul, Nat.add_zero, Int.zero_add]; exact rfl) ?_ | refine p_call across4 ?_ | refine p_call (far4 (by omega)) ?_)
  (try simp only [List.cons.injEq, Lf.i.injEq, and_true, true_and]); (try omega)
theorem rcorn0 {x y : Int} (h : -1000000 ≤ x ∧ x ≤ 1000000 ∧ -1000000 ≤ y ∧ y ≤ 1000000) : Cc 45 [.i x, .i y, .i 0] [.i (2 * x + 1), .i (2 * y + 1), .i (2 * x), .i (2 * y), .i (2 * x + 2), .i (2 * y)] := by
  refine q45 rfl ?_; unfold p45
  repeat (first | simp (disch := omega) only [↓qxs, ↓qxc, ↓qxa] | refine p_opt_r (by simp only [pickL, putL, offX, Int.reduceToNat, Int.reduceAdd, Int.reduceMul, Int.reduceMod, Int.reduceSub, Int.reduceNeg, Int.reduceDiv, Nat.reduceAdd, Nat.reduceMul, Nat.reduceLeDiff, List.length_cons, List.length_nil, ↓reduceIte, List.drop_succ_cons, List.drop_zero, List.take_succ_cons, List.take_zero, List.cons_append, List.nil_append, Nat.zero_add, Int.toNat_zero, Nat.zero_mul, Nat.add_zero, Int.zero_add]; exact rfl) ?_)
  (try simp only [List.cons.injEq, Lf.i.injEq, and_true, true_and]); (try omega)
theorem rcorn1 {x y : Int} (h : -1000000 ≤ x ∧ x ≤ 1000000 ∧ -1000000 ≤ y ∧ y ≤ 1000000) : Cc 45 [.i x, .i y, .i 1] [.i (2 * x + 1), .i (2 * y + 1), .i (2 * x + 2), .i (2 * y + 2), .i (2 * x + 2), .i (2 * y)] := by
  refine q45 rfl ?_; unfold p45
  repeat (first | simp (disch := omega) only [↓qxs, ↓qxc, ↓qxa] | refine p_opt_r (by simp only [pickL, putL, offX, Int.reduceToNat, Int.reduceAdd, Int.reduceMul, Int.reduceMod, Int.reduceSub, Int.reduceNeg, Int.reduceDiv, Nat.reduceAdd, Nat.reduceMul, Nat.reduceLeDiff, List.length_cons, List.length_nil, ↓reduceIte, List.drop_succ_cons, List.drop_zero, List.take_succ_cons, List.take_zero, List.cons_append, List.nil_append, Nat.zero_add, Int.toNat_zero, Nat.zero_mul, Nat.add_zero, Int.zero_add]; exact rfl) ?_)
  (try simp only [List.cons.injEq, Lf.i.injEq, and_true, true_and]); (try omega)
theorem rcorn2 {x y : Int} (h : -1000000 ≤ x ∧ x ≤ 1000000 ∧ -1000000 ≤ y ∧ y ≤ 1000000) : Cc 45 [.i x, .i y, .i 2] [.i (2 * x + 1), .i (2 * y + 1), .i (2 * x + 2), .i (2 * y + 2), .i (2 * x), .i (2 * y + 2)] := by
  refine q45 rfl ?_; unfold p45
  repeat (first | simp (disch := omega) only [↓qxs, ↓qxc, ↓qxa] | refine p_opt_r (by simp only [pickL, putL, offX, Int.reduceToNat, Int.reduceAdd, Int.reduceMul, Int.reduceMod, Int.reduceSub, Int.reduceNeg, Int.reduceDiv, Nat.reduceAdd, Nat.reduceMul, Nat.reduceLeDiff, List.length_cons, List.length_nil, ↓reduceIte, List.drop_succ_cons, List.drop_zero, List.take_succ_cons, List.take_zero, List.cons_append, List.nil_append, Nat.zero_add, Int.toNat_zero, Nat.zero_mul, Nat.add_zero, Int.zero_add]; exact rfl) ?_)
  (try simp only [List.cons.injEq, Lf.i.injEq, and_true, true_and]); (try omega)
theorem rcorn3 {x y : Int} (h : -1000000 ≤ x ∧ x ≤ 1000000 ∧ -1000000 ≤ y ∧ y ≤ 1000000) : Cc 45 [.i x, .i y, .i 3] [.i (2 * x + 1), .i (2 * y + 1), .i (2 * x), .i (2 * y), .i (2 * x), .i (2 * y + 2)] := by
  refine q45 rfl ?_; unfold p45
  repeat (first | simp (disch := omega) only [↓qxs, ↓qxc, ↓qxa] | refine p_opt_r (by simp only [pickL, putL, offX, Int.reduceToNat, Int.reduceAdd, Int.reduceMul, Int.reduceMod, Int.reduceSub, Int.reduceNeg, Int.reduceDiv, Nat.reduceAdd, Nat.reduceMul, Nat.reduceLeDiff, List.length_cons, List.length_nil, ↓reduceIte, List.drop_succ_cons, List.drop_zero, List.take_succ_cons, List.take_zero, List.cons_append, List.nil_append, Nat.zero_add, Int.toNat_zero, Nat.zero_mul, Nat.add_zero, Int.zero_add]; exact rfl) ?_)
  (try simp only [List.cons.injEq, Lf.i.injEq, and_true, true_and]); (try omega)
end Go.Am
/-
  CONTRACTS, BY PROGRAM: cells by their corners, the lines of edges.
-/
set_option maxRecDepth 100000
namespace Go.Am
open Sx Go.Proofs

theorem with00 {m n a b c d : Int} (h : m % 2 = 1 ∧ n % 2 = 1 ∧ -1000000 ≤ m ∧ m ≤ 1000000 ∧ -1000000 ≤ n ∧ n ≤ 1000000 ∧ a = m - 1 ∧ b = n - 1 ∧ c = m + 1 ∧ d = n - 1) : Cc 77 [.i m, .i n, .i a, .i b, .i c, .i d] [.i ((m - 1) / 2), .i ((n - 1) / 2), .i 0] := by
  refine q77 rfl ?_; unfold p77
  rcases Int.le_total 0 m with hm | hm <;> rcases Int.le_total 0 n with hn | hn
  all_goals
    (repeat (first | simp (disch := omega) only [↓qxs, ↓qxc, ↓qxa] | refine p_opt_r (by simp only [pickL, putL, offX, Int.reduceToNat, Int.reduceAdd, Int.reduceMul, Int.reduceMod, Int.reduceSub, Int.reduceNeg, Int.reduceDiv, Nat.reduceAdd, Nat.reduceMul, Nat.reduceLeDiff, List.length_cons, List.length_nil, ↓reduceIte, List.drop_succ_cons, List.drop_zero, List.take_succ_cons, List.take_zero, List.cons_append, List.nil_append, Nat.zero_add, Int.toNat_zero, Nat.zero_mul, Nat.add_zero, Int.zero_add]; exact rfl) ?_ | refine p_loop 5 ?_ | refine p_call (rcorn0 (by omega)) ?_ | refine p_call (rcorn1 (by omega)) ?_ | refine p_call (rcorn2 (by omega)) ?_ | refine p_call (rcorn3 (by omega)) ?_); (try simp only [List.cons.injEq, Lf.i.injEq, and_true, true_and]); (try omega))
theorem with01 {m n a b c d : Int} (h : m % 2 = 1 ∧ n % 2 = 1 ∧ -1000000 ≤ m ∧ m ≤ 1000000 ∧ -1000000 ≤ n ∧ n ≤ 1000000 ∧ a = m + 1 ∧ b = n - 1 ∧ c = m - 1 ∧ d = n - 1) : Cc 77 [.i m, .i n, .i a, .i b, .i c, .i d] [.i ((m - 1) / 2), .i ((n - 1) / 2), .i 0] := by
  refine q77 rfl ?_; unfold p77
  rcases Int.le_total 0 m with hm | hm <;> rcases Int.le_total 0 n with hn | hn
  all_goals
    (repeat (first | simp (disch := omega) only [↓qxs, ↓qxc, ↓qxa] | refine p_opt_r (by simp only [pickL, putL, offX, Int.reduceToNat, Int.reduceAdd, Int.reduceMul, Int.reduceMod, Int.reduceSub, Int.reduceNeg, Int.reduceDiv, Nat.reduceAdd, Nat.reduceMul, Nat.reduceLeDiff, List.length_cons, List.length_nil, ↓reduceIte, List.drop_succ_cons, List.drop_zero, List.take_succ_cons, List.take_zero, List.cons_append, List.nil_append, Nat.zero_add, Int.toNat_zero, Nat.zero_mul, Nat.add_zero, Int.zero_add]; exact rfl) ?_ | refine p_loop 5 ?_ | refine p_call (rcorn0 (by omega)) ?_ | refine p_call (rcorn1 (by omega)) ?_ | refine p_call (rcorn2 (by omega)) ?_ | refine p_call (rcorn3 (by omega)) ?_); (try simp only [List.cons.injEq, Lf.i.injEq, and_true, true_and]); (try omega))
theorem with10 {m n a b c d : Int} (h : m % 2 = 1 ∧ n % 2 = 1 ∧ -1000000 ≤ m ∧ m ≤ 1000000 ∧ -1000000 ≤ n ∧ n ≤ 1000000 ∧ a = m + 1 ∧ b = n + 1 ∧ c = m + 1 ∧ d = n - 1) : Cc 77 [.i m, .i n, .i a, .i b, .i c, .i d] [.i ((m - 1) / 2), .i ((n - 1) / 2), .i 1] := by
  refine q77 rfl ?_; unfold p77
  rcases Int.le_total 0 m with hm | hm <;> rcases Int.le_total 0 n with hn | hn
  all_goals
    (repeat (first | simp (disch := omega) only [↓qxs, ↓qxc, ↓qxa] | refine p_opt_r (by simp only [pickL, putL, offX, Int.reduceToNat, Int.reduceAdd, Int.reduceMul, Int.reduceMod, Int.reduceSub, Int.reduceNeg, Int.reduceDiv, Nat.reduceAdd, Nat.reduceMul, Nat.reduceLeDiff, List.length_cons, List.length_nil, ↓reduceIte, List.drop_succ_cons, List.drop_zero, List.take_succ_cons, List.take_zero, List.cons_append, List.nil_append, Nat.zero_add, Int.toNat_zero, Nat.zero_mul, Nat.add_zero, Int.zero_add]; exact rfl) ?_ | refine p_loop 5 ?_ | refine p_call (rcorn0 (by omega)) ?_ | refine p_call (rcorn1 (by omega)) ?_ | refine p_call (rcorn2 (by omega)) ?_ | refine p_call (rcorn3 (by omega)) ?_); (try simp only [List.cons.injEq, Lf.i.injEq, and_true, true_and]); (try omega))
theorem with11 {m n a b c d : Int} (h : m % 2 = 1 ∧ n % 2 = 1 ∧ -1000000 ≤ m ∧ m ≤ 1000000 ∧ -1000000 ≤ n ∧ n ≤ 1000000 ∧ a = m + 1 ∧ b = n - 1 ∧ c = m + 1 ∧ d = n + 1) : Cc 77 [.i m, .i n, .i a, .i b, .i c, .i d] [.i ((m - 1) / 2), .i ((n - 1) / 2), .i 1] := by
  refine q77 rfl ?_; unfold p77
  rcases Int.le_total 0 m with hm | hm <;> rcases Int.le_total 0 n with hn | hn
  all_goals
    (repeat (first | simp (disch := omega) only [↓qxs, ↓qxc, ↓qxa] | refine p_opt_r (by simp only [pickL, putL, offX, Int.reduceToNat, Int.reduceAdd, Int.reduceMul, Int.reduceMod, Int.reduceSub, Int.reduceNeg, Int.reduceDiv, Nat.reduceAdd, Nat.reduceMul, Nat.reduceLeDiff, List.length_cons, List.length_nil, ↓reduceIte, List.drop_succ_cons, List.drop_zero, List.take_succ_cons, List.take_zero, List.cons_append, List.nil_append, Nat.zero_add, Int.toNat_zero, Nat.zero_mul, Nat.add_zero, Int.zero_add]; exact rfl) ?_ | refine p_loop 5 ?_ | refine p_call (rcorn0 (by omega)) ?_ | refine p_call (rcorn1 (by omega)) ?_ | refine p_call (rcorn2 (by omega)) ?_ | refine p_call (rcorn3 (by omega)) ?_); (try simp only [List.cons.injEq, Lf.i.injEq, and_true, true_and]); (try omega))
theorem with20 {m n a b c d : Int} (h : m % 2 = 1 ∧ n % 2 = 1 ∧ -1000000 ≤ m ∧ m ≤ 1000000 ∧ -1000000 ≤ n ∧ n ≤ 1000000 ∧ a = m + 1 ∧ b = n + 1 ∧ c = m - 1 ∧ d = n + 1) : Cc 77 [.i m, .i n, .i a, .i b, .i c, .i d] [.i ((m - 1) / 2), .i ((n - 1) / 2), .i 2] := by
  refine q77 rfl ?_; unfold p77
  rcases Int.le_total 0 m with hm | hm <;> rcases Int.le_total 0 n with hn | hn
  all_goals
    (repeat (first | simp (disch := omega) only [↓qxs, ↓qxc, ↓qxa] | refine p_opt_r (by simp only [pickL, putL, offX, Int.reduceToNat, Int.reduceAdd, Int.reduceMul, Int.reduceMod, Int.reduceSub, Int.reduceNeg, Int.reduceDiv, Nat.reduceAdd, Nat.reduceMul, Nat.reduceLeDiff, List.length_cons, List.length_nil, ↓reduceIte, List.drop_succ_cons, List.drop_zero, List.take_succ_cons, List.take_zero, List.cons_append, List.nil_append, Nat.zero_add, Int.toNat_zero, Nat.zero_mul, Nat.add_zero, Int.zero_add]; exact rfl) ?_ | refine p_loop 5 ?_ | refine p_call (rcorn0 (by omega)) ?_ | refine p_call (rcorn1 (by omega)) ?_ | refine p_call (rcorn2 (by omega)) ?_ | refine p_call (rcorn3 (by omega)) ?_); (try simp only [List.cons.injEq, Lf.i.injEq, and_true, true_and]); (try omega))
theorem with21 {m n a b c d : Int} (h : m % 2 = 1 ∧ n % 2 = 1 ∧ -1000000 ≤ m ∧ m ≤ 1000000 ∧ -1000000 ≤ n ∧ n ≤ 1000000 ∧ a = m - 1 ∧ b = n + 1 ∧ c = m + 1 ∧ d = n + 1) : Cc 77 [.i m, .i n, .i a, .i b, .i c, .i d] [.i ((m - 1) / 2), .i ((n - 1) / 2), .i 2] := by
  refine q77 rfl ?_; unfold p77
  rcases Int.le_total 0 m with hm | hm <;> rcases Int.le_total 0 n with hn | hn
  all_goals
    (repeat (first | simp (disch := omega) only [↓qxs, ↓qxc, ↓qxa] | refine p_opt_r (by simp only [pickL, putL, offX, Int.reduceToNat, Int.reduceAdd, Int.reduceMul, Int.reduceMod, Int.reduceSub, Int.reduceNeg, Int.reduceDiv, Nat.reduceAdd, Nat.reduceMul, Nat.reduceLeDiff, List.length_cons, List.length_nil, ↓reduceIte, List.drop_succ_cons, List.drop_zero, List.take_succ_cons, List.take_zero, List.cons_append, List.nil_append, Nat.zero_add, Int.toNat_zero, Nat.zero_mul, Nat.add_zero, Int.zero_add]; exact rfl) ?_ | refine p_loop 5 ?_ | refine p_call (rcorn0 (by omega)) ?_ | refine p_call (rcorn1 (by omega)) ?_ | refine p_call (rcorn2 (by omega)) ?_ | refine p_call (rcorn3 (by omega)) ?_); (try simp only [List.cons.injEq, Lf.i.injEq, and_true, true_and]); (try omega))
theorem with30 {m n a b c d : Int} (h : m % 2 = 1 ∧ n % 2 = 1 ∧ -1000000 ≤ m ∧ m ≤ 1000000 ∧ -1000000 ≤ n ∧ n ≤ 1000000 ∧ a = m - 1 ∧ b = n - 1 ∧ c = m - 1 ∧ d = n + 1) : Cc 77 [.i m, .i n, .i a, .i b, .i c, .i d] [.i ((m - 1) / 2), .i ((n - 1) / 2), .i 3] := by
  refine q77 rfl ?_; unfold p77
  rcases Int.le_total 0 m with hm | hm <;> rcases Int.le_total 0 n with hn | hn
  all_goals
    (repeat (first | simp (disch := omega) only [↓qxs, ↓qxc, ↓qxa] | refine p_opt_r (by simp only [pickL, putL, offX, Int.reduceToNat, Int.reduceAdd, Int.reduceMul, Int.reduceMod, Int.reduceSub, Int.reduceNeg, Int.reduceDiv, Nat.reduceAdd, Nat.reduceMul, Nat.reduceLeDiff, List.length_cons, List.length_nil, ↓reduceIte, List.drop_succ_cons, List.drop_zero, List.take_succ_cons, List.take_zero, List.cons_append, List.nil_append, Nat.zero_add, Int.toNat_zero, Nat.zero_mul, Nat.add_zero, Int.zero_add]; exact rfl) ?_ | refine p_loop 5 ?_ | refine p_call (rcorn0 (by omega)) ?_ | refine p_call (rcorn1 (by omega)) ?_ | refine p_call (rcorn2 (by omega)) ?_ | refine p_call (rcorn3 (by omega)) ?_); (try simp only [List.cons.injEq, Lf.i.injEq, and_true, true_and]); (try omega))
theorem with31 {m n a b c d : Int} (h : m % 2 = 1 ∧ n % 2 = 1 ∧ -1000000 ≤ m ∧ m ≤ 1000000 ∧ -1000000 ≤ n ∧ n ≤ 1000000 ∧ a = m - 1 ∧ b = n + 1 ∧ c = m - 1 ∧ d = n - 1) : Cc 77 [.i m, .i n, .i a, .i b, .i c, .i d] [.i ((m - 1) / 2), .i ((n - 1) / 2), .i 3] := by
  refine q77 rfl ?_; unfold p77
  rcases Int.le_total 0 m with hm | hm <;> rcases Int.le_total 0 n with hn | hn
  all_goals
    (repeat (first | simp (disch := omega) only [↓qxs, ↓qxc, ↓qxa] | refine p_opt_r (by simp only [pickL, putL, offX, Int.reduceToNat, Int.reduceAdd, Int.reduceMul, Int.reduceMod, Int.reduceSub, Int.reduceNeg, Int.reduceDiv, Nat.reduceAdd, Nat.reduceMul, Nat.reduceLeDiff, List.length_cons, List.length_nil, ↓reduceIte, List.drop_succ_cons, List.drop_zero, List.take_succ_cons, List.take_zero, List.cons_append, List.nil_append, Nat.zero_add, Int.toNat_zero, Nat.zero_mul, Nat.add_zero, Int.zero_add]; exact rfl) ?_ | refine p_loop 5 ?_ | refine p_call (rcorn0 (by omega)) ?_ | refine p_call (rcorn1 (by omega)) ?_ | refine p_call (rcorn2 (by omega)) ?_ | refine p_call (rcorn3 (by omega)) ?_); (try simp only [List.cons.injEq, Lf.i.injEq, and_true, true_and]); (try omega))
theorem rline00 {x y : Int} (h : -100000 ≤ x ∧ x ≤ 100000 ∧ -100000 ≤ y ∧ y ≤ 100000) : Cc 31 [.i x, .i y, .i 0, .i 0] [.i 2, .i y] := by
  refine q31 rfl ?_; unfold p31
  repeat (first | simp (disch := omega) only [↓qxs, ↓qxc, ↓qxa] | refine p_opt_r (by simp only [pickL, putL, offX, Int.reduceToNat, Int.reduceAdd, Int.reduceMul, Int.reduceMod, Int.reduceSub, Int.reduceNeg, Int.reduceDiv, Nat.reduceAdd, Nat.reduceMul, Nat.reduceLeDiff, List.length_cons, List.length_nil, ↓reduceIte, List.drop_succ_cons, List.drop_zero, List.take_succ_cons, List.take_zero, List.cons_append, List.nil_append, Nat.zero_add, Int.toNat_zero, Nat.zero_mul, Nat.add_zero, Int.zero_add]; exact rfl) ?_ | refine p_loop 5 ?_ | refine p_call (rcorn0 (by omega)) ?_ | refine p_call across1 ?_ | refine p_call across2 ?_ | refine p_call across3 ?_ | refine p_call across4 ?_)
  (try simp only [List.cons.injEq, Lf.i.injEq, and_true, true_and]); (try omega)
theorem rline01 {x y : Int} (h : -100000 ≤ x ∧ x ≤ 100000 ∧ -100000 ≤ y ∧ y ≤ 100000) : Cc 31 [.i x, .i y, .i 0, .i 1] [.i 3, .i (x + y + 1)] := by
  refine q31 rfl ?_; unfold p31
  repeat (first | simp (disch := omega) only [↓qxs, ↓qxc, ↓qxa] | refine p_opt_r (by simp only [pickL, putL, offX, Int.reduceToNat, Int.reduceAdd, Int.reduceMul, Int.reduceMod, Int.reduceSub, Int.reduceNeg, Int.reduceDiv, Nat.reduceAdd, Nat.reduceMul, Nat.reduceLeDiff, List.length_cons, List.length_nil, ↓reduceIte, List.drop_succ_cons, List.drop_zero, List.take_succ_cons, List.take_zero, List.cons_append, List.nil_append, Nat.zero_add, Int.toNat_zero, Nat.zero_mul, Nat.add_zero, Int.zero_add]; exact rfl) ?_ | refine p_loop 5 ?_ | refine p_call (rcorn0 (by omega)) ?_ | refine p_call across1 ?_ | refine p_call across2 ?_ | refine p_call across3 ?_ | refine p_call across4 ?_)
  (try simp only [List.cons.injEq, Lf.i.injEq, and_true, true_and]); (try omega)
theorem rline02 {x y : Int} (h : -100000 ≤ x ∧ x ≤ 100000 ∧ -100000 ≤ y ∧ y ≤ 100000) : Cc 31 [.i x, .i y, .i 0, .i 2] [.i 4, .i (y - x)] := by
  refine q31 rfl ?_; unfold p31
  repeat (first | simp (disch := omega) only [↓qxs, ↓qxc, ↓qxa] | refine p_opt_r (by simp only [pickL, putL, offX, Int.reduceToNat, Int.reduceAdd, Int.reduceMul, Int.reduceMod, Int.reduceSub, Int.reduceNeg, Int.reduceDiv, Nat.reduceAdd, Nat.reduceMul, Nat.reduceLeDiff, List.length_cons, List.length_nil, ↓reduceIte, List.drop_succ_cons, List.drop_zero, List.take_succ_cons, List.take_zero, List.cons_append, List.nil_append, Nat.zero_add, Int.toNat_zero, Nat.zero_mul, Nat.add_zero, Int.zero_add]; exact rfl) ?_ | refine p_loop 5 ?_ | refine p_call (rcorn0 (by omega)) ?_ | refine p_call across1 ?_ | refine p_call across2 ?_ | refine p_call across3 ?_ | refine p_call across4 ?_)
  (try simp only [List.cons.injEq, Lf.i.injEq, and_true, true_and]); (try omega)
theorem rline10 {x y : Int} (h : -100000 ≤ x ∧ x ≤ 100000 ∧ -100000 ≤ y ∧ y ≤ 100000) : Cc 31 [.i x, .i y, .i 1, .i 0] [.i 1, .i (x + 1)] := by
  refine q31 rfl ?_; unfold p31
  repeat (first | simp (disch := omega) only [↓qxs, ↓qxc, ↓qxa] | refine p_opt_r (by simp only [pickL, putL, offX, Int.reduceToNat, Int.reduceAdd, Int.reduceMul, Int.reduceMod, Int.reduceSub, Int.reduceNeg, Int.reduceDiv, Nat.reduceAdd, Nat.reduceMul, Nat.reduceLeDiff, List.length_cons, List.length_nil, ↓reduceIte, List.drop_succ_cons, List.drop_zero, List.take_succ_cons, List.take_zero, List.cons_append, List.nil_append, Nat.zero_add, Int.toNat_zero, Nat.zero_mul, Nat.add_zero, Int.zero_add]; exact rfl) ?_ | refine p_loop 5 ?_ | refine p_call (rcorn1 (by omega)) ?_ | refine p_call across1 ?_ | refine p_call across2 ?_ | refine p_call across3 ?_ | refine p_call across4 ?_)
  (try simp only [List.cons.injEq, Lf.i.injEq, and_true, true_and]); (try omega)
theorem rline11 {x y : Int} (h : -100000 ≤ x ∧ x ≤ 100000 ∧ -100000 ≤ y ∧ y ≤ 100000) : Cc 31 [.i x, .i y, .i 1, .i 1] [.i 3, .i (x + y + 1)] := by
  refine q31 rfl ?_; unfold p31
  repeat (first | simp (disch := omega) only [↓qxs, ↓qxc, ↓qxa] | refine p_opt_r (by simp only [pickL, putL, offX, Int.reduceToNat, Int.reduceAdd, Int.reduceMul, Int.reduceMod, Int.reduceSub, Int.reduceNeg, Int.reduceDiv, Nat.reduceAdd, Nat.reduceMul, Nat.reduceLeDiff, List.length_cons, List.length_nil, ↓reduceIte, List.drop_succ_cons, List.drop_zero, List.take_succ_cons, List.take_zero, List.cons_append, List.nil_append, Nat.zero_add, Int.toNat_zero, Nat.zero_mul, Nat.add_zero, Int.zero_add]; exact rfl) ?_ | refine p_loop 5 ?_ | refine p_call (rcorn1 (by omega)) ?_ | refine p_call across1 ?_ | refine p_call across2 ?_ | refine p_call across3 ?_ | refine p_call across4 ?_)
  (try simp only [List.cons.injEq, Lf.i.injEq, and_true, true_and]); (try omega)
theorem rline12 {x y : Int} (h : -100000 ≤ x ∧ x ≤ 100000 ∧ -100000 ≤ y ∧ y ≤ 100000) : Cc 31 [.i x, .i y, .i 1, .i 2] [.i 4, .i (y - x)] := by
  refine q31 rfl ?_; unfold p31
  repeat (first | simp (disch := omega) only [↓qxs, ↓qxc, ↓qxa] | refine p_opt_r (by simp only [pickL, putL, offX, Int.reduceToNat, Int.reduceAdd, Int.reduceMul, Int.reduceMod, Int.reduceSub, Int.reduceNeg, Int.reduceDiv, Nat.reduceAdd, Nat.reduceMul, Nat.reduceLeDiff, List.length_cons, List.length_nil, ↓reduceIte, List.drop_succ_cons, List.drop_zero, List.take_succ_cons, List.take_zero, List.cons_append, List.nil_append, Nat.zero_add, Int.toNat_zero, Nat.zero_mul, Nat.add_zero, Int.zero_add]; exact rfl) ?_ | refine p_loop 5 ?_ | refine p_call (rcorn1 (by omega)) ?_ | refine p_call across1 ?_ | refine p_call across2 ?_ | refine p_call across3 ?_ | refine p_call across4 ?_)
  (try simp only [List.cons.injEq, Lf.i.injEq, and_true, true_and]); (try omega)
theorem rline20 {x y : Int} (h : -100000 ≤ x ∧ x ≤ 100000 ∧ -100000 ≤ y ∧ y ≤ 100000) : Cc 31 [.i x, .i y, .i 2, .i 0] [.i 2, .i (y + 1)] := by
  refine q31 rfl ?_; unfold p31
  repeat (first | simp (disch := omega) only [↓qxs, ↓qxc, ↓qxa] | refine p_opt_r (by simp only [pickL, putL, offX, Int.reduceToNat, Int.reduceAdd, Int.reduceMul, Int.reduceMod, Int.reduceSub, Int.reduceNeg, Int.reduceDiv, Nat.reduceAdd, Nat.reduceMul, Nat.reduceLeDiff, List.length_cons, List.length_nil, ↓reduceIte, List.drop_succ_cons, List.drop_zero, List.take_succ_cons, List.take_zero, List.cons_append, List.nil_append, Nat.zero_add, Int.toNat_zero, Nat.zero_mul, Nat.add_zero, Int.zero_add]; exact rfl) ?_ | refine p_loop 5 ?_ | refine p_call (rcorn2 (by omega)) ?_ | refine p_call across1 ?_ | refine p_call across2 ?_ | refine p_call across3 ?_ | refine p_call across4 ?_)
  (try simp only [List.cons.injEq, Lf.i.injEq, and_true, true_and]); (try omega)
theorem rline21 {x y : Int} (h : -100000 ≤ x ∧ x ≤ 100000 ∧ -100000 ≤ y ∧ y ≤ 100000) : Cc 31 [.i x, .i y, .i 2, .i 1] [.i 3, .i (x + y + 1)] := by
  refine q31 rfl ?_; unfold p31
  repeat (first | simp (disch := omega) only [↓qxs, ↓qxc, ↓qxa] | refine p_opt_r (by simp only [pickL, putL, offX, Int.reduceToNat, Int.reduceAdd, Int.reduceMul, Int.reduceMod, Int.reduceSub, Int.reduceNeg, Int.reduceDiv, Nat.reduceAdd, Nat.reduceMul, Nat.reduceLeDiff, List.length_cons, List.length_nil, ↓reduceIte, List.drop_succ_cons, List.drop_zero, List.take_succ_cons, List.take_zero, List.cons_append, List.nil_append, Nat.zero_add, Int.toNat_zero, Nat.zero_mul, Nat.add_zero, Int.zero_add]; exact rfl) ?_ | refine p_loop 5 ?_ | refine p_call (rcorn2 (by omega)) ?_ | refine p_call across1 ?_ | refine p_call across2 ?_ | refine p_call across3 ?_ | refine p_call across4 ?_)
  (try simp only [List.cons.injEq, Lf.i.injEq, and_true, true_and]); (try omega)
theorem rline22 {x y : Int} (h : -100000 ≤ x ∧ x ≤ 100000 ∧ -100000 ≤ y ∧ y ≤ 100000) : Cc 31 [.i x, .i y, .i 2, .i 2] [.i 4, .i (y - x)] := by
  refine q31 rfl ?_; unfold p31
  repeat (first | simp (disch := omega) only [↓qxs, ↓qxc, ↓qxa] | refine p_opt_r (by simp only [pickL, putL, offX, Int.reduceToNat, Int.reduceAdd, Int.reduceMul, Int.reduceMod, Int.reduceSub, Int.reduceNeg, Int.reduceDiv, Nat.reduceAdd, Nat.reduceMul, Nat.reduceLeDiff, List.length_cons, List.length_nil, ↓reduceIte, List.drop_succ_cons, List.drop_zero, List.take_succ_cons, List.take_zero, List.cons_append, List.nil_append, Nat.zero_add, Int.toNat_zero, Nat.zero_mul, Nat.add_zero, Int.zero_add]; exact rfl) ?_ | refine p_loop 5 ?_ | refine p_call (rcorn2 (by omega)) ?_ | refine p_call across1 ?_ | refine p_call across2 ?_ | refine p_call across3 ?_ | refine p_call across4 ?_)
  (try simp only [List.cons.injEq, Lf.i.injEq, and_true, true_and]); (try omega)
theorem rline30 {x y : Int} (h : -100000 ≤ x ∧ x ≤ 100000 ∧ -100000 ≤ y ∧ y ≤ 100000) : Cc 31 [.i x, .i y, .i 3, .i 0] [.i 1, .i x] := by
  refine q31 rfl ?_; unfold p31
  repeat (first | simp (disch := omega) only [↓qxs, ↓qxc, ↓qxa] | refine p_opt_r (by simp only [pickL, putL, offX, Int.reduceToNat, Int.reduceAdd, Int.reduceMul, Int.reduceMod, Int.reduceSub, Int.reduceNeg, Int.reduceDiv, Nat.reduceAdd, Nat.reduceMul, Nat.reduceLeDiff, List.length_cons, List.length_nil, ↓reduceIte, List.drop_succ_cons, List.drop_zero, List.take_succ_cons, List.take_zero, List.cons_append, List.nil_append, Nat.zero_add, Int.toNat_zero, Nat.zero_mul, Nat.add_zero, Int.zero_add]; exact rfl) ?_ | refine p_loop 5 ?_ | refine p_call (rcorn3 (by omega)) ?_ | refine p_call across1 ?_ | refine p_call across2 ?_ | refine p_call across3 ?_ | refine p_call across4 ?_)
  (try simp only [List.cons.injEq, Lf.i.injEq, and_true, true_and]); (try omega)
theorem rline31 {x y : Int} (h : -100000 ≤ x ∧ x ≤ 100000 ∧ -100000 ≤ y ∧ y ≤ 100000) : Cc 31 [.i x, .i y, .i 3, .i 1] [.i 3, .i (x + y + 1)] := by
  refine q31 rfl ?_; unfold p31
  repeat (first | simp (disch := omega) only [↓qxs, ↓qxc, ↓qxa] | refine p_opt_r (by simp only [pickL, putL, offX, Int.reduceToNat, Int.reduceAdd, Int.reduceMul, Int.reduceMod, Int.reduceSub, Int.reduceNeg, Int.reduceDiv, Nat.reduceAdd, Nat.reduceMul, Nat.reduceLeDiff, List.length_cons, List.length_nil, ↓reduceIte, List.drop_succ_cons, List.drop_zero, List.take_succ_cons, List.take_zero, List.cons_append, List.nil_append, Nat.zero_add, Int.toNat_zero, Nat.zero_mul, Nat.add_zero, Int.zero_add]; exact rfl) ?_ | refine p_loop 5 ?_ | refine p_call (rcorn3 (by omega)) ?_ | refine p_call across1 ?_ | refine p_call across2 ?_ | refine p_call across3 ?_ | refine p_call across4 ?_)
  (try simp only [List.cons.injEq, Lf.i.injEq, and_true, true_and]); (try omega)
theorem rline32 {x y : Int} (h : -100000 ≤ x ∧ x ≤ 100000 ∧ -100000 ≤ y ∧ y ≤ 100000) : Cc 31 [.i x, .i y, .i 3, .i 2] [.i 4, .i (y - x)] := by
  refine q31 rfl ?_; unfold p31
  repeat (first | simp (disch := omega) only [↓qxs, ↓qxc, ↓qxa] | refine p_opt_r (by simp only [pickL, putL, offX, Int.reduceToNat, Int.reduceAdd, Int.reduceMul, Int.reduceMod, Int.reduceSub, Int.reduceNeg, Int.reduceDiv, Nat.reduceAdd, Nat.reduceMul, Nat.reduceLeDiff, List.length_cons, List.length_nil, ↓reduceIte, List.drop_succ_cons, List.drop_zero, List.take_succ_cons, List.take_zero, List.cons_append, List.nil_append, Nat.zero_add, Int.toNat_zero, Nat.zero_mul, Nat.add_zero, Int.zero_add]; exact rfl) ?_ | refine p_loop 5 ?_ | refine p_call (rcorn3 (by omega)) ?_ | refine p_call across1 ?_ | refine p_call across2 ?_ | refine p_call across3 ?_ | refine p_call across4 ?_)
  (try simp only [List.cons.injEq, Lf.i.injEq, and_true, true_and]); (try omega)
end Go.Am
/-
  CONTRACTS, BY PROGRAM: neighbours, corners, lines of cells.
-/
set_option maxRecDepth 100000
namespace Go.Am
open Sx Go.Proofs

theorem rnb00 {x y : Int} (h : -20000 ≤ x ∧ x ≤ 20000 ∧ -20000 ≤ y ∧ y ≤ 20000) : Cc 49 [.i x, .i y, .i 0, .i 0] [.i x, .i (y - 1), .i 2] := by
  refine q49 rfl ?_; unfold p49
  repeat (first | simp (disch := omega) only [↓qxs, ↓qxc, ↓qxa] | refine p_opt_r (by simp only [pickL, putL, offX, Int.reduceToNat, Int.reduceAdd, Int.reduceMul, Int.reduceMod, Int.reduceSub, Int.reduceNeg, Int.reduceDiv, Nat.reduceAdd, Nat.reduceMul, Nat.reduceLeDiff, List.length_cons, List.length_nil, ↓reduceIte, List.drop_succ_cons, List.drop_zero, List.take_succ_cons, List.take_zero, List.cons_append, List.nil_append, Nat.zero_add, Int.toNat_zero, Nat.zero_mul, Nat.add_zero, Int.zero_add]; exact rfl) ?_ | refine p_loop 5 ?_ | refine p_call (rline00 (by omega)) ?_ | refine p_call (rcorn0 (by omega)) ?_ | refine p_call (refl2 (by omega)) ?_ | refine p_call (with00 (by omega)) ?_ | refine p_call (with01 (by omega)) ?_ | refine p_call (with10 (by omega)) ?_ | refine p_call (with11 (by omega)) ?_ | refine p_call (with20 (by omega)) ?_ | refine p_call (with21 (by omega)) ?_ | refine p_call (with30 (by omega)) ?_ | refine p_call (with31 (by omega)) ?_)
  (try simp only [List.cons.injEq, Lf.i.injEq, and_true, true_and]); (try omega)
theorem rnb01 {x y : Int} (h : -20000 ≤ x ∧ x ≤ 20000 ∧ -20000 ≤ y ∧ y ≤ 20000) : Cc 49 [.i x, .i y, .i 0, .i 1] [.i x, .i y, .i 1] := by
  refine q49 rfl ?_; unfold p49
  repeat (first | simp (disch := omega) only [↓qxs, ↓qxc, ↓qxa] | refine p_opt_r (by simp only [pickL, putL, offX, Int.reduceToNat, Int.reduceAdd, Int.reduceMul, Int.reduceMod, Int.reduceSub, Int.reduceNeg, Int.reduceDiv, Nat.reduceAdd, Nat.reduceMul, Nat.reduceLeDiff, List.length_cons, List.length_nil, ↓reduceIte, List.drop_succ_cons, List.drop_zero, List.take_succ_cons, List.take_zero, List.cons_append, List.nil_append, Nat.zero_add, Int.toNat_zero, Nat.zero_mul, Nat.add_zero, Int.zero_add]; exact rfl) ?_ | refine p_loop 5 ?_ | refine p_call (rline01 (by omega)) ?_ | refine p_call (rcorn0 (by omega)) ?_ | refine p_call (refl3 (by omega)) ?_ | refine p_call (with00 (by omega)) ?_ | refine p_call (with01 (by omega)) ?_ | refine p_call (with10 (by omega)) ?_ | refine p_call (with11 (by omega)) ?_ | refine p_call (with20 (by omega)) ?_ | refine p_call (with21 (by omega)) ?_ | refine p_call (with30 (by omega)) ?_ | refine p_call (with31 (by omega)) ?_)
  (try simp only [List.cons.injEq, Lf.i.injEq, and_true, true_and]); (try omega)
theorem rnb02 {x y : Int} (h : -20000 ≤ x ∧ x ≤ 20000 ∧ -20000 ≤ y ∧ y ≤ 20000) : Cc 49 [.i x, .i y, .i 0, .i 2] [.i x, .i y, .i 3] := by
  refine q49 rfl ?_; unfold p49
  repeat (first | simp (disch := omega) only [↓qxs, ↓qxc, ↓qxa] | refine p_opt_r (by simp only [pickL, putL, offX, Int.reduceToNat, Int.reduceAdd, Int.reduceMul, Int.reduceMod, Int.reduceSub, Int.reduceNeg, Int.reduceDiv, Nat.reduceAdd, Nat.reduceMul, Nat.reduceLeDiff, List.length_cons, List.length_nil, ↓reduceIte, List.drop_succ_cons, List.drop_zero, List.take_succ_cons, List.take_zero, List.cons_append, List.nil_append, Nat.zero_add, Int.toNat_zero, Nat.zero_mul, Nat.add_zero, Int.zero_add]; exact rfl) ?_ | refine p_loop 5 ?_ | refine p_call (rline02 (by omega)) ?_ | refine p_call (rcorn0 (by omega)) ?_ | refine p_call (refl4 (by omega)) ?_ | refine p_call (with00 (by omega)) ?_ | refine p_call (with01 (by omega)) ?_ | refine p_call (with10 (by omega)) ?_ | refine p_call (with11 (by omega)) ?_ | refine p_call (with20 (by omega)) ?_ | refine p_call (with21 (by omega)) ?_ | refine p_call (with30 (by omega)) ?_ | refine p_call (with31 (by omega)) ?_)
  (try simp only [List.cons.injEq, Lf.i.injEq, and_true, true_and]); (try omega)
theorem rnb10 {x y : Int} (h : -20000 ≤ x ∧ x ≤ 20000 ∧ -20000 ≤ y ∧ y ≤ 20000) : Cc 49 [.i x, .i y, .i 1, .i 0] [.i (x + 1), .i y, .i 3] := by
  refine q49 rfl ?_; unfold p49
  repeat (first | simp (disch := omega) only [↓qxs, ↓qxc, ↓qxa] | refine p_opt_r (by simp only [pickL, putL, offX, Int.reduceToNat, Int.reduceAdd, Int.reduceMul, Int.reduceMod, Int.reduceSub, Int.reduceNeg, Int.reduceDiv, Nat.reduceAdd, Nat.reduceMul, Nat.reduceLeDiff, List.length_cons, List.length_nil, ↓reduceIte, List.drop_succ_cons, List.drop_zero, List.take_succ_cons, List.take_zero, List.cons_append, List.nil_append, Nat.zero_add, Int.toNat_zero, Nat.zero_mul, Nat.add_zero, Int.zero_add]; exact rfl) ?_ | refine p_loop 5 ?_ | refine p_call (rline10 (by omega)) ?_ | refine p_call (rcorn1 (by omega)) ?_ | refine p_call (refl1 (by omega)) ?_ | refine p_call (with00 (by omega)) ?_ | refine p_call (with01 (by omega)) ?_ | refine p_call (with10 (by omega)) ?_ | refine p_call (with11 (by omega)) ?_ | refine p_call (with20 (by omega)) ?_ | refine p_call (with21 (by omega)) ?_ | refine p_call (with30 (by omega)) ?_ | refine p_call (with31 (by omega)) ?_)
  (try simp only [List.cons.injEq, Lf.i.injEq, and_true, true_and]); (try omega)
theorem rnb11 {x y : Int} (h : -20000 ≤ x ∧ x ≤ 20000 ∧ -20000 ≤ y ∧ y ≤ 20000) : Cc 49 [.i x, .i y, .i 1, .i 1] [.i x, .i y, .i 0] := by
  refine q49 rfl ?_; unfold p49
  repeat (first | simp (disch := omega) only [↓qxs, ↓qxc, ↓qxa] | refine p_opt_r (by simp only [pickL, putL, offX, Int.reduceToNat, Int.reduceAdd, Int.reduceMul, Int.reduceMod, Int.reduceSub, Int.reduceNeg, Int.reduceDiv, Nat.reduceAdd, Nat.reduceMul, Nat.reduceLeDiff, List.length_cons, List.length_nil, ↓reduceIte, List.drop_succ_cons, List.drop_zero, List.take_succ_cons, List.take_zero, List.cons_append, List.nil_append, Nat.zero_add, Int.toNat_zero, Nat.zero_mul, Nat.add_zero, Int.zero_add]; exact rfl) ?_ | refine p_loop 5 ?_ | refine p_call (rline11 (by omega)) ?_ | refine p_call (rcorn1 (by omega)) ?_ | refine p_call (refl3 (by omega)) ?_ | refine p_call (with00 (by omega)) ?_ | refine p_call (with01 (by omega)) ?_ | refine p_call (with10 (by omega)) ?_ | refine p_call (with11 (by omega)) ?_ | refine p_call (with20 (by omega)) ?_ | refine p_call (with21 (by omega)) ?_ | refine p_call (with30 (by omega)) ?_ | refine p_call (with31 (by omega)) ?_)
  (try simp only [List.cons.injEq, Lf.i.injEq, and_true, true_and]); (try omega)
theorem rnb12 {x y : Int} (h : -20000 ≤ x ∧ x ≤ 20000 ∧ -20000 ≤ y ∧ y ≤ 20000) : Cc 49 [.i x, .i y, .i 1, .i 2] [.i x, .i y, .i 2] := by
  refine q49 rfl ?_; unfold p49
  repeat (first | simp (disch := omega) only [↓qxs, ↓qxc, ↓qxa] | refine p_opt_r (by simp only [pickL, putL, offX, Int.reduceToNat, Int.reduceAdd, Int.reduceMul, Int.reduceMod, Int.reduceSub, Int.reduceNeg, Int.reduceDiv, Nat.reduceAdd, Nat.reduceMul, Nat.reduceLeDiff, List.length_cons, List.length_nil, ↓reduceIte, List.drop_succ_cons, List.drop_zero, List.take_succ_cons, List.take_zero, List.cons_append, List.nil_append, Nat.zero_add, Int.toNat_zero, Nat.zero_mul, Nat.add_zero, Int.zero_add]; exact rfl) ?_ | refine p_loop 5 ?_ | refine p_call (rline12 (by omega)) ?_ | refine p_call (rcorn1 (by omega)) ?_ | refine p_call (refl4 (by omega)) ?_ | refine p_call (with00 (by omega)) ?_ | refine p_call (with01 (by omega)) ?_ | refine p_call (with10 (by omega)) ?_ | refine p_call (with11 (by omega)) ?_ | refine p_call (with20 (by omega)) ?_ | refine p_call (with21 (by omega)) ?_ | refine p_call (with30 (by omega)) ?_ | refine p_call (with31 (by omega)) ?_)
  (try simp only [List.cons.injEq, Lf.i.injEq, and_true, true_and]); (try omega)
theorem rnb20 {x y : Int} (h : -20000 ≤ x ∧ x ≤ 20000 ∧ -20000 ≤ y ∧ y ≤ 20000) : Cc 49 [.i x, .i y, .i 2, .i 0] [.i x, .i (y + 1), .i 0] := by
  refine q49 rfl ?_; unfold p49
  repeat (first | simp (disch := omega) only [↓qxs, ↓qxc, ↓qxa] | refine p_opt_r (by simp only [pickL, putL, offX, Int.reduceToNat, Int.reduceAdd, Int.reduceMul, Int.reduceMod, Int.reduceSub, Int.reduceNeg, Int.reduceDiv, Nat.reduceAdd, Nat.reduceMul, Nat.reduceLeDiff, List.length_cons, List.length_nil, ↓reduceIte, List.drop_succ_cons, List.drop_zero, List.take_succ_cons, List.take_zero, List.cons_append, List.nil_append, Nat.zero_add, Int.toNat_zero, Nat.zero_mul, Nat.add_zero, Int.zero_add]; exact rfl) ?_ | refine p_loop 5 ?_ | refine p_call (rline20 (by omega)) ?_ | refine p_call (rcorn2 (by omega)) ?_ | refine p_call (refl2 (by omega)) ?_ | refine p_call (with00 (by omega)) ?_ | refine p_call (with01 (by omega)) ?_ | refine p_call (with10 (by omega)) ?_ | refine p_call (with11 (by omega)) ?_ | refine p_call (with20 (by omega)) ?_ | refine p_call (with21 (by omega)) ?_ | refine p_call (with30 (by omega)) ?_ | refine p_call (with31 (by omega)) ?_)
  (try simp only [List.cons.injEq, Lf.i.injEq, and_true, true_and]); (try omega)
theorem rnb21 {x y : Int} (h : -20000 ≤ x ∧ x ≤ 20000 ∧ -20000 ≤ y ∧ y ≤ 20000) : Cc 49 [.i x, .i y, .i 2, .i 1] [.i x, .i y, .i 3] := by
  refine q49 rfl ?_; unfold p49
  repeat (first | simp (disch := omega) only [↓qxs, ↓qxc, ↓qxa] | refine p_opt_r (by simp only [pickL, putL, offX, Int.reduceToNat, Int.reduceAdd, Int.reduceMul, Int.reduceMod, Int.reduceSub, Int.reduceNeg, Int.reduceDiv, Nat.reduceAdd, Nat.reduceMul, Nat.reduceLeDiff, List.length_cons, List.length_nil, ↓reduceIte, List.drop_succ_cons, List.drop_zero, List.take_succ_cons, List.take_zero, List.cons_append, List.nil_append, Nat.zero_add, Int.toNat_zero, Nat.zero_mul, Nat.add_zero, Int.zero_add]; exact rfl) ?_ | refine p_loop 5 ?_ | refine p_call (rline21 (by omega)) ?_ | refine p_call (rcorn2 (by omega)) ?_ | refine p_call (refl3 (by omega)) ?_ | refine p_call (with00 (by omega)) ?_ | refine p_call (with01 (by omega)) ?_ | refine p_call (with10 (by omega)) ?_ | refine p_call (with11 (by omega)) ?_ | refine p_call (with20 (by omega)) ?_ | refine p_call (with21 (by omega)) ?_ | refine p_call (with30 (by omega)) ?_ | refine p_call (with31 (by omega)) ?_)
  (try simp only [List.cons.injEq, Lf.i.injEq, and_true, true_and]); (try omega)
theorem rnb22 {x y : Int} (h : -20000 ≤ x ∧ x ≤ 20000 ∧ -20000 ≤ y ∧ y ≤ 20000) : Cc 49 [.i x, .i y, .i 2, .i 2] [.i x, .i y, .i 1] := by
  refine q49 rfl ?_; unfold p49
  repeat (first | simp (disch := omega) only [↓qxs, ↓qxc, ↓qxa] | refine p_opt_r (by simp only [pickL, putL, offX, Int.reduceToNat, Int.reduceAdd, Int.reduceMul, Int.reduceMod, Int.reduceSub, Int.reduceNeg, Int.reduceDiv, Nat.reduceAdd, Nat.reduceMul, Nat.reduceLeDiff, List.length_cons, List.length_nil, ↓reduceIte, List.drop_succ_cons, List.drop_zero, List.take_succ_cons, List.take_zero, List.cons_append, List.nil_append, Nat.zero_add, Int.toNat_zero, Nat.zero_mul, Nat.add_zero, Int.zero_add]; exact rfl) ?_ | refine p_loop 5 ?_ | refine p_call (rline22 (by omega)) ?_ | refine p_call (rcorn2 (by omega)) ?_ | refine p_call (refl4 (by omega)) ?_ | refine p_call (with00 (by omega)) ?_ | refine p_call (with01 (by omega)) ?_ | refine p_call (with10 (by omega)) ?_ | refine p_call (with11 (by omega)) ?_ | refine p_call (with20 (by omega)) ?_ | refine p_call (with21 (by omega)) ?_ | refine p_call (with30 (by omega)) ?_ | refine p_call (with31 (by omega)) ?_)
  (try simp only [List.cons.injEq, Lf.i.injEq, and_true, true_and]); (try omega)
theorem rnb30 {x y : Int} (h : -20000 ≤ x ∧ x ≤ 20000 ∧ -20000 ≤ y ∧ y ≤ 20000) : Cc 49 [.i x, .i y, .i 3, .i 0] [.i (x - 1), .i y, .i 1] := by
  refine q49 rfl ?_; unfold p49
  repeat (first | simp (disch := omega) only [↓qxs, ↓qxc, ↓qxa] | refine p_opt_r (by simp only [pickL, putL, offX, Int.reduceToNat, Int.reduceAdd, Int.reduceMul, Int.reduceMod, Int.reduceSub, Int.reduceNeg, Int.reduceDiv, Nat.reduceAdd, Nat.reduceMul, Nat.reduceLeDiff, List.length_cons, List.length_nil, ↓reduceIte, List.drop_succ_cons, List.drop_zero, List.take_succ_cons, List.take_zero, List.cons_append, List.nil_append, Nat.zero_add, Int.toNat_zero, Nat.zero_mul, Nat.add_zero, Int.zero_add]; exact rfl) ?_ | refine p_loop 5 ?_ | refine p_call (rline30 (by omega)) ?_ | refine p_call (rcorn3 (by omega)) ?_ | refine p_call (refl1 (by omega)) ?_ | refine p_call (with00 (by omega)) ?_ | refine p_call (with01 (by omega)) ?_ | refine p_call (with10 (by omega)) ?_ | refine p_call (with11 (by omega)) ?_ | refine p_call (with20 (by omega)) ?_ | refine p_call (with21 (by omega)) ?_ | refine p_call (with30 (by omega)) ?_ | refine p_call (with31 (by omega)) ?_)
  (try simp only [List.cons.injEq, Lf.i.injEq, and_true, true_and]); (try omega)
theorem rnb31 {x y : Int} (h : -20000 ≤ x ∧ x ≤ 20000 ∧ -20000 ≤ y ∧ y ≤ 20000) : Cc 49 [.i x, .i y, .i 3, .i 1] [.i x, .i y, .i 2] := by
  refine q49 rfl ?_; unfold p49
  repeat (first | simp (disch := omega) only [↓qxs, ↓qxc, ↓qxa] | refine p_opt_r (by simp only [pickL, putL, offX, Int.reduceToNat, Int.reduceAdd, Int.reduceMul, Int.reduceMod, Int.reduceSub, Int.reduceNeg, Int.reduceDiv, Nat.reduceAdd, Nat.reduceMul, Nat.reduceLeDiff, List.length_cons, List.length_nil, ↓reduceIte, List.drop_succ_cons, List.drop_zero, List.take_succ_cons, List.take_zero, List.cons_append, List.nil_append, Nat.zero_add, Int.toNat_zero, Nat.zero_mul, Nat.add_zero, Int.zero_add]; exact rfl) ?_ | refine p_loop 5 ?_ | refine p_call (rline31 (by omega)) ?_ | refine p_call (rcorn3 (by omega)) ?_ | refine p_call (refl3 (by omega)) ?_ | refine p_call (with00 (by omega)) ?_ | refine p_call (with01 (by omega)) ?_ | refine p_call (with10 (by omega)) ?_ | refine p_call (with11 (by omega)) ?_ | refine p_call (with20 (by omega)) ?_ | refine p_call (with21 (by omega)) ?_ | refine p_call (with30 (by omega)) ?_ | refine p_call (with31 (by omega)) ?_)
  (try simp only [List.cons.injEq, Lf.i.injEq, and_true, true_and]); (try omega)
theorem rnb32 {x y : Int} (h : -20000 ≤ x ∧ x ≤ 20000 ∧ -20000 ≤ y ∧ y ≤ 20000) : Cc 49 [.i x, .i y, .i 3, .i 2] [.i x, .i y, .i 0] := by
  refine q49 rfl ?_; unfold p49
  repeat (first | simp (disch := omega) only [↓qxs, ↓qxc, ↓qxa] | refine p_opt_r (by simp only [pickL, putL, offX, Int.reduceToNat, Int.reduceAdd, Int.reduceMul, Int.reduceMod, Int.reduceSub, Int.reduceNeg, Int.reduceDiv, Nat.reduceAdd, Nat.reduceMul, Nat.reduceLeDiff, List.length_cons, List.length_nil, ↓reduceIte, List.drop_succ_cons, List.drop_zero, List.take_succ_cons, List.take_zero, List.cons_append, List.nil_append, Nat.zero_add, Int.toNat_zero, Nat.zero_mul, Nat.add_zero, Int.zero_add]; exact rfl) ?_ | refine p_loop 5 ?_ | refine p_call (rline32 (by omega)) ?_ | refine p_call (rcorn3 (by omega)) ?_ | refine p_call (refl4 (by omega)) ?_ | refine p_call (with00 (by omega)) ?_ | refine p_call (with01 (by omega)) ?_ | refine p_call (with10 (by omega)) ?_ | refine p_call (with11 (by omega)) ?_ | refine p_call (with20 (by omega)) ?_ | refine p_call (with21 (by omega)) ?_ | refine p_call (with30 (by omega)) ?_ | refine p_call (with31 (by omega)) ?_)
  (try simp only [List.cons.injEq, Lf.i.injEq, and_true, true_and]); (try omega)
theorem gq0 : pickV gl0 0 [(0, 17)] 17 = some [.int .i64 0, .int .i64 (-1), .int .u8 2, .int .i64 0, .int .i64 0, .int .i64 (-1), .int .u8 2, .int .i64 0, .int .i64 0, .int .u8 1, .int .i64 0, .int .i64 0, .int .u8 3, .int .i64 0, .int .i64 0, .int .i64 2, .int .i64 0] := by kernel_rfl
theorem gn00 : pickV gl0 4 [(0, 17), (0, 3)] 3 = some [.int .i64 0, .int .i64 (-1), .int .u8 2] := by kernel_rfl
theorem gn01 : pickV gl0 4 [(0, 17), (1, 3)] 3 = some [.int .i64 0, .int .i64 0, .int .u8 1] := by kernel_rfl
theorem gn02 : pickV gl0 4 [(0, 17), (2, 3)] 3 = some [.int .i64 0, .int .i64 0, .int .u8 3] := by kernel_rfl
theorem gq1 : pickV gl0 0 [(1, 17)] 17 = some [.int .i64 1, .int .i64 0, .int .u8 1, .int .i64 1, .int .i64 1, .int .i64 0, .int .u8 3, .int .i64 0, .int .i64 0, .int .u8 0, .int .i64 0, .int .i64 0, .int .u8 2, .int .i64 2, .int .i64 2, .int .i64 2, .int .i64 0] := by kernel_rfl
theorem gn10 : pickV gl0 4 [(1, 17), (0, 3)] 3 = some [.int .i64 1, .int .i64 0, .int .u8 3] := by kernel_rfl
theorem gn11 : pickV gl0 4 [(1, 17), (1, 3)] 3 = some [.int .i64 0, .int .i64 0, .int .u8 0] := by kernel_rfl
theorem gn12 : pickV gl0 4 [(1, 17), (2, 3)] 3 = some [.int .i64 0, .int .i64 0, .int .u8 2] := by kernel_rfl
theorem gq2 : pickV gl0 0 [(2, 17)] 17 = some [.int .i64 0, .int .i64 1, .int .u8 2, .int .i64 1, .int .i64 0, .int .i64 1, .int .u8 0, .int .i64 0, .int .i64 0, .int .u8 3, .int .i64 0, .int .i64 0, .int .u8 1, .int .i64 2, .int .i64 2, .int .i64 0, .int .i64 2] := by kernel_rfl
theorem gn20 : pickV gl0 4 [(2, 17), (0, 3)] 3 = some [.int .i64 0, .int .i64 1, .int .u8 0] := by kernel_rfl
theorem gn21 : pickV gl0 4 [(2, 17), (1, 3)] 3 = some [.int .i64 0, .int .i64 0, .int .u8 3] := by kernel_rfl
theorem gn22 : pickV gl0 4 [(2, 17), (2, 3)] 3 = some [.int .i64 0, .int .i64 0, .int .u8 1] := by kernel_rfl
theorem gq3 : pickV gl0 0 [(3, 17)] 17 = some [.int .i64 (-1), .int .i64 0, .int .u8 1, .int .i64 0, .int .i64 (-1), .int .i64 0, .int .u8 1, .int .i64 0, .int .i64 0, .int .u8 2, .int .i64 0, .int .i64 0, .int .u8 0, .int .i64 0, .int .i64 0, .int .i64 0, .int .i64 2] := by kernel_rfl
theorem gn30 : pickV gl0 4 [(3, 17), (0, 3)] 3 = some [.int .i64 (-1), .int .i64 0, .int .u8 1] := by kernel_rfl
theorem gn31 : pickV gl0 4 [(3, 17), (1, 3)] 3 = some [.int .i64 0, .int .i64 0, .int .u8 2] := by kernel_rfl
theorem gn32 : pickV gl0 4 [(3, 17), (2, 3)] 3 = some [.int .i64 0, .int .i64 0, .int .u8 0] := by kernel_rfl
theorem cnb00 {x y : Int} (h : -4096 ≤ x ∧ x ≤ 4096 ∧ -4096 ≤ y ∧ y ≤ 4096 ∧ -4096 ≤ x ∧ x ≤ 4096 ∧ -4096 ≤ y - 1 ∧ y - 1 ≤ 4096) : Cc 47 [.i x, .i y, .i 0, .i 0] [.i x, .i (y - 1), .i 2, .i 0] := by
  refine q47 rfl ?_; unfold p47
  repeat (first | simp (disch := omega) only [↓qxs, ↓qxc, ↓qxa, ↓gn00] | refine p_call (cellCheck_ok (by omega)) ?_)
  (try simp only [List.cons.injEq, Lf.i.injEq, and_true, true_and]); (try omega)
theorem cnbl00 {x y : Int} (h : -4096 ≤ x ∧ x ≤ 4096 ∧ -4096 ≤ y ∧ y ≤ 4096 ∧ ¬ (-4096 ≤ x ∧ x ≤ 4096 ∧ -4096 ≤ y - 1 ∧ y - 1 ≤ 4096)) : Cc 47 [.i x, .i y, .i 0, .i 0] [.i 0, .i 0, .i 0, .i 3] := by
  refine q47 rfl ?_; unfold p47
  repeat (first | simp (disch := omega) only [↓qxs, ↓qxc, ↓qxa, ↓gn00] | refine p_call (cellCheck_ok (by omega)) ?_ | refine p_call (cellCheck_no (by omega)) ?_)
  (try simp only [List.cons.injEq, Lf.i.injEq, and_true, true_and]); (try omega)
theorem cnb01 {x y : Int} (h : -4096 ≤ x ∧ x ≤ 4096 ∧ -4096 ≤ y ∧ y ≤ 4096 ∧ -4096 ≤ x ∧ x ≤ 4096 ∧ -4096 ≤ y ∧ y ≤ 4096) : Cc 47 [.i x, .i y, .i 0, .i 1] [.i x, .i y, .i 1, .i 0] := by
  refine q47 rfl ?_; unfold p47
  repeat (first | simp (disch := omega) only [↓qxs, ↓qxc, ↓qxa, ↓gn01] | refine p_call (cellCheck_ok (by omega)) ?_)
  (try simp only [List.cons.injEq, Lf.i.injEq, and_true, true_and]); (try omega)
theorem cnb02 {x y : Int} (h : -4096 ≤ x ∧ x ≤ 4096 ∧ -4096 ≤ y ∧ y ≤ 4096 ∧ -4096 ≤ x ∧ x ≤ 4096 ∧ -4096 ≤ y ∧ y ≤ 4096) : Cc 47 [.i x, .i y, .i 0, .i 2] [.i x, .i y, .i 3, .i 0] := by
  refine q47 rfl ?_; unfold p47
  repeat (first | simp (disch := omega) only [↓qxs, ↓qxc, ↓qxa, ↓gn02] | refine p_call (cellCheck_ok (by omega)) ?_)
  (try simp only [List.cons.injEq, Lf.i.injEq, and_true, true_and]); (try omega)
theorem cnb10 {x y : Int} (h : -4096 ≤ x ∧ x ≤ 4096 ∧ -4096 ≤ y ∧ y ≤ 4096 ∧ -4096 ≤ x + 1 ∧ x + 1 ≤ 4096 ∧ -4096 ≤ y ∧ y ≤ 4096) : Cc 47 [.i x, .i y, .i 1, .i 0] [.i (x + 1), .i y, .i 3, .i 0] := by
  refine q47 rfl ?_; unfold p47
  repeat (first | simp (disch := omega) only [↓qxs, ↓qxc, ↓qxa, ↓gn10] | refine p_call (cellCheck_ok (by omega)) ?_)
  (try simp only [List.cons.injEq, Lf.i.injEq, and_true, true_and]); (try omega)
theorem cnbl10 {x y : Int} (h : -4096 ≤ x ∧ x ≤ 4096 ∧ -4096 ≤ y ∧ y ≤ 4096 ∧ ¬ (-4096 ≤ x + 1 ∧ x + 1 ≤ 4096 ∧ -4096 ≤ y ∧ y ≤ 4096)) : Cc 47 [.i x, .i y, .i 1, .i 0] [.i 0, .i 0, .i 0, .i 3] := by
  refine q47 rfl ?_; unfold p47
  repeat (first | simp (disch := omega) only [↓qxs, ↓qxc, ↓qxa, ↓gn10] | refine p_call (cellCheck_ok (by omega)) ?_ | refine p_call (cellCheck_no (by omega)) ?_)
  (try simp only [List.cons.injEq, Lf.i.injEq, and_true, true_and]); (try omega)
theorem cnb11 {x y : Int} (h : -4096 ≤ x ∧ x ≤ 4096 ∧ -4096 ≤ y ∧ y ≤ 4096 ∧ -4096 ≤ x ∧ x ≤ 4096 ∧ -4096 ≤ y ∧ y ≤ 4096) : Cc 47 [.i x, .i y, .i 1, .i 1] [.i x, .i y, .i 0, .i 0] := by
  refine q47 rfl ?_; unfold p47
  repeat (first | simp (disch := omega) only [↓qxs, ↓qxc, ↓qxa, ↓gn11] | refine p_call (cellCheck_ok (by omega)) ?_)
  (try simp only [List.cons.injEq, Lf.i.injEq, and_true, true_and]); (try omega)
theorem cnb12 {x y : Int} (h : -4096 ≤ x ∧ x ≤ 4096 ∧ -4096 ≤ y ∧ y ≤ 4096 ∧ -4096 ≤ x ∧ x ≤ 4096 ∧ -4096 ≤ y ∧ y ≤ 4096) : Cc 47 [.i x, .i y, .i 1, .i 2] [.i x, .i y, .i 2, .i 0] := by
  refine q47 rfl ?_; unfold p47
  repeat (first | simp (disch := omega) only [↓qxs, ↓qxc, ↓qxa, ↓gn12] | refine p_call (cellCheck_ok (by omega)) ?_)
  (try simp only [List.cons.injEq, Lf.i.injEq, and_true, true_and]); (try omega)
theorem cnb20 {x y : Int} (h : -4096 ≤ x ∧ x ≤ 4096 ∧ -4096 ≤ y ∧ y ≤ 4096 ∧ -4096 ≤ x ∧ x ≤ 4096 ∧ -4096 ≤ y + 1 ∧ y + 1 ≤ 4096) : Cc 47 [.i x, .i y, .i 2, .i 0] [.i x, .i (y + 1), .i 0, .i 0] := by
  refine q47 rfl ?_; unfold p47
  repeat (first | simp (disch := omega) only [↓qxs, ↓qxc, ↓qxa, ↓gn20] | refine p_call (cellCheck_ok (by omega)) ?_)
  (try simp only [List.cons.injEq, Lf.i.injEq, and_true, true_and]); (try omega)
theorem cnbl20 {x y : Int} (h : -4096 ≤ x ∧ x ≤ 4096 ∧ -4096 ≤ y ∧ y ≤ 4096 ∧ ¬ (-4096 ≤ x ∧ x ≤ 4096 ∧ -4096 ≤ y + 1 ∧ y + 1 ≤ 4096)) : Cc 47 [.i x, .i y, .i 2, .i 0] [.i 0, .i 0, .i 0, .i 3] := by
  refine q47 rfl ?_; unfold p47
  repeat (first | simp (disch := omega) only [↓qxs, ↓qxc, ↓qxa, ↓gn20] | refine p_call (cellCheck_ok (by omega)) ?_ | refine p_call (cellCheck_no (by omega)) ?_)
  (try simp only [List.cons.injEq, Lf.i.injEq, and_true, true_and]); (try omega)
theorem cnb21 {x y : Int} (h : -4096 ≤ x ∧ x ≤ 4096 ∧ -4096 ≤ y ∧ y ≤ 4096 ∧ -4096 ≤ x ∧ x ≤ 4096 ∧ -4096 ≤ y ∧ y ≤ 4096) : Cc 47 [.i x, .i y, .i 2, .i 1] [.i x, .i y, .i 3, .i 0] := by
  refine q47 rfl ?_; unfold p47
  repeat (first | simp (disch := omega) only [↓qxs, ↓qxc, ↓qxa, ↓gn21] | refine p_call (cellCheck_ok (by omega)) ?_)
  (try simp only [List.cons.injEq, Lf.i.injEq, and_true, true_and]); (try omega)
theorem cnb22 {x y : Int} (h : -4096 ≤ x ∧ x ≤ 4096 ∧ -4096 ≤ y ∧ y ≤ 4096 ∧ -4096 ≤ x ∧ x ≤ 4096 ∧ -4096 ≤ y ∧ y ≤ 4096) : Cc 47 [.i x, .i y, .i 2, .i 2] [.i x, .i y, .i 1, .i 0] := by
  refine q47 rfl ?_; unfold p47
  repeat (first | simp (disch := omega) only [↓qxs, ↓qxc, ↓qxa, ↓gn22] | refine p_call (cellCheck_ok (by omega)) ?_)
  (try simp only [List.cons.injEq, Lf.i.injEq, and_true, true_and]); (try omega)
theorem cnb30 {x y : Int} (h : -4096 ≤ x ∧ x ≤ 4096 ∧ -4096 ≤ y ∧ y ≤ 4096 ∧ -4096 ≤ x - 1 ∧ x - 1 ≤ 4096 ∧ -4096 ≤ y ∧ y ≤ 4096) : Cc 47 [.i x, .i y, .i 3, .i 0] [.i (x - 1), .i y, .i 1, .i 0] := by
  refine q47 rfl ?_; unfold p47
  repeat (first | simp (disch := omega) only [↓qxs, ↓qxc, ↓qxa, ↓gn30] | refine p_call (cellCheck_ok (by omega)) ?_)
  (try simp only [List.cons.injEq, Lf.i.injEq, and_true, true_and]); (try omega)
theorem cnbl30 {x y : Int} (h : -4096 ≤ x ∧ x ≤ 4096 ∧ -4096 ≤ y ∧ y ≤ 4096 ∧ ¬ (-4096 ≤ x - 1 ∧ x - 1 ≤ 4096 ∧ -4096 ≤ y ∧ y ≤ 4096)) : Cc 47 [.i x, .i y, .i 3, .i 0] [.i 0, .i 0, .i 0, .i 3] := by
  refine q47 rfl ?_; unfold p47
  repeat (first | simp (disch := omega) only [↓qxs, ↓qxc, ↓qxa, ↓gn30] | refine p_call (cellCheck_ok (by omega)) ?_ | refine p_call (cellCheck_no (by omega)) ?_)
  (try simp only [List.cons.injEq, Lf.i.injEq, and_true, true_and]); (try omega)
theorem cnb31 {x y : Int} (h : -4096 ≤ x ∧ x ≤ 4096 ∧ -4096 ≤ y ∧ y ≤ 4096 ∧ -4096 ≤ x ∧ x ≤ 4096 ∧ -4096 ≤ y ∧ y ≤ 4096) : Cc 47 [.i x, .i y, .i 3, .i 1] [.i x, .i y, .i 2, .i 0] := by
  refine q47 rfl ?_; unfold p47
  repeat (first | simp (disch := omega) only [↓qxs, ↓qxc, ↓qxa, ↓gn31] | refine p_call (cellCheck_ok (by omega)) ?_)
  (try simp only [List.cons.injEq, Lf.i.injEq, and_true, true_and]); (try omega)
theorem cnb32 {x y : Int} (h : -4096 ≤ x ∧ x ≤ 4096 ∧ -4096 ≤ y ∧ y ≤ 4096 ∧ -4096 ≤ x ∧ x ≤ 4096 ∧ -4096 ≤ y ∧ y ≤ 4096) : Cc 47 [.i x, .i y, .i 3, .i 2] [.i x, .i y, .i 0, .i 0] := by
  refine q47 rfl ?_; unfold p47
  repeat (first | simp (disch := omega) only [↓qxs, ↓qxc, ↓qxa, ↓gn32] | refine p_call (cellCheck_ok (by omega)) ?_)
  (try simp only [List.cons.injEq, Lf.i.injEq, and_true, true_and]); (try omega)
theorem cnb_no {x y q e : Int} (h : ¬ (-4096 ≤ x ∧ x ≤ 4096 ∧ -4096 ≤ y ∧ y ≤ 4096 ∧ q ≤ 3) ∨ 2 < e) : Cc 47 [.i x, .i y, .i q, .i e] [.i 0, .i 0, .i 0, .i 1] := by
  refine q47 rfl ?_; unfold p47
  by_cases hv : -4096 ≤ x ∧ x ≤ 4096 ∧ -4096 ≤ y ∧ y ≤ 4096 ∧ q ≤ 3
  · repeat (first | simp (disch := omega) only [↓qxs, ↓qxc, ↓qxa] | refine p_call (cellCheck_ok (by omega)) ?_); (try simp only [List.cons.injEq, Lf.i.injEq, and_true, true_and]); (try omega)
  · repeat (first | simp (disch := omega) only [↓qxs, ↓qxc, ↓qxa] | refine p_call (cellCheck_no (by omega)) ?_); (try simp only [List.cons.injEq, Lf.i.injEq, and_true, true_and]); (try omega)
theorem ccorn0 {x y : Int} (h : -4096 ≤ x ∧ x ≤ 4096 ∧ -4096 ≤ y ∧ y ≤ 4096) : Cc 41 [.i x, .i y, .i 0] [.i (2 * x + 1), .i (2 * y + 1), .i (2 * x), .i (2 * y), .i (2 * x + 2), .i (2 * y), .i 0] := by
  refine q41 rfl ?_; unfold p41
  repeat (first | simp (disch := omega) only [↓qxs, ↓qxc, ↓qxa, ↓gq0] | refine p_opt_r (by simp only [pickL, putL, offX, Int.reduceToNat, Int.reduceAdd, Int.reduceMul, Int.reduceMod, Int.reduceSub, Int.reduceNeg, Int.reduceDiv, Nat.reduceAdd, Nat.reduceMul, Nat.reduceLeDiff, List.length_cons, List.length_nil, ↓reduceIte, List.drop_succ_cons, List.drop_zero, List.take_succ_cons, List.take_zero, List.cons_append, List.nil_append, Nat.zero_add, Int.toNat_zero, Nat.zero_mul, Nat.add_zero, Int.zero_add]; exact rfl) ?_ | refine p_loop 5 ?_ | refine p_call (cellCheck_ok (by omega)) ?_)
  (try simp only [List.cons.injEq, Lf.i.injEq, and_true, true_and]); (try omega)
theorem ccorn1 {x y : Int} (h : -4096 ≤ x ∧ x ≤ 4096 ∧ -4096 ≤ y ∧ y ≤ 4096) : Cc 41 [.i x, .i y, .i 1] [.i (2 * x + 1), .i (2 * y + 1), .i (2 * x + 2), .i (2 * y + 2), .i (2 * x + 2), .i (2 * y), .i 0] := by
  refine q41 rfl ?_; unfold p41
  repeat (first | simp (disch := omega) only [↓qxs, ↓qxc, ↓qxa, ↓gq1] | refine p_opt_r (by simp only [pickL, putL, offX, Int.reduceToNat, Int.reduceAdd, Int.reduceMul, Int.reduceMod, Int.reduceSub, Int.reduceNeg, Int.reduceDiv, Nat.reduceAdd, Nat.reduceMul, Nat.reduceLeDiff, List.length_cons, List.length_nil, ↓reduceIte, List.drop_succ_cons, List.drop_zero, List.take_succ_cons, List.take_zero, List.cons_append, List.nil_append, Nat.zero_add, Int.toNat_zero, Nat.zero_mul, Nat.add_zero, Int.zero_add]; exact rfl) ?_ | refine p_loop 5 ?_ | refine p_call (cellCheck_ok (by omega)) ?_)
  (try simp only [List.cons.injEq, Lf.i.injEq, and_true, true_and]); (try omega)
theorem ccorn2 {x y : Int} (h : -4096 ≤ x ∧ x ≤ 4096 ∧ -4096 ≤ y ∧ y ≤ 4096) : Cc 41 [.i x, .i y, .i 2] [.i (2 * x + 1), .i (2 * y + 1), .i (2 * x + 2), .i (2 * y + 2), .i (2 * x), .i (2 * y + 2), .i 0] := by
  refine q41 rfl ?_; unfold p41
  repeat (first | simp (disch := omega) only [↓qxs, ↓qxc, ↓qxa, ↓gq2] | refine p_opt_r (by simp only [pickL, putL, offX, Int.reduceToNat, Int.reduceAdd, Int.reduceMul, Int.reduceMod, Int.reduceSub, Int.reduceNeg, Int.reduceDiv, Nat.reduceAdd, Nat.reduceMul, Nat.reduceLeDiff, List.length_cons, List.length_nil, ↓reduceIte, List.drop_succ_cons, List.drop_zero, List.take_succ_cons, List.take_zero, List.cons_append, List.nil_append, Nat.zero_add, Int.toNat_zero, Nat.zero_mul, Nat.add_zero, Int.zero_add]; exact rfl) ?_ | refine p_loop 5 ?_ | refine p_call (cellCheck_ok (by omega)) ?_)
  (try simp only [List.cons.injEq, Lf.i.injEq, and_true, true_and]); (try omega)
theorem ccorn3 {x y : Int} (h : -4096 ≤ x ∧ x ≤ 4096 ∧ -4096 ≤ y ∧ y ≤ 4096) : Cc 41 [.i x, .i y, .i 3] [.i (2 * x + 1), .i (2 * y + 1), .i (2 * x), .i (2 * y), .i (2 * x), .i (2 * y + 2), .i 0] := by
  refine q41 rfl ?_; unfold p41
  repeat (first | simp (disch := omega) only [↓qxs, ↓qxc, ↓qxa, ↓gq3] | refine p_opt_r (by simp only [pickL, putL, offX, Int.reduceToNat, Int.reduceAdd, Int.reduceMul, Int.reduceMod, Int.reduceSub, Int.reduceNeg, Int.reduceDiv, Nat.reduceAdd, Nat.reduceMul, Nat.reduceLeDiff, List.length_cons, List.length_nil, ↓reduceIte, List.drop_succ_cons, List.drop_zero, List.take_succ_cons, List.take_zero, List.cons_append, List.nil_append, Nat.zero_add, Int.toNat_zero, Nat.zero_mul, Nat.add_zero, Int.zero_add]; exact rfl) ?_ | refine p_loop 5 ?_ | refine p_call (cellCheck_ok (by omega)) ?_)
  (try simp only [List.cons.injEq, Lf.i.injEq, and_true, true_and]); (try omega)
end Go.Am
