/-
  THE TABLE OF RUNS, BY PROGRAM.
-/
import Derived.Test.YtdngmncaohgacaaDoorGq
set_option linter.unusedSectionVars false
set_option linter.unusedSimpArgs false
set_option linter.unusedVariables false
set_option linter.constructorNameAsVariable false
set_option maxRecDepth 100000
namespace Go.Am
open Sx
abbrev FB := List Lf → HL → (List Lf → HL → Bool) → Bool
def nf : FB := fun _ _ _ => false
noncomputable def tabB (A : Alg Bool HL) : Tr FB := (.node nf (.node nf (.node (f3 A) (.node (f7 A) (.node (f15 A) (.node (f31 A) (.node (f63 A) .leaf .leaf) (.node (f95 A) .leaf .leaf)) (.node (f47 A) (.node (f79 A) .leaf .leaf) .leaf)) (.node (f23 A) (.node (f39 A) (.node (f71 A) .leaf .leaf) (.node (f103 A) .leaf .leaf)) (.node (f55 A) (.node (f87 A) .leaf .leaf) .leaf))) (.node (f11 A) (.node (f19 A) (.node (f35 A) (.node (f67 A) .leaf .leaf) (.node (f99 A) .leaf .leaf)) (.node (f51 A) (.node (f83 A) .leaf .leaf) .leaf)) (.node (f27 A) (.node (f43 A) (.node (f75 A) .leaf .leaf) (.node (f107 A) .leaf .leaf)) (.node (f59 A) (.node (f91 A) .leaf .leaf) .leaf)))) (.node (f5 A) (.node (f9 A) (.node (f17 A) (.node (f33 A) (.node (f65 A) .leaf .leaf) (.node (f97 A) .leaf .leaf)) (.node (f49 A) (.node (f81 A) .leaf .leaf) .leaf)) (.node (f25 A) (.node (f41 A) (.node (f73 A) .leaf .leaf) (.node (f105 A) .leaf .leaf)) (.node (f57 A) (.node (f89 A) .leaf .leaf) .leaf))) (.node (f13 A) (.node (f21 A) (.node (f37 A) (.node (f69 A) .leaf .leaf) (.node (f101 A) .leaf .leaf)) (.node (f53 A) (.node (f85 A) .leaf .leaf) .leaf)) (.node (f29 A) (.node (f45 A) (.node (f77 A) .leaf .leaf) .leaf) (.node (f61 A) (.node (f93 A) .leaf .leaf) .leaf))))) (.node nf (.node nf (.node (f8 A) (.node (f16 A) (.node (f32 A) (.node (f64 A) .leaf .leaf) (.node (f96 A) .leaf .leaf)) (.node (f48 A) (.node (f80 A) .leaf .leaf) .leaf)) (.node (f24 A) (.node (f40 A) (.node (f72 A) .leaf .leaf) (.node (f104 A) .leaf .leaf)) (.node (f56 A) (.node (f88 A) .leaf .leaf) .leaf))) (.node (f12 A) (.node (f20 A) (.node (f36 A) (.node (f68 A) .leaf .leaf) (.node (f100 A) .leaf .leaf)) (.node (f52 A) (.node (f84 A) .leaf .leaf) .leaf)) (.node (f28 A) (.node (f44 A) (.node (f76 A) .leaf .leaf) .leaf) (.node (f60 A) (.node (f92 A) .leaf .leaf) .leaf)))) (.node (f6 A) (.node (f10 A) (.node (f18 A) (.node (f34 A) (.node (f66 A) .leaf .leaf) (.node (f98 A) .leaf .leaf)) (.node (f50 A) (.node (f82 A) .leaf .leaf) .leaf)) (.node (f26 A) (.node (f42 A) (.node (f74 A) .leaf .leaf) (.node (f106 A) .leaf .leaf)) (.node (f58 A) (.node (f90 A) .leaf .leaf) .leaf))) (.node (f14 A) (.node (f22 A) (.node (f38 A) (.node (f70 A) .leaf .leaf) (.node (f102 A) .leaf .leaf)) (.node (f54 A) (.node (f86 A) .leaf .leaf) .leaf)) (.node (f30 A) (.node (f46 A) (.node (f78 A) .leaf .leaf) .leaf) (.node (f62 A) (.node (f94 A) .leaf .leaf) .leaf))))))
/-- Closed functions whose answer is known. -/
def knB (kn : List (FuncId × Bool)) (f : FuncId) : Option Bool := match kn with
  | [] => none
  | p :: l => match Nat.beq p.1 f with
    | true => some p.2
    | false => knB l f
noncomputable def tabT (kn : List (FuncId × Bool)) (A : Alg Bool HL) (k : CK) : FB := match k with
  | .f f => match knB kn f with
    | some t => fun ls h K => match ls with
      | [] => K [.b t] h
      | _ => false
    | none => match Nat.blt f 108 with
      | true => (pathOf f).get nf (tabB A)
      | false => nf
  | .y κ vs l => fun ls h K => execY A (xc 0) sgTab drN (siteTab κ) vs l ls h K
noncomputable abbrev runR (kn : List (FuncId × Bool)) (n : Nat) : CallB := Sx.runT sgTab siteTab (tabT kn) n
def isT (l : List Lf) (_ : HL) : Bool := match l with | [.b t] => t | _ => false
section
variable [Val] [Kno]
def TabP (k : Nat) : Prop := ∀ A ls h K, (pathOf k).get nf (tabB A) ls h K = true → ∃ fn, FnIs (xc k) sgTab k fn ∧ execF A (xc k) sgTab drN fn ls h K = true
theorem TabP.of {k : Nat} {g : Alg Bool HL → FB} {fn : Fn1} (h1 : (fun A : Alg Bool HL => (pathOf k).get nf (tabB A)) = g) (h2 : g = fun A ls h K => execF A (xc k) sgTab drN fn ls h K) (h3 : FnIs (xc k) sgTab k fn) : TabP k := by
  intro A ls h K hk
  refine ⟨fn, h3, ?_⟩
  have := congrFun (h1.trans h2) A
  rw [this] at hk
  exact hk
theorem TabP.no {k : Nat} (h1 : (fun A : Alg Bool HL => (pathOf k).get nf (tabB A)) = fun _ => nf) : TabP k := by
  intro A ls h K hk
  have := congrFun h1 A
  rw [this] at hk
  cases hk

theorem t0 : TabP 0 := .no (by kernel_rfl)
theorem t1 : TabP 1 := .no (by kernel_rfl)
theorem t2 : TabP 2 := .no (by kernel_rfl)
theorem t3 : TabP 3 := .of (g := fun A => f3 A) (by kernel_rfl) (congrFun (congrFun e3 Bool) HL) i3
theorem t4 : TabP 4 := .no (by kernel_rfl)
theorem t5 : TabP 5 := .of (g := fun A => f5 A) (by kernel_rfl) (congrFun (congrFun e5 Bool) HL) i5
theorem t6 : TabP 6 := .of (g := fun A => f6 A) (by kernel_rfl) (congrFun (congrFun e6 Bool) HL) i6
theorem t7 : TabP 7 := .of (g := fun A => f7 A) (by kernel_rfl) (congrFun (congrFun e7 Bool) HL) i7
theorem t8 : TabP 8 := .of (g := fun A => f8 A) (by kernel_rfl) (congrFun (congrFun e8 Bool) HL) i8
theorem t9 : TabP 9 := .of (g := fun A => f9 A) (by kernel_rfl) (congrFun (congrFun e9 Bool) HL) i9
theorem t10 : TabP 10 := .of (g := fun A => f10 A) (by kernel_rfl) (congrFun (congrFun e10 Bool) HL) i10
theorem t11 : TabP 11 := .of (g := fun A => f11 A) (by kernel_rfl) (congrFun (congrFun e11 Bool) HL) i11
theorem t12 : TabP 12 := .of (g := fun A => f12 A) (by kernel_rfl) (congrFun (congrFun e12 Bool) HL) i12
theorem t13 : TabP 13 := .of (g := fun A => f13 A) (by kernel_rfl) (congrFun (congrFun e13 Bool) HL) i13
theorem t14 : TabP 14 := .of (g := fun A => f14 A) (by kernel_rfl) (congrFun (congrFun e14 Bool) HL) i14
theorem t15 : TabP 15 := .of (g := fun A => f15 A) (by kernel_rfl) (congrFun (congrFun e15 Bool) HL) i15
theorem t16 : TabP 16 := .of (g := fun A => f16 A) (by kernel_rfl) (congrFun (congrFun e16 Bool) HL) i16
theorem t17 : TabP 17 := .of (g := fun A => f17 A) (by kernel_rfl) (congrFun (congrFun e17 Bool) HL) i17
theorem t18 : TabP 18 := .of (g := fun A => f18 A) (by kernel_rfl) (congrFun (congrFun e18 Bool) HL) i18
theorem t19 : TabP 19 := .of (g := fun A => f19 A) (by kernel_rfl) (congrFun (congrFun e19 Bool) HL) i19
theorem t20 : TabP 20 := .of (g := fun A => f20 A) (by kernel_rfl) (congrFun (congrFun e20 Bool) HL) i20
theorem t21 : TabP 21 := .of (g := fun A => f21 A) (by kernel_rfl) (congrFun (congrFun e21 Bool) HL) i21
theorem t22 : TabP 22 := .of (g := fun A => f22 A) (by kernel_rfl) (congrFun (congrFun e22 Bool) HL) i22
theorem t23 : TabP 23 := .of (g := fun A => f23 A) (by kernel_rfl) (congrFun (congrFun e23 Bool) HL) i23
theorem t24 : TabP 24 := .of (g := fun A => f24 A) (by kernel_rfl) (congrFun (congrFun e24 Bool) HL) i24
theorem t25 : TabP 25 := .of (g := fun A => f25 A) (by kernel_rfl) (congrFun (congrFun e25 Bool) HL) i25
theorem t26 : TabP 26 := .of (g := fun A => f26 A) (by kernel_rfl) (congrFun (congrFun e26 Bool) HL) i26
theorem t27 : TabP 27 := .of (g := fun A => f27 A) (by kernel_rfl) (congrFun (congrFun e27 Bool) HL) i27
theorem t28 : TabP 28 := .of (g := fun A => f28 A) (by kernel_rfl) (congrFun (congrFun e28 Bool) HL) i28
theorem t29 : TabP 29 := .of (g := fun A => f29 A) (by kernel_rfl) (congrFun (congrFun e29 Bool) HL) i29
theorem t30 : TabP 30 := .of (g := fun A => f30 A) (by kernel_rfl) (congrFun (congrFun e30 Bool) HL) i30
theorem t31 : TabP 31 := .of (g := fun A => f31 A) (by kernel_rfl) (congrFun (congrFun e31 Bool) HL) i31
theorem t32 : TabP 32 := .of (g := fun A => f32 A) (by kernel_rfl) (congrFun (congrFun e32 Bool) HL) i32
theorem t33 : TabP 33 := .of (g := fun A => f33 A) (by kernel_rfl) (congrFun (congrFun e33 Bool) HL) i33
theorem t34 : TabP 34 := .of (g := fun A => f34 A) (by kernel_rfl) (congrFun (congrFun e34 Bool) HL) i34
theorem t35 : TabP 35 := .of (g := fun A => f35 A) (by kernel_rfl) (congrFun (congrFun e35 Bool) HL) i35
theorem t36 : TabP 36 := .of (g := fun A => f36 A) (by kernel_rfl) (congrFun (congrFun e36 Bool) HL) i36
theorem t37 : TabP 37 := .of (g := fun A => f37 A) (by kernel_rfl) (congrFun (congrFun e37 Bool) HL) i37
theorem t38 : TabP 38 := .of (g := fun A => f38 A) (by kernel_rfl) (congrFun (congrFun e38 Bool) HL) i38
theorem t39 : TabP 39 := .of (g := fun A => f39 A) (by kernel_rfl) (congrFun (congrFun e39 Bool) HL) i39
theorem t40 : TabP 40 := .of (g := fun A => f40 A) (by kernel_rfl) (congrFun (congrFun e40 Bool) HL) i40
theorem t41 : TabP 41 := .of (g := fun A => f41 A) (by kernel_rfl) (congrFun (congrFun e41 Bool) HL) i41
theorem t42 : TabP 42 := .of (g := fun A => f42 A) (by kernel_rfl) (congrFun (congrFun e42 Bool) HL) i42
theorem t43 : TabP 43 := .of (g := fun A => f43 A) (by kernel_rfl) (congrFun (congrFun e43 Bool) HL) i43
theorem t44 : TabP 44 := .of (g := fun A => f44 A) (by kernel_rfl) (congrFun (congrFun e44 Bool) HL) i44
theorem t45 : TabP 45 := .of (g := fun A => f45 A) (by kernel_rfl) (congrFun (congrFun e45 Bool) HL) i45
theorem t46 : TabP 46 := .of (g := fun A => f46 A) (by kernel_rfl) (congrFun (congrFun e46 Bool) HL) i46
theorem t47 : TabP 47 := .of (g := fun A => f47 A) (by kernel_rfl) (congrFun (congrFun e47 Bool) HL) i47
theorem t48 : TabP 48 := .of (g := fun A => f48 A) (by kernel_rfl) (congrFun (congrFun e48 Bool) HL) i48
theorem t49 : TabP 49 := .of (g := fun A => f49 A) (by kernel_rfl) (congrFun (congrFun e49 Bool) HL) i49
theorem t50 : TabP 50 := .of (g := fun A => f50 A) (by kernel_rfl) (congrFun (congrFun e50 Bool) HL) i50
theorem t51 : TabP 51 := .of (g := fun A => f51 A) (by kernel_rfl) (congrFun (congrFun e51 Bool) HL) i51
theorem t52 : TabP 52 := .of (g := fun A => f52 A) (by kernel_rfl) (congrFun (congrFun e52 Bool) HL) i52
theorem t53 : TabP 53 := .of (g := fun A => f53 A) (by kernel_rfl) (congrFun (congrFun e53 Bool) HL) i53
theorem t54 : TabP 54 := .of (g := fun A => f54 A) (by kernel_rfl) (congrFun (congrFun e54 Bool) HL) i54
theorem t55 : TabP 55 := .of (g := fun A => f55 A) (by kernel_rfl) (congrFun (congrFun e55 Bool) HL) i55
theorem t56 : TabP 56 := .of (g := fun A => f56 A) (by kernel_rfl) (congrFun (congrFun e56 Bool) HL) i56
theorem t57 : TabP 57 := .of (g := fun A => f57 A) (by kernel_rfl) (congrFun (congrFun e57 Bool) HL) i57
theorem t58 : TabP 58 := .of (g := fun A => f58 A) (by kernel_rfl) (congrFun (congrFun e58 Bool) HL) i58
theorem t59 : TabP 59 := .of (g := fun A => f59 A) (by kernel_rfl) (congrFun (congrFun e59 Bool) HL) i59
theorem t60 : TabP 60 := .of (g := fun A => f60 A) (by kernel_rfl) (congrFun (congrFun e60 Bool) HL) i60
theorem t61 : TabP 61 := .of (g := fun A => f61 A) (by kernel_rfl) (congrFun (congrFun e61 Bool) HL) i61
theorem t62 : TabP 62 := .of (g := fun A => f62 A) (by kernel_rfl) (congrFun (congrFun e62 Bool) HL) i62
theorem t63 : TabP 63 := .of (g := fun A => f63 A) (by kernel_rfl) (congrFun (congrFun e63 Bool) HL) i63
theorem t64 : TabP 64 := .of (g := fun A => f64 A) (by kernel_rfl) (congrFun (congrFun e64 Bool) HL) i64
theorem t65 : TabP 65 := .of (g := fun A => f65 A) (by kernel_rfl) (congrFun (congrFun e65 Bool) HL) i65
theorem t66 : TabP 66 := .of (g := fun A => f66 A) (by kernel_rfl) (congrFun (congrFun e66 Bool) HL) i66
theorem t67 : TabP 67 := .of (g := fun A => f67 A) (by kernel_rfl) (congrFun (congrFun e67 Bool) HL) i67
theorem t68 : TabP 68 := .of (g := fun A => f68 A) (by kernel_rfl) (congrFun (congrFun e68 Bool) HL) i68
theorem t69 : TabP 69 := .of (g := fun A => f69 A) (by kernel_rfl) (congrFun (congrFun e69 Bool) HL) i69
theorem t70 : TabP 70 := .of (g := fun A => f70 A) (by kernel_rfl) (congrFun (congrFun e70 Bool) HL) i70
theorem t71 : TabP 71 := .of (g := fun A => f71 A) (by kernel_rfl) (congrFun (congrFun e71 Bool) HL) i71
theorem t72 : TabP 72 := .of (g := fun A => f72 A) (by kernel_rfl) (congrFun (congrFun e72 Bool) HL) i72
theorem t73 : TabP 73 := .of (g := fun A => f73 A) (by kernel_rfl) (congrFun (congrFun e73 Bool) HL) i73
theorem t74 : TabP 74 := .of (g := fun A => f74 A) (by kernel_rfl) (congrFun (congrFun e74 Bool) HL) i74
theorem t75 : TabP 75 := .of (g := fun A => f75 A) (by kernel_rfl) (congrFun (congrFun e75 Bool) HL) i75
theorem t76 : TabP 76 := .of (g := fun A => f76 A) (by kernel_rfl) (congrFun (congrFun e76 Bool) HL) i76
theorem t77 : TabP 77 := .of (g := fun A => f77 A) (by kernel_rfl) (congrFun (congrFun e77 Bool) HL) i77
theorem t78 : TabP 78 := .of (g := fun A => f78 A) (by kernel_rfl) (congrFun (congrFun e78 Bool) HL) i78
theorem t79 : TabP 79 := .of (g := fun A => f79 A) (by kernel_rfl) (congrFun (congrFun e79 Bool) HL) i79
theorem t80 : TabP 80 := .of (g := fun A => f80 A) (by kernel_rfl) (congrFun (congrFun e80 Bool) HL) i80
theorem t81 : TabP 81 := .of (g := fun A => f81 A) (by kernel_rfl) (congrFun (congrFun e81 Bool) HL) i81
theorem t82 : TabP 82 := .of (g := fun A => f82 A) (by kernel_rfl) (congrFun (congrFun e82 Bool) HL) i82
theorem t83 : TabP 83 := .of (g := fun A => f83 A) (by kernel_rfl) (congrFun (congrFun e83 Bool) HL) i83
theorem t84 : TabP 84 := .of (g := fun A => f84 A) (by kernel_rfl) (congrFun (congrFun e84 Bool) HL) i84
theorem t85 : TabP 85 := .of (g := fun A => f85 A) (by kernel_rfl) (congrFun (congrFun e85 Bool) HL) i85
theorem t86 : TabP 86 := .of (g := fun A => f86 A) (by kernel_rfl) (congrFun (congrFun e86 Bool) HL) i86
theorem t87 : TabP 87 := .of (g := fun A => f87 A) (by kernel_rfl) (congrFun (congrFun e87 Bool) HL) i87
theorem t88 : TabP 88 := .of (g := fun A => f88 A) (by kernel_rfl) (congrFun (congrFun e88 Bool) HL) i88
theorem t89 : TabP 89 := .of (g := fun A => f89 A) (by kernel_rfl) (congrFun (congrFun e89 Bool) HL) i89
theorem t90 : TabP 90 := .of (g := fun A => f90 A) (by kernel_rfl) (congrFun (congrFun e90 Bool) HL) i90
theorem t91 : TabP 91 := .of (g := fun A => f91 A) (by kernel_rfl) (congrFun (congrFun e91 Bool) HL) i91
theorem t92 : TabP 92 := .of (g := fun A => f92 A) (by kernel_rfl) (congrFun (congrFun e92 Bool) HL) i92
theorem t93 : TabP 93 := .of (g := fun A => f93 A) (by kernel_rfl) (congrFun (congrFun e93 Bool) HL) i93
theorem t94 : TabP 94 := .of (g := fun A => f94 A) (by kernel_rfl) (congrFun (congrFun e94 Bool) HL) i94
theorem t95 : TabP 95 := .of (g := fun A => f95 A) (by kernel_rfl) (congrFun (congrFun e95 Bool) HL) i95
theorem t96 : TabP 96 := .of (g := fun A => f96 A) (by kernel_rfl) (congrFun (congrFun e96 Bool) HL) i96
theorem t97 : TabP 97 := .of (g := fun A => f97 A) (by kernel_rfl) (congrFun (congrFun e97 Bool) HL) i97
theorem t98 : TabP 98 := .of (g := fun A => f98 A) (by kernel_rfl) (congrFun (congrFun e98 Bool) HL) i98
theorem t99 : TabP 99 := .of (g := fun A => f99 A) (by kernel_rfl) (congrFun (congrFun e99 Bool) HL) i99
theorem t100 : TabP 100 := .of (g := fun A => f100 A) (by kernel_rfl) (congrFun (congrFun e100 Bool) HL) i100
theorem t101 : TabP 101 := .of (g := fun A => f101 A) (by kernel_rfl) (congrFun (congrFun e101 Bool) HL) i101
theorem t102 : TabP 102 := .of (g := fun A => f102 A) (by kernel_rfl) (congrFun (congrFun e102 Bool) HL) i102
theorem t103 : TabP 103 := .of (g := fun A => f103 A) (by kernel_rfl) (congrFun (congrFun e103 Bool) HL) i103
theorem t104 : TabP 104 := .of (g := fun A => f104 A) (by kernel_rfl) (congrFun (congrFun e104 Bool) HL) i104
theorem t105 : TabP 105 := .of (g := fun A => f105 A) (by kernel_rfl) (congrFun (congrFun e105 Bool) HL) i105
theorem t106 : TabP 106 := .of (g := fun A => f106 A) (by kernel_rfl) (congrFun (congrFun e106 Bool) HL) i106
theorem t107 : TabP 107 := .of (g := fun A => f107 A) (by kernel_rfl) (congrFun (congrFun e107 Bool) HL) i107
theorem tabAll : ∀ f, Nat.blt f 108 = true → TabP f
  | 0, _ => t0
  | 1, _ => t1
  | 2, _ => t2
  | 3, _ => t3
  | 4, _ => t4
  | 5, _ => t5
  | 6, _ => t6
  | 7, _ => t7
  | 8, _ => t8
  | 9, _ => t9
  | 10, _ => t10
  | 11, _ => t11
  | 12, _ => t12
  | 13, _ => t13
  | 14, _ => t14
  | 15, _ => t15
  | 16, _ => t16
  | 17, _ => t17
  | 18, _ => t18
  | 19, _ => t19
  | 20, _ => t20
  | 21, _ => t21
  | 22, _ => t22
  | 23, _ => t23
  | 24, _ => t24
  | 25, _ => t25
  | 26, _ => t26
  | 27, _ => t27
  | 28, _ => t28
  | 29, _ => t29
  | 30, _ => t30
  | 31, _ => t31
  | 32, _ => t32
  | 33, _ => t33
  | 34, _ => t34
  | 35, _ => t35
  | 36, _ => t36
  | 37, _ => t37
  | 38, _ => t38
  | 39, _ => t39
  | 40, _ => t40
  | 41, _ => t41
  | 42, _ => t42
  | 43, _ => t43
  | 44, _ => t44
  | 45, _ => t45
  | 46, _ => t46
  | 47, _ => t47
  | 48, _ => t48
  | 49, _ => t49
  | 50, _ => t50
  | 51, _ => t51
  | 52, _ => t52
  | 53, _ => t53
  | 54, _ => t54
  | 55, _ => t55
  | 56, _ => t56
  | 57, _ => t57
  | 58, _ => t58
  | 59, _ => t59
  | 60, _ => t60
  | 61, _ => t61
  | 62, _ => t62
  | 63, _ => t63
  | 64, _ => t64
  | 65, _ => t65
  | 66, _ => t66
  | 67, _ => t67
  | 68, _ => t68
  | 69, _ => t69
  | 70, _ => t70
  | 71, _ => t71
  | 72, _ => t72
  | 73, _ => t73
  | 74, _ => t74
  | 75, _ => t75
  | 76, _ => t76
  | 77, _ => t77
  | 78, _ => t78
  | 79, _ => t79
  | 80, _ => t80
  | 81, _ => t81
  | 82, _ => t82
  | 83, _ => t83
  | 84, _ => t84
  | 85, _ => t85
  | 86, _ => t86
  | 87, _ => t87
  | 88, _ => t88
  | 89, _ => t89
  | 90, _ => t90
  | 91, _ => t91
  | 92, _ => t92
  | 93, _ => t93
  | 94, _ => t94
  | 95, _ => t95
  | 96, _ => t96
  | 97, _ => t97
  | 98, _ => t98
  | 99, _ => t99
  | 100, _ => t100
  | 101, _ => t101
  | 102, _ => t102
  | 103, _ => t103
  | 104, _ => t104
  | 105, _ => t105
  | 106, _ => t106
  | 107, _ => t107
  | n + 108, h => by rw [Nat.blt_eq] at h; omega
theorem knB_mem {f : FuncId} {t : Bool} : ∀ {l : List (FuncId × Bool)}, knB l f = some t → (f, t) ∈ l
  | p :: l, h => by
    unfold knB at h
    split at h
    · rename_i e
      cases h
      have := Nat.eq_of_beq_eq_true e
      subst this
      exact List.mem_cons_self
    · exact List.mem_cons_of_mem _ (knB_mem h)
theorem run_ok (kn : List (FuncId × Bool)) (hkn : ∀ p ∈ kn, sgTab p.1 = some ⟨[], [lb]⟩ ∧ Kno.kn p.1 [] (.bool p.2)) (n : Nat) : CallBOk cc sgTab siteTab (runR kn n) :=
  Sx.runT_ok (tab := tabT kn) (T := siteTab) (X := xc) (dr := drN) (fun pts ops h n σ σ' hx => dr_ok neuN_ok pts ops h n σ σ' hx) (fun _ => ⟨rfl, rfl⟩) (fun A f ls h K hk => by
    simp only [tabT] at hk
    cases e0 : knB kn f with
    | some t =>
      rw [e0] at hk
      match ls, hk with
      | [], hk =>
        obtain ⟨h1, h2⟩ := hkn _ (knB_mem e0)
        exact .inr ⟨[.b t], fun H => ⟨⟨[], [lb]⟩, [], [.leaf (.b t)], h1, ⟨rfl, rfl, fun _ h => by cases h⟩, ⟨rfl, rfl, fun x hx => by
          simp only [List.mem_singleton] at hx
          subst hx
          intro y hy
          simp only [S0.cells, List.mem_singleton] at hy
          subst hy; trivial⟩, call_known h2 H⟩, hk⟩
    | none =>
      rw [e0] at hk
      cases e : Nat.blt f 108 with
      | true => rw [e] at hk; exact .inl (tabAll f e A ls h K hk)
      | false => rw [e] at hk; cases hk) (fun A κ vs l ls h K hk => ⟨0, hk⟩) n
end
end Go.Am
