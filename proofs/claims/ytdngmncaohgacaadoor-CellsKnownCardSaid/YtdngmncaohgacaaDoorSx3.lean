/-
  ANNOTATIONS: code and the list of its annotations give annotated code.
-/
import Derived.Test.YtdngmncaohgacaaDoorSx2
set_option linter.unusedSectionVars false
set_option linter.unusedSimpArgs false
set_option linter.unusedVariables false
set_option linter.constructorNameAsVariable false
namespace Go.Am

inductive An where
  | r (hs : List (List SK)) (j : Option Live)
  | c (j : Option Live)
  | b (j : Option Live)
  | l (lv : Live)
  | f (κ : Nat) (ids : List Nat)

abbrev lv : SK := .leaf .v
abbrev lb : SK := .leaf .b
abbrev li : SK := .leaf (.i .i64)

def annot : Code → List An → AC × List An
  | .skip, l => (.skip, l)
  | .ret, l => (.ret, l)
  | .exit id, l => (.exit id, l)
  | .label n, l => (.label n, l)
  | .seq a b, l =>
    let x := annot a l
    let y := annot b x.2
    (.seq x.1 y.1, y.2)
  | .scope b, l =>
    let x := annot b l
    (.scope x.1, x.2)
  | .region id ops draw, .r hs j :: l => (.region id ops draw hs j, l)
  | .cond c a b, .c j :: l =>
    let x := annot a l
    let y := annot b x.2
    (.cond c x.1 y.1 j, y.2)
  | .block id b, .b j :: l =>
    let x := annot b l
    (.block id x.1 j, x.2)
  | .loop b, .l lv :: l =>
    let x := annot b l
    (.loop x.1 lv, x.2)
  | .rangeFunc f _ _ _, .f κ ids :: l => (.rangeFunc f κ ids, l)
  | _, l => (.exit 1000000, l)

def codeOf (P : Program) (f : FuncId) : Code := ((P.funcs[f]?).bind (·.body)).getD .skip
def sitesOf : Code → List (Array Tmp × Code × Code)
  | .seq a b => sitesOf a ++ sitesOf b
  | .scope b => sitesOf b
  | .cond _ a b => sitesOf a ++ sitesOf b
  | .block _ b => sitesOf b
  | .loop b => sitesOf b
  | .rangeFunc _ ps a b => [(ps, a, b)]
  | _ => []
def site (c : Code) (i nt : Nat) (caps params : List (Nat × SK)) (a b : List An) : Site :=
  match (sitesOf c)[i]? with
  | some (_, x, y) => ⟨nt, caps, params, (annot x a).1, (annot y b).1⟩
  | none => ⟨0, [], [], .skip, .skip⟩
def fn1 (P : Program) (f : FuncId) (sg : Sig) (an : List An) : Fn1 :=
  match P.funcs[f]? with
  | some fn => ⟨sg, fn.ntmps, fn.results.toList, (annot (codeOf P f) an).1⟩
  | none => ⟨sg, 0, [], .skip⟩

/-- No drawn region is looked at. -/
def dr0 (_ : List Nat) (_ : Array Oper) : Bool := true

end Go.Am
