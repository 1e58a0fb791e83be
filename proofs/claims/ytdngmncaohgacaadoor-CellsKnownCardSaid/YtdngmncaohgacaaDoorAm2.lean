/-
  THE ABSTRACT MACHINE, ITS RUNS: code, calls, rounds of a loop over an iterator.
-/
import Derived.Test.YtdngmncaohgacaaDoorAm1
set_option linter.unusedSectionVars false
set_option linter.unusedSimpArgs false
set_option linter.unusedVariables false
set_option linter.constructorNameAsVariable false
namespace Go.Am

section
variable [Val]

/-- What a number, plain or symbolic, means. -/
def den1 : Value → Value
  | .tuple vs => match vs.toList with
    | [.agg cs] => match symKind cs with
      | some k => .int k (Val.num cs)
      | none => .tuple vs
    | _ => .tuple vs
  | v => v
def den : Value → Value
  | .agg cs => .agg (cs.map den1)
  | v => den1 v
def plain1 (v : Value) : Bool := scalar v || isSym v
/-- A value that is known, given what the symbolic numbers mean. -/
def plain : Value → Bool
  | .agg cs => cs.toList.all plain1
  | v => plain1 v

def isSelect : Op → Bool
  | .select .. => true
  | .defer _ => true
  | _ => false

/-- An operation without memory, on known values. -/
def symRel (C : Cfg) (tmps : List Value) (o : Oper) (v : Value) : Prop :=
  isSelect o.op = false ∧ o.op.operands.toList.all (fun x => plain (oval tmps x)) = true ∧ plain v = true ∧
    ∀ w, (execOp (fun x => den (oval tmps x)) o).run C.P w = .ok (.value (den v)) w

/-- The same numbers, written otherwise. -/
def Restate (σ σ' : St) : Prop :=
  σ'.loc = σ.loc ∧ σ'.heap = σ.heap ∧ σ'.tmps.length = σ.tmps.length ∧
    ∀ (i : Nat) x y, σ.tmps[i]? = some x → σ'.tmps[i]? = some y → y = x ∨ (plain x = true ∧ plain y = true ∧ den x = den y)

/-- Is the operation wanted? Nothing: its guard is not known. -/
def wantedA (ops : Array Oper) (tmps : List Value) (o : Oper) : Option Bool :=
  match o.guard with
  | none => some true
  | some (j, want) =>
    match ((ops[j]?).bind (·.dst)).bind (tmps[·]?) with
    | some (.bool b) => some (b == want)
    | some (.tuple vs) => if vs.size = 1 then none else some false
    | _ => some false

/-- Calls and rounds at some depth. -/
structure Below where
  call : FuncId → List Value → List HObj → Value → List HObj → Prop
  yield : Nat → List Value → List HObj → Value → List HObj → Prop

def effRel (B : Below) (e : Eff) (dst : Option Tmp) (σ σ' : St) : Prop :=
  match e with
  | .call f args => ∃ r H, B.call f args σ.heap r H ∧ σ' = ({ σ with heap := H } : St).put dst r
  | .yield l args => ∃ r H, B.yield l args σ.heap r H ∧ σ' = ({ σ with heap := H } : St).put dst r
  | e => ∃ p, applyEff σ e = some p ∧ σ' = p.1.put dst p.2

def stepRel (C : Cfg) (B : Below) (pts : List Nat) (ops : Array Oper) (i : Nat) (σ σ' : St) : Prop :=
  match ops[i]? with
  | none => σ' = σ
  | some o =>
    match wantedA ops σ.tmps o with
    | none => False
    | some false => σ' = σ.put o.dst undef
    | some true => (∃ e, effOf C pts (oval σ.tmps) o = some e ∧ effRel B e o.dst σ σ') ∨ (∃ v, symRel C σ.tmps o v ∧ σ' = σ.put o.dst v)

def opsRel (C : Cfg) (B : Below) (pts : List Nat) (ops : Array Oper) : List Nat → St → St → Prop
  | [], σ, σ' => σ' = σ
  | i :: l, σ, σ' => ∃ σ₁, stepRel C B pts ops i σ σ₁ ∧ opsRel C B pts ops l σ₁ σ'

/-- In the text's order; numbers may be written otherwise between two operations. -/
def opsRelR (C : Cfg) (B : Below) (pts : List Nat) (ops : Array Oper) : List Nat → St → St → Prop
  | [], σ, σ' => σ' = σ
  | i :: l, σ, σ' => ∃ σ₀ σ₁, Restate σ σ₀ ∧ stepRel C B pts ops i σ₀ σ₁ ∧ opsRelR C B pts ops l σ₁ σ'

/-- Whatever the order that the tape gives. -/
def anyRel (C : Cfg) (B : Below) (pts : List Nat) (ops : Array Oper) (σ σ' : St) : Prop :=
  ∀ t, opsRel C B pts ops (Region.linearise .any ops t) σ σ'

/-- The local rows that a piece of code lays. -/
def boxKeys (pts : List Nat) : Code → List Nat
  | .region _ ops _ => ops.toList.filterMap fun o =>
    match o.op, o.dst with
    | .box .., some d => if pts.getD d 0 = d + 2 then some d else none
    | .alloc _, some d => if pts.getD d 0 = d + 2 then some d else none
    | _, _ => none
  | .seq a b => boxKeys pts a ++ boxKeys pts b
  | .cond _ a b => boxKeys pts a ++ boxKeys pts b
  | .block _ b => boxKeys pts b
  | .loop b => boxKeys pts b
  | .rangeFunc _ _ a b => boxKeys pts a ++ boxKeys pts b
  | .scope b => boxKeys pts b
  | _ => []

def clearV (keys : List Nat) (v : Value) : Value :=
  match v with
  | .pointer (some a) => if a.spot = some 0 && keys.contains a.block then poison else v
  | v => if noLoc v then v else poison
def clearAt (keys : List Nat) : List (Option (List Value)) → Nat → List (Option (List Value))
  | [], _ => []
  | x :: l, i => (if keys.contains i then none else x) :: clearAt keys l (i + 1)
/-- The local rows of a loop's round go. -/
def St.clear (σ : St) (keys : List Nat) : St :=
  if keys = [] then σ else { σ with tmps := σ.tmps.map (clearV keys), loc := clearAt keys σ.loc 0 }

def snap (tmps : List Value) : List Value := tmps.map fun v => if noLoc v then v else poison
/-- What a loop over an iterator keeps of the temporaries: some of them. -/
def SnapOf (tmps tm : List Value) : Prop := tm.length = tmps.length ∧ ∀ (i : Nat) x, tm[i]? = some x → x = poison ∨ (tmps[i]? = some x ∧ noLoc x = true)

def putAll : List Tmp → List Value → List Value → List Value
  | t :: ts, v :: vs, tmps => putAll ts vs (tmps.set t v)
  | _, _, tmps => tmps

def hloop (H : List HObj) (l : Nat) : Option ALoop :=
  match H[l]? with
  | some (.loop r) => some r
  | _ => none

def jumpOf : Exit → Option (Option Code)
  | .normal => some none
  | .ret => some (some .ret)
  | .exit id => some (some (.exit id))
  | _ => none
def exitOf : Option Code → Option Exit
  | none => some .normal
  | some .ret => some .ret
  | some (.exit id) => some (.exit id)
  | _ => none

/-- A result variable. -/
def resultA (C : Cfg) (σ : St) : ResultVar → Option Value
  | .tmp t => some (σ.tmps.getD t undef)
  | .cell a t =>
    match σ.tmps.getD a undef with
    | .pointer (some p) =>
      match p.spot with
      | none => (hcells σ.heap p.block).bind fun vs => readVar C.P t vs p.off
      | some 0 => match σ.loc[p.block]? with
        | some (some vs) => readVar C.P t vs p.off
        | _ => none
      | _ => none
    | _ => none
def resultsA (C : Cfg) (σ : St) : List ResultVar → Option (List Value)
  | [] => some []
  | r :: rs => match resultA C σ r, resultsA C σ rs with
    | some v, some vs => some (v :: vs)
    | _, _ => none
def packA : List Value → Value
  | [v] => v
  | vs => .tuple vs.toArray

def enterA (fn : Func) (args : List Value) (H : List HObj) : St :=
  { tmps := args ++ List.replicate (fn.ntmps - args.length) undef, loc := List.replicate fn.ntmps none, heap := H }

structure Sems extends Below where
  ex : List Nat → Code → St → Exit → St → Prop

def exitTo1 (id : Nat) : Exit → Exit
  | .exit i => if i = id then .normal else .exit i
  | e => e

def exNext (C : Cfg) (S : Sems) (fid : List Nat) : Code → St → Exit → St → Prop
  | .skip, σ, e, σ' => e = .normal ∧ σ' = σ
  | .label _, σ, e, σ' => e = .normal ∧ σ' = σ
  | .ret, σ, e, σ' => e = .ret ∧ σ' = σ
  | .exit id, σ, e, σ' => e = .exit id ∧ σ' = σ
  | .goto _, _, _, _ => False
  | .refuse _, _, _, _ => False
  | .seq a b, σ, e, σ' => ∃ e₁ σ₁, S.ex fid a σ e₁ σ₁ ∧ ((e₁ = .normal ∧ S.ex fid b σ₁ e σ') ∨ (e₁ ≠ .normal ∧ e = e₁ ∧ σ' = σ₁))
  | .cond c a b, σ, e, σ' => ∃ t, oval σ.tmps c = .bool t ∧ S.ex fid (if t then a else b) σ e σ'
  | .block id b, σ, e, σ' => ∃ e₁, S.ex fid b σ e₁ σ' ∧ e = exitTo1 id e₁
  | .loop b, σ, e, σ' => ∃ e₁ σ₁, S.ex fid b (σ.clear (boxKeys fid b)) e₁ σ₁ ∧ ((e₁ = .normal ∧ S.ex fid (.loop b) σ₁ e σ') ∨ (e₁ ≠ .normal ∧ e = e₁ ∧ σ' = σ₁))
  | .scope b, σ, e, σ' => S.ex fid b σ e σ'
  | .region _ ops draw, σ, e, σ' => e = .normal ∧ (if draw then ∃ σ₀, Restate σ σ₀ ∧ anyRel C S.toBelow fid ops σ₀ σ' else opsRelR C S.toBelow fid ops (List.range ops.size) σ σ')
  | .rangeFunc f params assign body, σ, e, σ' =>
    fid ≠ [] ∧ ∃ g first cap φ tm r H r₂, SnapOf σ.tmps tm ∧
      oval σ.tmps f = .func (.func g) first cap ∧ noLoc (.func (.func g) first cap) = true ∧
      S.call g (first.toList ++ [.func (.yield σ.heap.length) #[] #[]] ++ cap.toList)
        (σ.heap ++ [.loop { state := .ready, pending := none, fn := φ, tmps := tm, params := params.toList, assign, body }]) r H ∧
      hloop H σ.heap.length = some r₂ ∧ r₂.state ≠ .busy ∧ exitOf r₂.pending = some e ∧
      σ' = { σ with heap := H.set σ.heap.length (.loop { r₂ with state := .exhausted }) }

def callNext (C : Cfg) (S : Sems) (f : FuncId) (args : List Value) (H : List HObj) (r : Value) (H' : List HObj) : Prop :=
  ∃ fn b e σ vs, C.P.funcs[f]? = some fn ∧ fn.body = some b ∧ (fn.name == "runtime.NumGoroutine") = false ∧
    S.ex (C.pts f) b (enterA fn args H) e σ ∧ (e = .normal ∨ e = .ret) ∧ resultsA C σ fn.results.toList = some vs ∧
    r = packA vs ∧ noLoc r = true ∧ H' = σ.heap

def yieldNext (_C : Cfg) (S : Sems) (l : Nat) (args : List Value) (H : List HObj) (r : Value) (H' : List HObj) : Prop :=
  ∃ lp σ₁ lp₁ e σ₂ lp₂ j, hloop H l = some lp ∧ args.length = lp.params.length ∧
    S.ex [] lp.assign { tmps := putAll lp.params args lp.tmps, loc := [], heap := H } .normal σ₁ ∧
    hloop σ₁.heap l = some lp₁ ∧ lp₁.state = .ready ∧
    S.ex [] lp.body { σ₁ with heap := σ₁.heap.set l (.loop { lp₁ with state := .busy }) } e σ₂ ∧ jumpOf e = some j ∧
    hloop σ₂.heap l = some lp₂ ∧ r = .bool j.isNone ∧
    H' = σ₂.heap.set l (.loop { lp₂ with state := if j.isNone then .ready else .done, pending := j })

/-- What is known of calls beside their code. -/
abbrev Known := FuncId → List Value → List HObj → Value → List HObj → Prop

def sems (C : Cfg) (K : Known) : Nat → Sems
  | 0 => { call := K, yield := fun _ _ _ _ _ => False, ex := fun _ _ _ _ _ => False }
  | n + 1 => { call := fun f args H r H' => K f args H r H' ∨ callNext C (sems C K n) f args H r H', yield := yieldNext C (sems C K n), ex := exNext C (sems C K n) }

end
end Go.Am
