/-
  CODE IN THE SHAPE OF VALUES: statements, functions, rounds of loops over iterators.
-/
import Derived.Test.YtdngmncaohgacaaDoorSx1
set_option linter.unusedSectionVars false
set_option linter.unusedSimpArgs false
set_option linter.unusedVariables false
set_option linter.constructorNameAsVariable false
namespace Go.Am

section
variable {R HT : Type} (A : Alg R HT)

def eqExit (e : Exit) (id : Nat) : Bool := match e with
  | .exit i => Nat.beq i id
  | _ => false

/-- What a loop over an iterator keeps. -/
def capVals (tm : List SV) : List (Nat × SK) → Option (List Value)
  | [] => some []
  | (t, sk) :: l => match tm.getD t .no, capVals tm l with
    | .st x, some vs => match x.is sk with
      | true => some (x.val :: vs)
      | false => none
    | _, _ => none

noncomputable def exec (X : Ctxt) (Sg : FuncId → Option Sig) (dr : List Nat → Array Oper → Bool) (c : AC) : Env → HT → KN R HT → (Exit → KN R HT) → R :=
  AC.rec (motive := fun _ => Env → HT → KN R HT → (Exit → KN R HT) → R)
    (fun ev h kn _ => kn ev h)
    (fun ev h _ kx => kx .ret ev h)
    (fun id ev h _ kx => kx (.exit id) ev h)
    (fun _ ev h kn _ => kn ev h)
    (fun _ _ iha ihb ev h kn kx => iha ev h (fun ev h => ihb ev h kn kx) kx)
    (fun _ ih ev h kn kx => ih ev h kn kx)
    (fun id ops draw hs j ev h kn _ => match draw && !(dr X.pts ops) with
      | true => A.fail
      | false => joinE A X.pts (.region id ops draw) j ev kn fun kn => opsE A X Sg ops ops.toList hs ev h kn)
    (fun c a b j iha ihb ev h kn kx => match sval ev c with
      | .st (.leaf (.l true)) => iha ev h kn kx
      | .st (.leaf (.l false)) => ihb ev h kn kx
      | .st (.leaf (.b t)) => joinE A X.pts (.cond c (a.erase fun κ t => siteCode (X.T κ) t) (b.erase fun κ t => siteCode (X.T κ) t)) j ev kn fun kn => A.cond t (iha ev h kn kx) (ihb ev h kn kx)
      | _ => A.fail)
    (fun id b j ih ev h kn kx => joinE A X.pts (b.erase fun κ t => siteCode (X.T κ) t) j ev kn fun kn => ih ev h kn fun e => match eqExit e id with
      | true => kn
      | false => kx e)
    (fun b lv ih ev h _ kx => match pk ev lv with
      | none => A.fail
      | some ls => match lv.rows.all fun p => !(boxKeys X.pts (b.erase fun κ t => siteCode (X.T κ) t)).contains p.1 with
        | false => A.fail
        | true => A.loop (fun self ls h => reE A X.pts (b.erase fun κ t => siteCode (X.T κ) t) .nil lv ev ls fun ev => ih ev h (fun ev h => match pk ev lv with
          | some ls => self ls h
          | none => A.fail) kx) ls h)
    (fun f κ ids ev h kn kx => match f, sval ev f, X.pts with
      | .tmp _, .st (.leaf (.v v)), _ :: _ => match Nat.beq ev.tm.length (X.T κ).nt, capVals ev.tm (X.T κ).caps with
        | true, some vs => A.rfun κ v vs h fun pd h => A.pend pd (kn ev h) (kx .ret ev h) (ids.map fun id => (id, kx (.exit id) ev h))
        | _, _ => A.fail
      | _, _, _ => A.fail) c

/-- The leaves of structs among several results are looked at. -/
noncomputable def chkAll (cs : List SL) (K : R) : R :=
  List.rec K (fun c _ ih => match c with
    | .v x => A.opt (chk2 x) fun _ => ih
    | _ => ih) cs
noncomputable def chkRes (many : Bool) (x : S0) (K : R) : R :=
  match many, x with
  | true, .agg cs => chkAll A cs K
  | _, _ => K

/-- What a function returns. -/
noncomputable def resE (X : Ctxt) (many : Bool) (ev : Env) (h : HT) (rvs : List ResultVar) : List SK → List Lf → (List Lf → HT → R) → R :=
  List.rec (motive := fun _ => List SK → List Lf → (List Lf → HT → R) → R) (fun sks acc K => match sks with
      | [] => K acc h
      | _ => A.fail)
    (fun rv _ ih sks acc K => match sks with
      | [] => A.fail
      | sk :: sks => match rv with
        | .tmp t => match ev.tm.getD t .no with
          | .st x => match x.is sk with
            | true => chkRes A many x (ih sks (acc ++ x.cells.map SL.lf) K)
            | false => A.fail
          | _ => A.fail
        | .cell a t => match aggT X.C.P t with
          | some agg =>
            let n := if agg then X.C.P.cellsOf t else 1
            match ev.tm.getD a .no with
            | .lad s off => match (rowAt ev s).bind (fun cs => (cutS cs off n).bind (mkS0 agg)) with
              | some x => match x.is sk with
                | true => chkRes A many x (ih sks (acc ++ x.cells.map SL.lf) K)
                | false => A.fail
              | none => A.fail
            | .st (.leaf (.v p)) => match agg, sk with
              | true, .agg _ => A.peek (ldP n p) h fun cs => ucS A sk cs fun x r => A.uc0 r (chkRes A many x (ih sks (acc ++ x.cells.map SL.lf) K))
              | false, .leaf _ => A.peek (ldP n p) h fun cs => ucS A sk cs fun x r => A.uc0 r (chkRes A many x (ih sks (acc ++ x.cells.map SL.lf) K))
              | _, _ => A.fail
            | _ => A.fail
          | none => A.fail) rvs

structure Fn1 where
  sg : Sig
  nt : Nat
  rvs : List ResultVar
  code : AC

noncomputable def execF (X : Ctxt) (Sg : FuncId → Option Sig) (dr : List Nat → Array Oper → Bool) (fn : Fn1) (ls : List Lf) (h : HT) (K : List Lf → HT → R) : R :=
  unSs A fn.sg.ps ls fun xs r => A.un0 r (
    exec A X Sg dr fn.code ⟨xs.map .st ++ List.replicate (fn.nt - xs.length) .no, List.replicate fn.nt .nil⟩ h
      (fun ev h => resE A X (Nat.blt 1 fn.rvs.length) ev h fn.rvs fn.sg.rs [] K)
      fun e ev h => match e with
        | .ret => resE A X (Nat.blt 1 fn.rvs.length) ev h fn.rvs fn.sg.rs [] K
        | _ => A.fail)

def capEnv (nt : Nat) : List (Nat × SK) → List S0 → List SV → List SV
  | (t, _) :: l, x :: xs, tm => capEnv nt l xs (tm.set t (.st x))
  | _, _, tm => tm

/-- No loop over an iterator within. -/
def noRF : AC → Bool
  | .seq a b => noRF a && noRF b
  | .scope b => noRF b
  | .cond _ a b _ => noRF a && noRF b
  | .block _ b _ => noRF b
  | .loop b _ => noRF b
  | .rangeFunc _ _ _ => false
  | _ => true
def leafOnly (l : List (Nat × SK)) : Bool := l.all fun p => match p.2 with
  | .leaf _ => true
  | .agg _ => false

/-- A round: what was kept, the arguments. -/
noncomputable def execY (X : Ctxt) (Sg : FuncId → Option Sig) (dr : List Nat → Array Oper → Bool) (st : Site) (vs : List Value) (l : Nat) (ls : List Lf) (h : HT) (K : List Lf → HT → R) : R :=
  match leafOnly st.caps && noRF st.assign && noRF st.body with
  | false => A.fail
  | true => ucSs A (st.caps.map (·.2)) vs fun xs r => A.uc0 r (unSs A (st.params.map (·.2)) ls fun ys r => A.un0 r (
    exec A { X with pts := [] } Sg dr st.assign ⟨capEnv st.nt st.params ys (capEnv st.nt st.caps xs (List.replicate st.nt .no)), []⟩ h
      (fun ev h => A.lp1 l h fun h => exec A { X with pts := [] } Sg dr st.body ev h
        (fun _ h => A.lp2 l none h fun h => K [.b true] h)
        fun e _ h => match e with
          | .ret => A.lp2 l (some .ret) h fun h => K [.b false] h
          | .exit id => A.lp2 l (some (.exit id)) h fun h => K [.b false] h
          | _ => A.fail)
      fun _ _ _ => A.fail))

end
end Go.Am
