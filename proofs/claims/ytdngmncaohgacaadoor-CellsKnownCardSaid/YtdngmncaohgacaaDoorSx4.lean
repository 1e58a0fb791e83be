/-
  THE ALGEBRA OF RUNS: a run that the kernel makes.
-/
import Derived.Test.YtdngmncaohgacaaDoorSx5
import Derived.Test.YtdngmncaohgacaaDoorAm7
set_option linter.unusedSectionVars false
set_option linter.unusedSimpArgs false
set_option linter.unusedVariables false
set_option linter.constructorNameAsVariable false
namespace Go.Am

section
/-- What lies on the heap of a run: an object, or a loop over an iterator (where it stands in the text, its state, what it kept). -/
inductive HO where
  | o (x : HObj)
  | lp (κ : Nat) (st : LoopState) (pd : Option Code) (vs : List Value)
abbrev HL := List HO
/-- What is run: a function, or a round. -/
inductive CK where
  | f (g : FuncId)
  | y (κ : Nat) (vs : List Value) (l : Nat)
abbrev CallB := CK → List Lf → HL → (List Lf → HL → Bool) → Bool

def absO (T : Nat → Site) : HO → HObj
  | .o x => x
  | .lp κ st pd vs => .loop { lpOf (T κ) κ vs with state := st, pending := pd }
def absH (T : Nat → Site) (h : HL) : List HObj := h.map (absO T)
def Act1.onH (h : HL) : Act1 → HL
  | .set i o => h.set i (.o o)
  | .push o => h ++ [.o o]
def actsOnH (h : HL) (l : List Act1) : HL := l.foldl Act1.onH h
def getH (T : Nat → Site) (h : HL) : Getter := fun i => match h[i]? with
  | some x => some (absO T x)
  | none => none

noncomputable def condB (b : Bool) (x y : Bool) : Bool := Bool.rec y x b
noncomputable def ariB (op : BinOp) (k : IntKind) (a b : Int) (K : Int → Bool) : Bool :=
  match op with
  | .add => forceI (Int.add a b) fun c => match fits k c with
    | true => K c
    | false => forceI (k.wrap c) K
  | .sub => forceI (Int.sub a b) fun c => match fits k c with
    | true => K c
    | false => forceI (k.wrap c) K
  | .mul => forceI (Int.mul a b) fun c => match fits k c with
    | true => K c
    | false => forceI (k.wrap c) K
  | .quo => match eqI b 0 with
    | true => false
    | false => forceI (Int.tdiv a b) fun c => match fits k c with
      | true => K c
      | false => forceI (k.wrap c) K
  | .rem => match eqI b 0 with
    | true => false
    | false => forceI (Int.tmod a b) K
  | .and => match eqI b 1 with
    | true => forceI (Int.emod a 2) K
    | false => match a, b with
      | .ofNat m, .ofNat n => forceI (.ofNat (Nat.land m n)) fun c => match fits k c with
        | true => K c
        | false => forceI (k.wrap c) K
      | _, _ => false
  | _ => false
noncomputable def cmpB (op : BinOp) (a b : Int) (K : Bool → Bool) : Bool :=
  match op with
  | .eql => match eqI a b with | true => K true | false => K false
  | .neq => match eqI a b with | true => K false | false => K true
  | .lss => match leI b a with | true => K false | false => K true
  | .leq => match leI a b with | true => K true | false => K false
  | .gtr => match leI a b with | true => K false | false => K true
  | .geq => match leI b a with | true => K true | false => K false
  | _ => false
def eqLf : Lf → Lf → Bool
  | .i a, .i b => eqI a b
  | .b a, .b b => match a, b with | true, true => true | false, false => true | _, _ => false
  | _, _ => false
noncomputable def eqsB (l : List (Lf × Lf)) (K : Bool → Bool) : Bool :=
  List.rec (K true) (fun p _ ih => match eqLf p.1 p.2 with | true => ih | false => K false) l
noncomputable def convB (k : IntKind) (a : Int) (K : Int → Bool) : Bool := match fits k a with | true => K a | false => forceI (k.wrap a) K
noncomputable def selB (t : Bool) (a b : Int) (K : Int → Bool) : Bool := match t with | true => K a | false => K b
noncomputable def optB {α : Type} (o : Option α) (K : α → Bool) : Bool := match o with | some x => K x | none => false
noncomputable def unIB (ls : List Lf) (K : Int → List Lf → Bool) : Bool := match ls with | .i n :: r => K n r | _ => false
noncomputable def unBB (ls : List Lf) (K : Bool → List Lf → Bool) : Bool := match ls with | .b n :: r => K n r | _ => false
noncomputable def unVB (ls : List Lf) (K : Value → List Lf → Bool) : Bool := match ls with | .v n :: r => K n r | _ => false
noncomputable def un0B (ls : List Lf) (K : Bool) : Bool := match ls with | [] => K | _ => false
noncomputable def ucIB (k : IntKind) (ls : List Value) (K : Int → List Value → Bool) : Bool := match ls with | .int k' n :: r => (match kSame k k' with | true => K n r | false => false) | _ => false
noncomputable def ucBB (ls : List Value) (K : Bool → List Value → Bool) : Bool := match ls with | .bool n :: r => K n r | _ => false
noncomputable def ucVB (ls : List Value) (K : Value → List Value → Bool) : Bool := match ls with | n :: r => K n r | _ => false
noncomputable def uc0B (ls : List Value) (K : Bool) : Bool := match ls with | [] => K | _ => false
noncomputable def chkB (v : Value) (K : Bool) : Bool := match goodV v with | true => K | false => false
noncomputable def peekB (T : Nat → Site) (f : Getter → Option (List Value)) (h : HL) (K : List Value → Bool) : Bool := match f (getH T h) with | some x => K x | none => false
noncomputable def heapB (T : Nat → Site) (f : Getter → Nat → Option (List Act1 × List Value)) (h : HL) (K : List Value → HL → Bool) : Bool := match f (getH T h) h.length with | some p => K p.2 (actsOnH h p.1) | none => false
noncomputable def newB (o : HObj) (h : HL) (K : Nat → HL → Bool) : Bool := forceN h.length fun n => K n (h ++ [.o o])
/-- Values as leaves. -/
def toSL (k : LK) (v : Value) : Option SL :=
  match k with
  | .i k => match v with
    | .int k' n => match kSame k' k with
      | true => some (.i k' n)
      | false => none
    | _ => none
  | .b => match v with
    | .bool t => some (.b t)
    | _ => none
  | .v => match goodV v with
    | true => some (.v v)
    | false => none
def toSLs : List LK → List Value → Option (List SL)
  | [], [] => some []
  | k :: ks, v :: vs => match toSL k v with
    | some x => match toSLs ks vs with
      | some xs => some (x :: xs)
      | none => none
    | none => none
  | _, _ => none
def toS0 (sk : SK) (v : Value) : Option S0 :=
  match sk with
  | .leaf k => (toSL k v).map .leaf
  | .agg ks => match v with
    | .agg cs => (toSLs ks cs.toList).map .agg
    | _ => none
def toS0s : List SK → List Value → Option (List S0)
  | [], [] => some []
  | k :: ks, v :: vs => match toS0 k v with
    | some x => match toS0s ks vs with
      | some xs => some (x :: xs)
      | none => none
    | none => none
  | _, _ => none
def eqLK : LK → LK → Bool
  | .i a, .i b => kSame a b
  | .b, .b => true
  | .v, .v => true
  | _, _ => false
def eqLKs : List LK → List LK → Bool
  | [], [] => true
  | a :: l, b :: m => eqLK a b && eqLKs l m
  | _, _ => false
def eqSK : SK → SK → Bool
  | .leaf a, .leaf b => eqLK a b
  | .agg a, .agg b => eqLKs a b
  | _, _ => false
def eqSKs : List SK → List SK → Bool
  | [], [] => true
  | a :: l, b :: m => eqSK a b && eqSKs l m
  | _, _ => false

/-- The leaves are good. -/
def goodLs (ls : List Lf) : Bool := ls.all fun l => match l with | .v x => goodV x | _ => true

section
variable (Sg : FuncId → Option Sig) (T : Nat → Site) (call : CallB)
noncomputable def callB (g : FuncId) (ls : List Lf) (h : HL) (K : List Lf → HL → Bool) : Bool := match goodLs ls with | true => call (.f g) ls h K | false => false
/-- A call with values; the results' shapes, if they are asked. -/
noncomputable def callVals (g : FuncId) (hs : Option (List SK)) (vals : List Value) (h : HL) (K : List Lf → HL → Bool) : Bool :=
  match Sg g with
  | none => false
  | some sg => match (match hs with | none => true | some hs => eqSKs sg.rs hs) with
    | false => false
    | true => match toS0s sg.ps vals with
      | none => false
      | some xs => callB call g (lfsOf xs) h K
noncomputable def callvB (v : Value) (args : List Value) (hs : List SK) (h : HL) (K : List Lf → HL → Bool) : Bool :=
  match v with
  | .func fn first cap => match fn with
    | .func g => callVals Sg call g (some hs) (first.toList ++ args ++ cap.toList) h K
    | .yield l => match first.toList, cap.toList with
      | [], [] => match h[l]? with
        | some (.lp κ _ _ vs) => match eqSKs [.leaf .b] hs with
          | false => false
          | true => match toS0s ((T κ).params.map (·.2)) args with
            | none => false
            | some xs => match goodLs (lfsOf xs) with
              | true => call (.y κ vs l) (lfsOf xs) h K
              | false => false
        | _ => false
      | _, _ => false
    | _ => false
  | _ => false
noncomputable def rfunB (κ : Nat) (v : Value) (vals : List Value) (h : HL) (K : Option Code → HL → Bool) : Bool :=
  match v with
  | .func fn first cap => match fn with
    | .func g => forceN h.length fun n => callVals Sg call g none (first.toList ++ [.func (.yield n) #[] #[]] ++ cap.toList) (h ++ [.lp κ .ready none vals]) fun _ h1 => match h1[n]? with
      | some (.lp κ' st pd vs) => match st with
        | .busy => false
        | _ => K pd (h1.set n (.lp κ' .exhausted pd vs))
      | _ => false
    | _ => false
  | _ => false
noncomputable def pendB (pd : Option Code) (kn kr : Bool) (ks : List (Nat × Bool)) : Bool :=
  match pd with
  | none => kn
  | some c => match c with
    | .ret => kr
    | .exit id => List.rec false (fun p _ ih => match Nat.beq p.1 id with | true => p.2 | false => ih) ks
    | _ => false
def lp1B (l : Nat) (h : HL) (K : HL → Bool) : Bool :=
  match h[l]? with
  | some (.lp κ st pd vs) => match st with
    | .ready => K (h.set l (.lp κ .busy pd vs))
    | _ => false
  | _ => false
def lp2B (l : Nat) (j : Option Code) (h : HL) (K : HL → Bool) : Bool :=
  match h[l]? with
  | some (.lp κ _ _ vs) => match j with
    | none => K (h.set l (.lp κ .ready none vs))
    | some c => K (h.set l (.lp κ .done (some c) vs))
  | _ => false
end
noncomputable def loopB (F : (List Lf → HL → Bool) → List Lf → HL → Bool) (ls : List Lf) (h : HL) : Bool :=
  Nat.rec (motive := fun _ => List Lf → HL → Bool) (fun _ _ => false) (fun _ ih ls h => F ih ls h) 1000000 ls h

noncomputable def BA (Sg : FuncId → Option Sig) (T : Nat → Site) (call : CallB) : Alg Bool HL where
  fail := false
  cond := condB
  ari := ariB
  shf := fun _ _ _ _ _ _ => false
  cmp := cmpB
  eqs := eqsB
  conv := convB
  sel := selB
  opt := optB
  chk := chkB
  unI := unIB
  unB := unBB
  unV := unVB
  un0 := un0B
  ucI := ucIB
  ucB := ucBB
  ucV := ucVB
  uc0 := uc0B
  peek := peekB T
  heap := heapB T
  new := newB
  call := callB call
  callv := callvB Sg T call
  join := fun b m => m b
  loop := loopB
  rfun := rfunB Sg call
  pend := pendB
  lp1 := lp1B
  lp2 := lp2B
end
end Go.Am
