/-
  THE EXECUTOR: a run of the abstract machine that the kernel can make; numbers may be symbolic, the ways of a run are all followed.
-/
import Derived.Test.YtdngmncaohgacaaDoorAm2
set_option linter.unusedSectionVars false
set_option linter.unusedSimpArgs false
set_option linter.unusedVariables false
set_option linter.constructorNameAsVariable false
namespace Go.Am

/-! ### Trees -/

inductive Pth where
  | e
  | o (p : Pth)
  | i (p : Pth)
inductive Tr (α : Type) where
  | leaf
  | node (v : α) (l r : Tr α)

def Pth.num : Pth → Nat
  | .e => 1
  | .o p => 2 * p.num
  | .i p => 2 * p.num + 1
def pthF : Nat → Nat → Pth
  | 0, _ => .e
  | f + 1, n => if Nat.ble n 1 then .e else if Nat.beq (n % 2) 0 then .o (pthF f (n / 2)) else .i (pthF f (n / 2))
def pathOf (n : Nat) : Pth := pthF (n + 1) (n + 1)

noncomputable def Pth.get {α : Type} (d : α) (p : Pth) : Tr α → α :=
  Pth.rec (motive := fun _ => Tr α → α)
    (fun t => Tr.casesOn t d fun v _ _ => v)
    (fun _ ih t => Tr.casesOn t d fun _ l _ => ih l)
    (fun _ ih t => Tr.casesOn t d fun _ _ r => ih r) p

noncomputable def Pth.setK {α : Type} (d : α) (p : Pth) : Tr α → α → (Tr α → Bool) → Bool :=
  Pth.rec (motive := fun _ => Tr α → α → (Tr α → Bool) → Bool)
    (fun t x k => Tr.casesOn t (k (.node x .leaf .leaf)) fun _ l r => k (.node x l r))
    (fun _ ih t x k => Tr.casesOn t (ih .leaf x fun l => k (.node d l .leaf)) fun v l r => ih l x fun l => k (.node v l r))
    (fun _ ih t x k => Tr.casesOn t (ih .leaf x fun r => k (.node d .leaf r)) fun v l r => ih r x fun r => k (.node v l r)) p

noncomputable def Tr.mapK {α : Type} (f : α → α) (t : Tr α) : (Tr α → Bool) → Bool :=
  Tr.rec (motive := fun _ => (Tr α → Bool) → Bool) (fun k => k .leaf) (fun v _ _ ihl ihr k => ihl fun l => ihr fun r => k (.node (f v) l r)) t

/-! ### Numbers, forced -/

noncomputable def forceN (n : Nat) (k : Nat → Bool) : Bool := Nat.casesOn n (k 0) fun m => k (Nat.succ m)
noncomputable def forceI (n : Int) (k : Int → Bool) : Bool := Int.casesOn n (fun m => forceN m fun m => k (.ofNat m)) fun m => forceN m fun m => k (.negSucc m)

def leI : Int → Int → Bool
  | .ofNat a, .ofNat b => Nat.ble a b
  | .negSucc _, .ofNat _ => true
  | .ofNat _, .negSucc _ => false
  | .negSucc a, .negSucc b => Nat.ble b a
def eqI : Int → Int → Bool
  | .ofNat a, .ofNat b => Nat.beq a b
  | .negSucc a, .negSucc b => Nat.beq a b
  | _, _ => false

def kmax : IntKind → Nat
  | .i8 => 127
  | .i16 => 32767
  | .i32 => 2147483647
  | .i64 => 9223372036854775807
  | .u8 => 255
  | .u16 => 65535
  | .u32 => 4294967295
  | .u64 => 18446744073709551615
def fits (k : IntKind) : Int → Bool
  | .ofNat n => Nat.ble n (kmax k)
  | .negSucc n => k.signed && Nat.ble n (kmax k)

/-! ### Linear forms -/

/-- A linear form: the constant, then the coefficients of the variables. -/
abbrev Lin := List Int

def dot : List Int → List Int → Int
  | c :: l, x :: ρ => c * x + dot l ρ
  | _, _ => 0
def Lin.eval (l : Lin) (ρ : List Int) : Int :=
  match l with
  | [] => 0
  | c :: l => c + dot l ρ
def coefs (cs : Array Value) : Lin := cs.toList.map fun v => match v with
  | .int _ n => n
  | _ => 0

/-- What is known of the variables: an interval for each; intervals for some forms. -/
structure Ctx where
  iv : List (Int × Int)
  cs : List (List Int × Int × Int)

def ladd : List Int → List Int → List Int
  | [], m => m
  | a :: l, [] => a :: l
  | a :: l, b :: m => Int.add a b :: ladd l m
def lscale (c : Int) (l : List Int) : List Int := l.map (Int.mul c)
def allZero (l : List Int) : Bool := l.all fun c => eqI c 0
/-- Without the last zeroes. -/
def trim : List Int → List Int
  | [] => []
  | c :: l => match eqI c 0 && allZero l with
    | true => []
    | false => c :: trim l
def eqL : List Int → List Int → Bool
  | [], [] => true
  | a :: l, b :: m => eqI a b && eqL l m
  | _, _ => false
def gcdL : List Int → Nat
  | [] => 0
  | c :: l => Nat.gcd c.natAbs (gcdL l)
/-- Is the first coefficient that is not zero negative? -/
def negL : List Int → Bool
  | [] => false
  | c :: l => match c with
    | .ofNat 0 => negL l
    | .ofNat _ => false
    | .negSucc _ => true
/-- The form as a multiple of a plainer one. -/
def norm (l : List Int) : Int × List Int :=
  let g := gcdL l
  let g : Int := if negL l then -(Int.ofNat g) else Int.ofNat g
  let m := l.map (Int.tdiv · g)
  match eqL (lscale g m) l with
  | true => (g, m)
  | false => (1, l)

def ivDot : List Int → List (Int × Int) → Int × Int
  | c :: l, p :: r => match leI 0 c with
    | true => (Int.add (Int.mul c p.1) (ivDot l r).1, Int.add (Int.mul c p.2) (ivDot l r).2)
    | false => (Int.add (Int.mul c p.2) (ivDot l r).1, Int.add (Int.mul c p.1) (ivDot l r).2)
  | _, _ => (0, 0)
def maxI (a b : Int) : Int := match leI a b with
  | true => b
  | false => a
def minI (a b : Int) : Int := match leI a b with
  | true => a
  | false => b
def csIv (m : List Int) : List (List Int × Int × Int) → Int × Int → Int × Int
  | [], p => p
  | e :: cs, p => match eqL e.1 m with
    | true => csIv m cs (maxI p.1 e.2.1, minI p.2 e.2.2)
    | false => csIv m cs p
/-- Where the values of a plain form lie. -/
def ivT (Γ : Ctx) (m : List Int) : Int × Int := csIv m Γ.cs (ivDot m Γ.iv)
def ivOf (Γ : Ctx) (l : Lin) : Int × Int :=
  match l with
  | [] => (0, 0)
  | c0 :: l =>
    let n := norm l
    let t := ivT Γ n.2
    match leI 0 n.1 with
    | true => (Int.add c0 (Int.mul n.1 t.1), Int.add c0 (Int.mul n.1 t.2))
    | false => (Int.add c0 (Int.mul n.1 t.2), Int.add c0 (Int.mul n.1 t.1))

/-- The number of the only variable, with the coefficient 1. -/
def unitL : List Int → Option Nat
  | [] => none
  | c :: l => match eqI c 1 && allZero l with
    | true => some 0
    | false => match eqI c 0 with
      | true => (unitL l).map (· + 1)
      | false => none

noncomputable def forceL (l : List Int) : (List Int → Bool) → Bool :=
  List.rec (motive := fun _ => (List Int → Bool) → Bool) (fun k => k []) (fun c _ ih k => forceI c fun c => ih fun l => k (c :: l)) l

/-- The form lies between two numbers: on with what is known then; nothing is left to show if it cannot. -/
noncomputable def refineK (Γ : Ctx) (l : Lin) (lo hi : Int) (K : Ctx → Bool) : Bool :=
  match l with
  | [] => K Γ
  | c0 :: l =>
    let n := norm l
    let t := ivT Γ n.2
    let b : Int × Int := match n.1 with
      | .ofNat 0 => (1, 0)
      | .ofNat g => (-((-(lo - c0)) / (Int.ofNat g)), (hi - c0) / (Int.ofNat g))
      | .negSucc g => (-((hi - c0) / (Int.ofNat (g + 1))), (-(lo - c0)) / (Int.ofNat (g + 1)))
    match n.1 with
    | .ofNat 0 => match leI lo c0 && leI c0 hi with
      | true => K Γ
      | false => true
    | _ => forceI (maxI t.1 b.1) fun x => forceI (minI t.2 b.2) fun y => match leI x y with
      | false => true
      | true => match unitL n.2 with
        | some i => K { Γ with iv := Γ.iv.set i (x, y) }
        | none => forceL n.2 fun m => K { Γ with cs := (m, x, y) :: Γ.cs }

def kindV : Value → Option IntKind
  | .int k _ => some k
  | .tuple vs => match vs.toList with
    | [.agg cs] => symKind cs
    | _ => none
  | _ => none

def kNum : IntKind → Nat
  | .i8 => 0
  | .i16 => 1
  | .i32 => 2
  | .i64 => 3
  | .u8 => 4
  | .u16 => 5
  | .u32 => 6
  | .u64 => 7
def kEq (a b : IntKind) : Bool := Nat.beq (kNum a) (kNum b)

/-- A number as a linear form. -/
def linOf : Value → Option Lin
  | .int _ n => some [n]
  | .tuple vs => match vs.toList with
    | [.agg cs] => if (symKind cs).isSome then some (coefs cs) else none
    | _ => none
  | _ => none

/-- The number that a form stands for, as a value; it must lie within its kind. -/
noncomputable def finK (Γ : Ctx) (k : IntKind) (l : Lin) (K : Ctx → Value → Bool) : Bool :=
  forceL (trim l) fun l => match l with
    | [] => K Γ (.int k 0)
    | [c] => match fits k c with
      | true => K Γ (.int k c)
      | false => false
    | c :: m => match fits k (ivOf Γ (c :: m)).1 && fits k (ivOf Γ (c :: m)).2 with
      | true => K Γ (.tuple ⟨[.agg ⟨(c :: m).map (.int k)⟩]⟩)
      | false => false

/-- All values of a form, one by one. -/
noncomputable def concK (Γ : Ctx) (k : IntKind) (l : Lin) (K : Ctx → Value → Bool) : Bool :=
  let p := ivOf Γ l
  match leI (p.2 - p.1) 100 with
  | false => false
  | true => forceI p.1 fun lo => Nat.rec (motive := fun _ => Int → Bool) (fun _ => true)
      (fun _ ih n => forceI n fun n => match refineK Γ l n n fun Γ => K Γ (.int k n) with
        | true => ih (n + 1)
        | false => false) ((p.2 - p.1).toNat + 1) lo

/-- Two ways, by the sign of a form: it is at most -1; it is at least 0. -/
noncomputable def signK (Γ : Ctx) (l : Lin) (K : Ctx → Bool → Bool) : Bool :=
  let p := ivOf Γ l
  match leI p.2 (-1), leI 0 p.1 with
  | true, _ => K Γ true
  | _, true => K Γ false
  | _, _ => match refineK Γ l p.1 (-1) fun Γ => K Γ true with
    | true => refineK Γ l 0 p.2 fun Γ => K Γ false
    | false => false
/-- Is a form zero? -/
noncomputable def zeroK (Γ : Ctx) (l : Lin) (K : Ctx → Bool → Bool) : Bool :=
  let p := ivOf Γ l
  match leI p.2 (-1) || leI 1 p.1 with
  | true => K Γ false
  | false => match leI 0 p.1 && leI p.2 0 with
    | true => K Γ true
    | false => match refineK Γ l p.1 (-1) fun Γ => K Γ false with
      | true => match refineK Γ l 0 0 fun Γ => K Γ true with
        | true => refineK Γ l 1 p.2 fun Γ => K Γ false
        | false => false
      | false => false

/-- A form minus another one. -/
def lsub (a b : Lin) : Lin := ladd a (lscale (-1) b)

noncomputable def symCmp (op : BinOp) (Γ : Ctx) (a b : Lin) (K : Ctx → Value → Bool) : Bool :=
  match op with
  | .eql => forceL (lsub a b) fun d => zeroK Γ d fun Γ t => K Γ (.bool t)
  | .neq => forceL (lsub a b) fun d => zeroK Γ d fun Γ t => K Γ (.bool !t)
  | .lss => forceL (lsub a b) fun d => signK Γ d fun Γ t => K Γ (.bool t)
  | .geq => forceL (lsub a b) fun d => signK Γ d fun Γ t => K Γ (.bool !t)
  | .gtr => forceL (lsub b a) fun d => signK Γ d fun Γ t => K Γ (.bool t)
  | .leq => forceL (lsub b a) fun d => signK Γ d fun Γ t => K Γ (.bool !t)
  | _ => false

/-- All coefficients but the constant are multiples. -/
def divides (c : Int) (l : List Int) : Bool := l.all fun x => eqI (Int.tmod x c) 0

/-- Quotient and remainder by a number above 0; the coefficients of the variables are multiples of it. -/
noncomputable def symDiv (Γ : Ctx) (l : Lin) (c : Int) (K : Ctx → Lin → Lin → Bool) : Bool :=
  match l, leI 1 c with
  | c0 :: m, true => match divides c m with
    | true => match eqI (Int.tmod c0 c) 0 with
      | true => K Γ ((c0 :: m).map (Int.tdiv · c)) [0]
      | false => signK Γ (c0 :: m) fun Γ neg => match neg with
        | false => K Γ (Int.ediv c0 c :: m.map (Int.tdiv · c)) [Int.emod c0 c]
        | true => K Γ (-(Int.ediv (-c0) c) :: m.map (Int.tdiv · c)) [-(Int.emod (-c0) c)]
    | false => false
  | _, _ => false

noncomputable def symAr (op : BinOp) (Γ : Ctx) (k : IntKind) (a b : Lin) (K : Ctx → Value → Bool) : Bool :=
  match op with
  | .add => finK Γ k (ladd a b) K
  | .sub => finK Γ k (lsub a b) K
  | .mul => match a, b with
    | [c], b => finK Γ k (lscale c b) K
    | a, [c] => finK Γ k (lscale c a) K
    | _, _ => false
  | .quo => match b with
    | [c] => symDiv Γ a c fun Γ q _ => finK Γ k q K
    | _ => false
  | .rem => match b with
    | [c] => symDiv Γ a c fun Γ _ r => finK Γ k r K
    | _ => false
  | .and => match a, b with
    | c0 :: m, [c] => match eqI c 1 && divides 2 m with
      | true => finK Γ k [Int.emod c0 2] K
      | false => false
    | _, _ => false
  | _ => false

/-! ### Instructions -/

inductive Opd where
  | t (p : Pth)
  | c (v : Value)

inductive Ins where
  | mv (x : Opd)
  | pick (c a b : Opd)
  | ar (op : BinOp) (x y : Opd)
  | cmp (op : BinOp) (x y : Opd)
  | notb (x : Opd)
  | conv (k : IntKind) (x : Opd)
  | fld (x : Opd) (off : Nat)
  | flda (x : Opd) (off n : Nat)
  | ext (x : Opd) (i : Nat)
  | fad (x : Opd) (off : Nat)
  | lload (s : Nat) (p : Pth) (a : Opd)
  | lloada (s : Nat) (p : Pth) (n : Nat) (a : Opd)
  | lbox (s : Nat) (p : Pth) (x : Opd)
  | lnew (s : Nat) (p : Pth) (vs : List Value)
  | bld (z : List Value) (ps : List (Nat × Nat × Opd))
  | lstore (s : Nat) (p : Pth) (n : Nat) (a x : Opd)
  | call (f : FuncId) (args : List Opd)
  | gen

def compX (nt : Nat) : Operand → Opd
  | .tmp t => if Nat.blt t nt then .t (pathOf t) else .c undef
  | .const v => .c (if flat v then v else poison)
  | .global g => .c (.pointer (some ⟨g, 0, some 1⟩))
  | .func f => .c (.func (.func f) #[] #[])

def isAggT (P : Program) (t : TypeId) : Option Bool :=
  match P.underlying t with
  | some (.struct _) | some (.array _ _) => some true
  | some _ => some false
  | none => none

def intT (P : Program) (t : TypeId) : Option IntKind :=
  match P.underlying t with
  | some (.int k) => some k
  | _ => none

/-- Where the parts of a struct or an array go: place, number of cells, part. -/
def bldPlan (nt : Nat) (pl : Nat → Option (Nat × Nat)) (size : Nat) : List (Nat × Operand) → Option (List (Nat × Nat × Opd))
  | [] => some []
  | (i, x) :: l => match pl i, bldPlan nt pl size l with
    | some (o, n), some r => if Nat.ble (o + n) size then some ((o, n, compX nt x) :: r) else none
    | _, _ => none

/-- An operation, turned into an instruction. -/
def compI (C : Cfg) (pts : List Nat) (nt : Nat) (dst : Option Tmp) (op : Op) : Ins :=
  match op with
  | .move x => .mv (compX nt x)
  | .assign x => .mv (compX nt x)
  | .pick c a b => .pick (compX nt c) (compX nt a) (compX nt b)
  | .binOp op t x y _ =>
    match intT C.P t with
    | some _ => match op with
      | .add | .sub | .mul | .quo | .rem | .and => .ar op (compX nt x) (compX nt y)
      | .eql | .neq | .lss | .leq | .gtr | .geq => .cmp op (compX nt x) (compX nt y)
      | _ => .gen
    | none => .gen
  | .unOp op _ x => match op with
    | .not => .notb (compX nt x)
    | _ => .gen
  | .convert s d x => match intT C.P s, intT C.P d with
    | some _, some k => .conv k (compX nt x)
    | _, _ => .gen
  | .field t x f => match C.P.underlying t with
    | some (.struct fs) => match fs[f]? with
      | some fd => match isAggT C.P fd.type with
        | some true => .flda (compX nt x) fd.offset (C.P.cellsOf fd.type)
        | some false => .fld (compX nt x) fd.offset
        | none => .gen
      | none => .gen
    | _ => .gen
  | .extract t i => .ext (compX nt t) i
  | .fieldAddr t x f => match C.P.underlying t with
    | some (.struct fs) => match fs[f]? with
      | some fd => if Nat.beq (C.P.cellsOf fd.type) 0 then .gen else .fad (compX nt x) fd.offset
      | none => .gen
    | _ => .gen
  | .load t a => match keyOf pts a with
    | s + 2 => match Nat.blt s nt, isAggT C.P t with
      | true, some true => .lloada s (pathOf s) (C.P.cellsOf t) (compX nt a)
      | true, some false => .lload s (pathOf s) (compX nt a)
      | _, _ => .gen
    | _ => .gen
  | .alloc t => match dst with
    | some d => match Nat.beq (pts.getD d 0) (d + 2) && Nat.blt d nt, zeroOf C.P t with
      | true, some z => match isTuple z || !(z.cells.toList.all cellOk) with
        | true => .gen
        | false => .lnew d (pathOf d) z.cells.toList
      | _, _ => .gen
    | none => .gen
  | .build t ps => match zeroOf C.P t, placesOf C.P t with
    | some z, some pl => match bldPlan nt pl z.cells.toList.length ps.toList with
      | some l => .bld z.cells.toList l
      | none => .gen
    | _, _ => .gen
  | .box _ x => match dst with
    | some d => match Nat.beq (pts.getD d 0) (d + 2) && Nat.blt d nt with
      | true => .lbox d (pathOf d) (compX nt x)
      | false => .gen
    | none => .gen
  | .store t a x => match keyOf pts a with
    | s + 2 => match Nat.blt s nt && (C.P.info? t).isSome with
      | true => .lstore s (pathOf s) (C.P.cellsOf t) (compX nt a) (compX nt x)
      | false => .gen
    | _ => .gen
  | .call c => match c.callee with
    | .value f => match f with
      | .func g => .call g (c.args.toList.map (compX nt))
      | _ => .gen
    | _ => .gen
  | _ => .gen

/-! ### The state of a run -/

abbrev TV := Tr Value
abbrev TL := Tr (Option (List Value))

noncomputable def rd (tm : TV) : Opd → Value
  | .t p => p.get undef tm
  | .c v => v

structure XCfg where
  C : Cfg
  kf : FuncId → List Value → List HObj → Option (Value × List HObj)

abbrev KS := Ctx → TV → TL → List HObj → Bool

structure XS where
  call : Ctx → FuncId → List Value → List HObj → (Ctx → Value → List HObj → Bool) → Bool
  yield : Ctx → Nat → List Value → List HObj → (Ctx → Value → List HObj → Bool) → Bool
  ex : Ctx → List Nat → Nat → Code → TV → TL → List HObj → KS → (Exit → KS) → Bool

noncomputable def setV (dst : Option Tmp) (nt : Nat) (v : Value) (Γ : Ctx) (tm : TV) (lc : TL) (hp : List HObj) (k : KS) : Bool :=
  match dst with
  | none => k Γ tm lc hp
  | some d => match Nat.blt d nt with
    | true => (pathOf d).setK undef tm v fun tm => k Γ tm lc hp
    | false => k Γ tm lc hp

noncomputable def arI (k : IntKind) (c : Int) (K : Value → Bool) : Bool :=
  forceI c fun c => match fits k c with
    | true => K (.int k c)
    | false => K (.int k (k.wrap c))

noncomputable def arK (op : BinOp) (k : IntKind) (a b : Int) (K : Value → Bool) : Bool :=
  match op with
  | .add => arI k (Int.add a b) K
  | .sub => arI k (Int.sub a b) K
  | .mul => arI k (Int.mul a b) K
  | .quo => match eqI b 0 with
    | true => false
    | false => arI k (Int.tdiv a b) K
  | .rem => match eqI b 0 with
    | true => false
    | false => forceI (Int.tmod a b) fun c => K (.int k c)
  | .and => match eqI b 1 with
    | true => forceI (Int.emod a 2) fun c => K (.int k c)
    | false => match a, b with
      | .ofNat m, .ofNat n => arI k (.ofNat (Nat.land m n)) K
      | _, _ => false
  | _ => false

noncomputable def cmpK (op : BinOp) (a b : Int) : Option Bool :=
  match op with
  | .eql => some (eqI a b)
  | .neq => some (!eqI a b)
  | .lss => some (!leI b a)
  | .leq => some (leI a b)
  | .gtr => some (!leI a b)
  | .geq => some (leI b a)
  | _ => none

/-- May it lie in a cell? -/
def cellF (v : Value) : Bool :=
  match v with
  | .int _ _ => true
  | .bool _ => true
  | v => cellOk v

/-- The cells of a value, all of which may lie in cells. -/
def cellsF (v : Value) : Option (List Value) :=
  match v with
  | .agg cs => match cs.toList.all cellF with
    | true => some cs.toList
    | false => none
  | .int k n => some [.int k n]
  | .bool b => some [.bool b]
  | v => match isTuple v || !cellOk v with
    | true => none
    | false => some [v]

/-- The cells from a place on, replaced; the list is laid out. -/
noncomputable def spliceK (new : List Value) (vs : List Value) : Nat → (List Value → Bool) → Bool :=
  List.rec (motive := fun _ => Nat → (List Value → Bool) → Bool)
    (fun off k => match new with
      | [] => match Nat.beq off 0 with | true => k [] | false => false
      | _ => false)
    (fun v tl ih off k => match off with
      | 0 => match Nat.ble new.length (tl.length + 1) with
        | true => k (new ++ (v :: tl).drop new.length)
        | false => false
      | n + 1 => ih n fun l => k (v :: l)) vs

/-- The parts are laid into a struct or an array. -/
noncomputable def bldK (tm : TV) (l : List (Nat × Nat × Opd)) : List Value → (List Value → Bool) → Bool :=
  List.rec (motive := fun _ => List Value → (List Value → Bool) → Bool) (fun vs k => k vs)
    (fun p _ ih vs k => match rd tm p.2.2 with
      | .agg cs => match Nat.beq cs.toList.length p.2.1 with
        | true => spliceK cs.toList vs p.1 fun vs => ih vs k
        | false => false
      | .tuple ts => match isSym (.tuple ts) && Nat.beq p.2.1 1 with
        | true => spliceK [.tuple ts] vs p.1 fun vs => ih vs k
        | false => false
      | v => match Nat.beq p.2.1 1 with
        | true => spliceK [v] vs p.1 fun vs => ih vs k
        | false => false) l

/-- The value of an instruction on what the temporaries hold. -/
noncomputable def valX (Γ : Ctx) (tm : TV) (lc : TL) (ins : Ins) (K : Ctx → Value → Bool) : Bool :=
  match ins with
  | .mv x => K Γ (rd tm x)
  | .pick c a b => match rd tm c with
    | .bool true => K Γ (rd tm a)
    | .bool false => K Γ (rd tm b)
    | _ => false
  | .ar op x y => match rd tm x, rd tm y with
    | .int k a, .int k' b => match kEq k k' with
      | true => arK op k a b (K Γ)
      | false => false
    | u, v => match kindV u, linOf u, kindV v, linOf v with
      | some k, some a, some k', some b => match kEq k k' with
        | true => symAr op Γ k a b K
        | false => false
      | _, _, _, _ => false
  | .cmp op x y => match rd tm x, rd tm y with
    | .int k a, .int k' b => match kEq k k', cmpK op a b with
      | true, some true => K Γ (.bool true)
      | true, some false => K Γ (.bool false)
      | _, _ => false
    | u, v => match kindV u, linOf u, kindV v, linOf v with
      | some k, some a, some k', some b => match kEq k k' with
        | true => symCmp op Γ a b K
        | false => false
      | _, _, _, _ => false
  | .notb x => match rd tm x with
    | .bool true => K Γ (.bool false)
    | .bool false => K Γ (.bool true)
    | _ => false
  | .conv k x => match rd tm x with
    | .int _ a => arI k a (K Γ)
    | u => match linOf u with
      | some a => finK Γ k a K
      | none => false
  | .fld x off => match rd tm x with
    | .agg cs => match cs.toList[off]? with
      | some v => K Γ v
      | none => false
    | _ => false
  | .flda x off n => match rd tm x with
    | .agg cs => K Γ (.agg ⟨(cs.toList.drop off).take n⟩)
    | _ => false
  | .ext x i => match rd tm x with
    | .tuple vs => match vs.toList with
      | v :: w :: l => match (v :: w :: l)[i]? with
        | some u => K Γ u
        | none => false
      | _ => false
    | _ => false
  | .fad x off => match rd tm x with
    | .pointer (some a) => forceN (a.off + off) fun o => K Γ (.pointer (some ⟨a.block, o, a.spot⟩))
    | _ => false
  | .bld z ps => bldK tm ps z fun vs => K Γ (.agg ⟨vs⟩)
  | .lload s p a => match locPtr s (rd tm a) with
    | some off => match p.get none lc with
      | some vs => match vs[off]? with
        | some v => K Γ v
        | none => false
      | none => false
    | none => false
  | .lloada s p n a => match locPtr s (rd tm a) with
    | some off => match p.get none lc with
      | some vs => match cut vs off n with
        | some l => K Γ (.agg ⟨l⟩)
        | none => false
      | none => false
    | none => false
  | _ => false

/-- An effect is carried out. -/
noncomputable def effX (S : XS) (nt : Nat) (e : Eff) (dst : Option Tmp) (Γ : Ctx) (tm : TV) (lc : TL) (hp : List HObj) (k : KS) : Bool :=
  match e with
  | .val v => setV dst nt v Γ tm lc hp k
  | .lnew s vs => match Nat.blt s nt, (pathOf s).get none lc with
    | true, none => (pathOf s).setK none lc (some vs) fun lc => setV dst nt (.pointer (some ⟨s, 0, some 0⟩)) Γ tm lc hp k
    | _, _ => false
  | .lget s f => match (pathOf s).get none lc with
    | some vs => match f vs with
      | some v => setV dst nt v Γ tm lc hp k
      | none => false
    | none => false
  | .lset s f => match (pathOf s).get none lc with
    | some vs => match f vs with
      | some vs' => (pathOf s).setK none lc (some vs') fun lc => setV dst nt undef Γ tm lc hp k
      | none => false
    | none => false
  | .hget f => match f hp with
    | some v => setV dst nt v Γ tm lc hp k
    | none => false
  | .hop f => match f hp with
    | some p => setV dst nt p.2 Γ tm lc p.1 k
    | none => false
  | .call f args => S.call Γ f args hp fun Γ r H => setV dst nt r Γ tm lc H k
  | .yield l args => S.yield Γ l args hp fun Γ r H => setV dst nt r Γ tm lc H k

/-- Is the operation wanted? -/
noncomputable def wantedX (ops : Array Oper) (nt : Nat) (tm : TV) (o : Oper) : Option Bool :=
  match o.guard with
  | none => some true
  | some (j, want) =>
    match (ops[j]?).bind (·.dst) with
    | some d => match rd tm (compX nt (.tmp d)) with
      | .bool b => some (b == want)
      | .tuple vs => match vs.toList with
        | [_] => none
        | _ => some false
      | _ => some false
    | none => some false

/-- The first symbolic number among operands. -/
noncomputable def firstSym (tm : TV) (nt : Nat) : List Operand → Option Opd
  | [] => none
  | x :: l => match isSym (rd tm (compX nt x)) with
    | true => some (compX nt x)
    | false => firstSym tm nt l

/-- Which operand must be known number by number? -/
noncomputable def needX (X : XCfg) (pts : List Nat) (nt : Nat) (tm : TV) (o : Oper) (ins : Ins) : Option Opd :=
  match ins with
  | .ar op x y => match rd tm x, rd tm y with
    | .int _ _, .int _ _ => none
    | u, v => match op, linOf u, linOf v with
      | .mul, some [_], _ => none
      | .mul, _, some [_] => none
      | .mul, _, _ => some x
      | .quo, some (_ :: m), some [c] => match divides c m with
        | true => none
        | false => some x
      | .rem, some (_ :: m), some [c] => match divides c m with
        | true => none
        | false => some x
      | .quo, _, _ => some y
      | .rem, _, _ => some y
      | .and, some (_ :: m), some [c] => match eqI c 1 && divides 2 m with
        | true => none
        | false => some x
      | .and, _, _ => some y
      | _, _, _ => none
  | .gen => match effOf X.C pts (fun x => rd tm (compX nt x)) o with
    | some _ => none
    | none => firstSym tm nt o.op.operands.toList
  | _ => none

noncomputable def doX (X : XCfg) (S : XS) (pts : List Nat) (nt : Nat) (o : Oper) (ins : Ins) (Γ : Ctx) (tm : TV) (lc : TL) (hp : List HObj) (k : KS) : Bool :=
  match ins with
  | .call f args => S.call Γ f (args.map (rd tm)) hp fun Γ r H => setV o.dst nt r Γ tm lc H k
  | .lnew s p vs => match p.get none lc with
    | none => p.setK none lc (some vs) fun lc => p.setK undef tm (.pointer (some ⟨s, 0, some 0⟩)) fun tm => k Γ tm lc hp
    | some _ => false
  | .lbox s p x => match p.get none lc, cellsF (rd tm x) with
    | none, some vs => p.setK none lc (some vs) fun lc => p.setK undef tm (.pointer (some ⟨s, 0, some 0⟩)) fun tm => k Γ tm lc hp
    | _, _ => false
  | .lstore s p n a x => match locPtr s (rd tm a), p.get none lc, cellsF (rd tm x) with
    | some off, some vs, some new => match Nat.beq new.length n with
      | true => spliceK new vs off fun vs => p.setK none lc (some vs) fun lc => setV o.dst nt undef Γ tm lc hp k
      | false => false
    | _, _, _ => false
  | .gen => match effOf X.C pts (fun x => rd tm (compX nt x)) o with
    | some e => effX S nt e o.dst Γ tm lc hp k
    | none => false
  | ins => valX Γ tm lc ins fun Γ v => setV o.dst nt v Γ tm lc hp k

/-- One operation; 'strict': no number is written otherwise before it. -/
noncomputable def stepX (X : XCfg) (S : XS) (strict : Bool) (pts : List Nat) (nt : Nat) (o : Oper) : Ctx → TV → TL → List HObj → KS → Bool :=
  Nat.rec (motive := fun _ => Ctx → TV → TL → List HObj → KS → Bool) (fun _ _ _ _ _ => false)
    (fun _ ih Γ tm lc hp k => match needX X pts nt tm o (compI X.C pts nt o.dst o.op) with
      | none => doX X S pts nt o (compI X.C pts nt o.dst o.op) Γ tm lc hp k
      | some x => match strict, x with
        | false, .t p => match kindV (p.get undef tm), linOf (p.get undef tm) with
          | some kd, some l => concK Γ kd l fun Γ v => p.setK undef tm v fun tm => ih Γ tm lc hp k
          | _, _ => false
        | _, _ => false) 4

noncomputable def opX (X : XCfg) (S : XS) (strict : Bool) (pts : List Nat) (nt : Nat) (ops : Array Oper) (o : Oper) (Γ : Ctx) (tm : TV) (lc : TL) (hp : List HObj) (k : KS) : Bool :=
  match wantedX ops nt tm o with
  | none => false
  | some false => setV o.dst nt undef Γ tm lc hp k
  | some true => stepX X S strict pts nt o Γ tm lc hp k

noncomputable def opsX (X : XCfg) (S : XS) (strict : Bool) (pts : List Nat) (nt : Nat) (ops : Array Oper) (l : List Oper) : Ctx → TV → TL → List HObj → KS → Bool :=
  List.rec (motive := fun _ => Ctx → TV → TL → List HObj → KS → Bool) (fun Γ tm lc hp k => k Γ tm lc hp)
    (fun o _ ih Γ tm lc hp k => opX X S strict pts nt ops o Γ tm lc hp fun Γ tm lc hp => ih Γ tm lc hp k) l

/-- What the temporaries hold, as a list. -/
noncomputable def toVs (nt : Nat) (tm : TV) : List Value := (List.range nt).map fun i => (pathOf i).get undef tm

noncomputable def clearX (keys : List Nat) (tm : TV) (lc : TL) (k : TV → TL → Bool) : Bool :=
  match keys with
  | [] => k tm lc
  | _ => tm.mapK (clearV keys) fun tm =>
    List.rec (motive := fun _ => TL → Bool) (fun lc => k tm lc) (fun s _ ih lc => (pathOf s).setK none lc none ih) keys lc

noncomputable def exX (X : XCfg) (S : XS) (Γ : Ctx) (fid : List Nat) (nt : Nat) (c : Code) (tm : TV) (lc : TL) (hp : List HObj) (kn : KS) (kx : Exit → KS) : Bool :=
  match c with
  | .skip => kn Γ tm lc hp
  | .label _ => kn Γ tm lc hp
  | .ret => kx .ret Γ tm lc hp
  | .exit id => kx (.exit id) Γ tm lc hp
  | .seq a b => S.ex Γ fid nt a tm lc hp (fun Γ tm lc hp => S.ex Γ fid nt b tm lc hp kn kx) kx
  | .cond c a b => match rd tm (compX nt c) with
    | .bool true => S.ex Γ fid nt a tm lc hp kn kx
    | .bool false => S.ex Γ fid nt b tm lc hp kn kx
    | _ => false
  | .block id b => S.ex Γ fid nt b tm lc hp kn fun e => match e with
    | .exit i => match Nat.beq i id with
      | true => kn
      | false => kx (.exit i)
    | e => kx e
  | .loop b => clearX (boxKeys fid b) tm lc fun tm lc => S.ex Γ fid nt b tm lc hp (fun Γ tm lc hp => S.ex Γ fid nt (.loop b) tm lc hp kn kx) kx
  | .scope b => S.ex Γ fid nt b tm lc hp kn kx
  | .region _ ops draw => opsX X S draw fid nt ops ops.toList Γ tm lc hp kn
  | .rangeFunc f params assign body =>
    match fid, rd tm (compX nt f) with
    | _ :: _, .func (.func g) first cap => match noLoc (.func (.func g) first cap) with
      | true => forceN hp.length fun n => S.call Γ g (first.toList ++ [.func (.yield n) #[] #[]] ++ cap.toList)
          (hp ++ [.loop { state := .ready, pending := none, fn := 0, tmps := snap (toVs nt tm), params := params.toList, assign, body }]) fun Γ _ H =>
            match hloop H n with
            | some r₂ => match r₂.state with
              | .busy => false
              | _ => match r₂.pending with
                | none => kn Γ tm lc (H.set n (.loop { r₂ with state := .exhausted }))
                | some .ret => kx .ret Γ tm lc (H.set n (.loop { r₂ with state := .exhausted }))
                | some (.exit id) => kx (.exit id) Γ tm lc (H.set n (.loop { r₂ with state := .exhausted }))
                | _ => false
            | none => false
      | false => false
    | _, _ => false
  | _ => false

def resultX (C : Cfg) (nt : Nat) (rdt : Tmp → Value) (lc : TL) (hp : List HObj) (getl : Nat → Option (List Value)) : ResultVar → Option Value
  | .tmp t => some (rdt t)
  | .cell a t => match rdt a with
    | .pointer (some p) => match p.spot with
      | none => (hcells hp p.block).bind fun vs => readVar C.P t vs p.off
      | some 0 => match getl p.block with
        | some vs => readVar C.P t vs p.off
        | none => none
      | _ => none
    | _ => none
def resultsX (C : Cfg) (nt : Nat) (rdt : Tmp → Value) (lc : TL) (hp : List HObj) (getl : Nat → Option (List Value)) : List ResultVar → Option (List Value)
  | [] => some []
  | r :: rs => match resultX C nt rdt lc hp getl r, resultsX C nt rdt lc hp getl rs with
    | some v, some vs => some (v :: vs)
    | _, _ => none

noncomputable def fillT (l : List Value) : Nat → TV → (TV → Bool) → Bool :=
  List.rec (motive := fun _ => Nat → TV → (TV → Bool) → Bool) (fun _ tm k => k tm) (fun v _ ih n tm k => (pathOf n).setK undef tm v fun tm => ih (n + 1) tm k) l

noncomputable def retX (C : Cfg) (fn : Func) (k : Ctx → Value → List HObj → Bool) (Γ : Ctx) (tm : TV) (lc : TL) (hp : List HObj) : Bool :=
  match resultsX C fn.ntmps (fun t => rd tm (compX fn.ntmps (.tmp t))) lc hp (fun s => match Nat.blt s fn.ntmps with | true => (pathOf s).get none lc | false => none) fn.results.toList with
  | some vs => noLoc (packA vs) && k Γ (packA vs) hp
  | none => false

noncomputable def callX (X : XCfg) (S : XS) (Γ : Ctx) (f : FuncId) (args : List Value) (H : List HObj) (k : Ctx → Value → List HObj → Bool) : Bool :=
  match X.kf f args H with
  | some (r, H') => k Γ r H'
  | none =>
    match X.C.P.funcs[f]? with
    | none => false
    | some fn => match fn.body with
      | none => false
      | some b => match fn.name == "runtime.NumGoroutine", Nat.ble args.length fn.ntmps with
        | false, true => fillT args 0 .leaf fun tm => S.ex Γ (X.C.pts f) fn.ntmps b tm .leaf H (retX X.C fn k) fun e => match e with
          | .ret => retX X.C fn k
          | _ => fun _ _ _ _ => false
        | _, _ => false

/-- A round has ended. -/
noncomputable def roundX (l : Nat) (j : Option Code) (k : Ctx → Value → List HObj → Bool) (Γ : Ctx) (_tm : TV) (_lc : TL) (hp : List HObj) : Bool :=
  match hloop hp l with
  | some lp₂ => k Γ (.bool j.isNone) (hp.set l (.loop { lp₂ with state := if j.isNone then .ready else .done, pending := j }))
  | none => false

noncomputable def yieldX (S : XS) (Γ : Ctx) (l : Nat) (args : List Value) (H : List HObj) (k : Ctx → Value → List HObj → Bool) : Bool :=
  match hloop H l with
  | none => false
  | some lp => match Nat.beq args.length lp.params.length with
    | false => false
    | true => forceN lp.tmps.length fun nt => fillT (putAll lp.params args lp.tmps) 0 .leaf fun tm =>
      S.ex Γ [] nt lp.assign tm .leaf H (fun Γ tm lc hp => match hloop hp l with
        | none => false
        | some lp₁ => match lp₁.state with
          | .ready => S.ex Γ [] nt lp.body tm lc (hp.set l (.loop { lp₁ with state := .busy })) (roundX l none k) fun e => match e with
            | .ret => roundX l (some .ret) k
            | .exit id => roundX l (some (.exit id)) k
            | _ => fun _ _ _ _ => false
          | _ => false) fun _ _ _ _ _ => false

noncomputable def semsX (X : XCfg) (n : Nat) : XS :=
  Nat.rec { call := fun _ _ _ _ _ => false, yield := fun _ _ _ _ _ => false, ex := fun _ _ _ _ _ _ _ _ _ => false }
    (fun _ ih => { call := callX X ih, yield := yieldX ih, ex := exX X ih }) n

end Go.Am
