/-
  CODE IN THE SHAPE OF VALUES: what a function does, told in terms of its numbers; the heap and all that depends on numbers is left to an algebra.
-/
import Derived.Test.YtdngmncaohgacaaDoorSx0
set_option linter.unusedSectionVars false
set_option linter.unusedSimpArgs false
set_option linter.unusedVariables false
set_option linter.constructorNameAsVariable false
namespace Go.Am

/-! ### Leaves, shapes, static values -/

/-- What a leaf holds. -/
inductive Lf where
  | i (n : Int)
  | b (t : Bool)
  | v (x : Value)

inductive LK where
  | i (k : IntKind)
  | b
  | v
inductive SK where
  | leaf (k : LK)
  | agg (ks : List LK)

/-- A leaf whose kind is known; 'l': a truth value that is known. -/
inductive SL where
  | i (k : IntKind) (n : Int)
  | b (t : Bool)
  | l (t : Bool)
  | v (x : Value)
inductive S0 where
  | leaf (l : SL)
  | agg (cs : List SL)
/-- What is known of a temporary. -/
inductive SV where
  | st (x : S0)
  | tup (xs : List S0)
  | lad (s off : Nat)
  | ldx (s base : Nat) (ix : List (Int × Nat))
  | gad (g off : Nat)
  | gdx (g base : Nat) (ix : List (Int × Nat))
  | un
  | no
/-- What is known of a local row. -/
inductive LR where
  | unk
  | nil
  | any (n : Nat)
  | row (cs : List SL)
structure Env where
  tm : List SV
  lc : List LR

def SL.val : SL → Value
  | .i k n => .int k n
  | .b t => .bool t
  | .l t => .bool t
  | .v x => x
def SL.lf : SL → Lf
  | .i _ n => .i n
  | .b t => .b t
  | .l t => .b t
  | .v x => .v x
def S0.val : S0 → Value
  | .leaf l => l.val
  | .agg cs => .agg ⟨cs.map SL.val⟩
def S0.cells : S0 → List SL
  | .leaf l => [l]
  | .agg cs => cs
/-- A place, some indices on. -/
def offX (base : Nat) : List (Int × Nat) → Nat
  | [] => base
  | p :: l => offX (base + p.1.toNat * p.2) l
def SV.val : SV → Value
  | .st x => x.val
  | .tup xs => .tuple ⟨xs.map S0.val⟩
  | .lad s off => .pointer (some ⟨s, off, some 0⟩)
  | .ldx s base ix => .pointer (some ⟨s, offX base ix, some 0⟩)
  | .gad g off => .pointer (some ⟨g, off, some 1⟩)
  | .gdx g base ix => .pointer (some ⟨g, offX base ix, some 1⟩)
  | .un => undef
  | .no => undef

/-- What may be handed on. -/
def goodV (x : Value) : Bool := noLoc x && noLoc3 x && oneCell x && !isTuple x
/-- What may lie in a struct that is one of several results. -/
def chk2 (x : Value) : Option Unit := if noLoc2 x then some () else none

def slOf : Value → SL
  | .int k n => .i k n
  | .bool t => .l t
  | v => .v v
/-- A value that is written in the text. -/
def s0Of : Value → Option S0
  | .agg cs => match cs.toList.all scalar with
    | true => some (.agg (cs.toList.map slOf))
    | false => none
  | v => match scalar v with
    | true => some (.leaf (slOf v))
    | false => none

def kNo : IntKind → Nat
  | .i8 => 0
  | .i16 => 1
  | .i32 => 2
  | .i64 => 3
  | .u8 => 4
  | .u16 => 5
  | .u32 => 6
  | .u64 => 7
def kSame (a b : IntKind) : Bool := Nat.beq (kNo a) (kNo b)
def SL.is : SL → LK → Bool
  | .i k _, .i k' => kSame k k'
  | .b _, .b => true
  | .l _, .b => true
  | .v _, .v => true
  | _, _ => false
def allIs : List SL → List LK → Bool
  | [], [] => true
  | c :: cs, k :: ks => c.is k && allIs cs ks
  | _, _ => false
def S0.is : S0 → SK → Bool
  | .leaf l, .leaf k => l.is k
  | .agg cs, .agg ks => allIs cs ks
  | _, _ => false
def SL.lk : SL → LK
  | .i k _ => .i k
  | .b _ => .b
  | .l _ => .b
  | .v _ => .v

/-! ### Annotated code -/

structure Live where
  tm : List (Nat × SK)
  rows : List (Nat × List LK)

inductive AC where
  | skip
  | ret
  | exit (id : Nat)
  | label (l : Nat)
  | seq (a b : AC)
  | scope (b : AC)
  | region (id : Nat) (ops : Array Oper) (draw : Bool) (hs : List (List SK)) (j : Option Live)
  | cond (c : Operand) (a b : AC) (j : Option Live)
  | block (id : Nat) (b : AC) (j : Option Live)
  | loop (b : AC) (l : Live)
  | rangeFunc (f : Operand) (κ : Nat) (ids : List Nat)

/-- A loop over an iterator: the temporaries of its function, those that its body reads, its parameters. -/
structure Site where
  nt : Nat
  caps : List (Nat × SK)
  params : List (Nat × SK)
  assign : AC
  body : AC

/-- The bare code; what stands at the loops over iterators is looked up. -/
def AC.erase (T : Nat → Tmp → Code) : AC → Code
  | .skip => .skip
  | .ret => .ret
  | .exit id => .exit id
  | .label l => .label l
  | .seq a b => .seq (a.erase T) (b.erase T)
  | .scope b => .scope (b.erase T)
  | .region id ops draw _ _ => .region id ops draw
  | .cond c a b _ => .cond c (a.erase T) (b.erase T)
  | .block id b _ => .block id (b.erase T)
  | .loop b _ => .loop (b.erase T)
  | .rangeFunc f κ _ => match f with
    | .tmp t => T κ t
    | _ => .refuse ""

/-- No loop over an iterator within one. -/
def noSite : Nat → Tmp → Code := fun _ _ => .refuse ""
def siteCode (s : Site) (t : Tmp) : Code := .rangeFunc (.tmp t) (s.params.map (·.1)).toArray (s.assign.erase noSite) (s.body.erase noSite)

/-- The temporaries that code writes. -/
def wrT : Code → List Nat
  | .region _ ops _ => ops.toList.filterMap (·.dst)
  | .seq a b => wrT a ++ wrT b
  | .cond _ a b => wrT a ++ wrT b
  | .block _ b => wrT b
  | .loop b => wrT b
  | .scope b => wrT b
  | _ => []
def opRow (pts : List Nat) (o : Oper) : Option Nat :=
  match o.op with
  | .box .. | .alloc _ => match o.dst with
    | some d => if pts.getD d 0 = d + 2 then some d else none
    | none => none
  | .store _ a _ => match keyOf pts a with
    | s + 2 => some s
    | _ => none
  | _ => none
/-- The local rows that code writes. -/
def wrR (pts : List Nat) : Code → List Nat
  | .region _ ops _ => ops.toList.filterMap (opRow pts)
  | .seq a b => wrR pts a ++ wrR pts b
  | .cond _ a b => wrR pts a ++ wrR pts b
  | .block _ b => wrR pts b
  | .loop b => wrR pts b
  | .scope b => wrR pts b
  | .rangeFunc _ _ a b => wrR pts a ++ wrR pts b
  | _ => []

/-! ### The heap's operations -/

abbrev Getter := Nat → Option HObj
inductive Act1 where
  | set (i : Nat) (o : HObj)
  | push (o : HObj)
def Act1.on (H : List HObj) : Act1 → List HObj
  | .set i o => H.set i o
  | .push o => H ++ [o]
def actsOn (H : List HObj) (l : List Act1) : List HObj := l.foldl Act1.on H

def cellsG (g : Getter) (id : Nat) : Option (List Value) :=
  match g id with
  | some (.cells vs _ _) => some vs
  | _ => none
/-- n cells behind a pointer. -/
def ldP (n : Nat) (p : Value) (g : Getter) : Option (List Value) :=
  match p with
  | .pointer (some a) => match a.spot with
    | none => (cellsG g a.block).bind fun vs => cut vs a.off n
    | some _ => none
  | _ => none
def stP (p : Value) (new : List Value) (g : Getter) (_ : Nat) : Option (List Act1 × List Value) :=
  match p with
  | .pointer (some a) => match a.spot with
    | none => match g a.block with
      | some (.cells vs e true) => (splice vs a.off new).map fun vs' => ([.set a.block (.cells vs' e true)], [])
      | _ => none
    | some _ => none
  | _ => none

/-- The cells of a slice of elements of so many cells, and how many elements. -/
def slG (C : Cfg) (esz : Nat) (g : Getter) : Value → Option (List Value × Nat)
  | .slice none 0 0 => some ([], 0)
  | .slice (some a) len _ =>
    if a.spot = some 1 then ((C.G a.block).bind fun vs => cut vs a.off (len * esz)).map fun x => (x, len)
    else if a.spot = tag esz then
      match g a.block with
      | some (.cells vs e _) => if e = esz then (cut vs a.off (len * esz)).map fun x => (x, len) else none
      | _ => none
    else none
  | .string s => if esz = 1 then some (s.data.toList.map fun b => .int .u8 b.toNat, s.size) else none
  | _ => none

def apG (C : Cfg) (esz bytes : Nat) (s x : Value) (g : Getter) (n0 : Nat) : Option (List Act1 × List Value) :=
  match slG C esz g x with
  | none => none
  | some (new, n) =>
    match s with
    | .slice none 0 0 =>
      if n = 0 then some ([], [.slice none 0 0])
      else if sizeOk n bytes then some ([.push (.cells new esz true)], [.slice (some ⟨n0, 0, tag esz⟩) n 0]) else none
    | .slice (some a) len cx =>
      if a.spot ≠ tag esz then none else
      match g a.block with
      | some (.cells vs e rw) =>
        if e ≠ esz then none else
        match cut vs a.off (len * esz) with
        | none => none
        | some old =>
          match cx with
          | 0 =>
            if n = 0 then some ([], [.slice (some a) len 0])
            else if rw && sizeOk (len + n) bytes then
              some ([.set a.block .dead, .push (.cells (old ++ new) esz true)], [.slice (some ⟨n0, 0, tag esz⟩) (len + n) 0])
            else none
          | cap + 1 =>
            if len + n ≤ cap then
              if rw then (splice vs (a.off + len * esz) new).map fun vs' => ([.set a.block (.cells vs' e true)], [.slice (some a) (len + n) (cap + 1)])
              else if n = 0 then some ([], [.slice (some a) len (cap + 1)]) else none
            else if sizeOk (len + n) bytes then
              some ([.push (.cells (old ++ new) esz true)], [.slice (some ⟨n0, 0, tag esz⟩) (len + n) 0])
            else none
      | _ => none
    | _ => none

def cpG (C : Cfg) (esz : Nat) (d x : Value) (g : Getter) (_ : Nat) : Option (List Act1 × List Value) :=
  match d with
  | .slice none 0 0 => (slG C esz g x).map fun _ => ([], [.int .i64 0])
  | .slice (some a) dlen _ =>
    if a.spot ≠ tag esz then none else
    match slG C esz g x, g a.block with
    | some (new, n), some (.cells vs e true) =>
      if e ≠ esz then none else
      (splice vs a.off (new.take (Nat.min n dlen * esz))).map fun vs' => ([.set a.block (.cells vs' e true)], [.int .i64 (Nat.min n dlen)])
    | _, _ => none
  | _ => none

/-- s[l:h:m]; what is not there is none. -/
def slS (esz : Nat) (x : Value) (lo hi mx : Option Int) : Option Value :=
  match x with
  | .slice (some a) len cx =>
    if a.spot ≠ some 1 ∧ a.spot ≠ tag esz then none else
    if 0 ≤ lo.getD 0 ∧ lo.getD 0 ≤ hi.getD len ∧ sliceFits len cx hi mx then
      some (.slice (some { a with off := a.off + (lo.getD 0).toNat * esz }) ((hi.getD len).toNat - (lo.getD 0).toNat) (sliceCap cx (lo.getD 0).toNat mx))
    else none
  | .slice none 0 0 => if lo.getD 0 = 0 ∧ hi.getD 0 = 0 ∧ mx.getD 0 = 0 ∧ (mx.isNone ∨ hi.isSome) then some (.slice none 0 0) else none
  | _ => none
def idS (esz : Nat) (x : Value) (i : Int) : Option Value :=
  match x with
  | .slice (some a) len _ =>
    if 0 ≤ i ∧ i < (len : Int) then some (.pointer (some ⟨a.block, a.off + i.toNat * esz, if a.spot = some 1 then some 1 else none⟩)) else none
  | _ => none
def idP (len esz : Nat) (x : Value) (i : Int) : Option Value :=
  match x with
  | .pointer (some a) => if 0 ≤ i ∧ i < (len : Int) then some (.pointer (some { a with off := a.off + i.toNat * esz })) else none
  | _ => none
def fdP (off : Nat) (x : Value) : Option Value :=
  match x with
  | .pointer (some a) => some (.pointer (some { a with off := a.off + off }))
  | _ => none
def nilP (x : Value) : Option Value :=
  match x with
  | .pointer (some a) => some (.pointer (some a))
  | .func (.func f) a b => some (.func (.func f) a b)
  | .func (.yield f) a b => some (.func (.yield f) a b)
  | _ => none
def lenS : Value → Option Int
  | .slice _ n _ => some n
  | _ => none
def lenStr : Value → Option Int
  | .string s => some s.size
  | _ => none
def capS : Value → Option Int
  | .slice (some _) _ (n + 1) => some n
  | .slice none 0 0 => some 0
  | _ => none
def lenM (m : Value) (g : Getter) : Option (List Value) :=
  match m with
  | .map (some id) => match g id with
    | some (.map es _) => some [.int .i64 es.length]
    | _ => none
  | _ => none
def inB (len : Nat) (i : Int) : Option Unit := if 0 ≤ i ∧ i < (len : Int) then some () else none
def mkOk (l c : Int) : Option Unit := if 0 ≤ l ∧ l ≤ c ∧ c ≤ 1048576 then some () else none
/-- n leaves of a row, from a place on. -/
def pickL (cs : List Lf) (base : Nat) (ix : List (Int × Nat)) (n : Nat) : Option (List Lf) :=
  if offX base ix + n ≤ cs.length then some ((cs.drop (offX base ix)).take n) else none
def putL (cs : List Lf) (base : Nat) (ix : List (Int × Nat)) (new : List Lf) : Option (List Lf) :=
  if offX base ix + new.length ≤ cs.length then some (cs.take (offX base ix) ++ new ++ cs.drop (offX base ix + new.length)) else none
def pickV (vs : List Value) (base : Nat) (ix : List (Int × Nat)) (n : Nat) : Option (List Value) := cut vs (offX base ix) n
def ldGv (C : Cfg) (n : Nat) (p : Value) : Option (List Value) :=
  match p with
  | .pointer (some a) => if a.spot = some 1 then (C.G a.block).bind fun vs => cut vs a.off n else none
  | _ => none
def strI (s : Value) (i : Int) : Option Int :=
  match s with
  | .string s => if 0 ≤ i then (s[i.toNat]?).map fun b => (b.toNat : Int) else none
  | _ => none

/-! Maps -/
def mapG (g : Getter) (id : Nat) : Option (List MapEntry × Nat) :=
  match g id with
  | some (.map es c) => some (es, c)
  | _ => none
def cellsA (ag : Bool) (v : Value) : Option (List Value) :=
  match v, ag with
  | .agg cs, true => some cs.toList
  | .agg _, false => none
  | _, true => none
  | v, false => some [v]
def luG (C : Cfg) (kt : TypeId) (ag : Bool) (z : Value) (m k : Value) (ok : Bool) (g : Getter) : Option (List Value) :=
  if !keyOk C.P kt k then none else
  match m with
  | .map none => (cellsA ag z).map fun cs => cs ++ if ok then [.bool false] else []
  | .map (some id) =>
    match mapG g id with
    | none => none
    | some (es, _) =>
      match findA C.P kt k es with
      | none => none
      | some none => (cellsA ag z).map fun cs => cs ++ if ok then [.bool false] else []
      | some (some i) => ((entryVal es i).bind (cellsA ag)).map fun cs => cs ++ if ok then [.bool true] else []
  | _ => none
def muG (C : Cfg) (kt : TypeId) (m k v : Value) (g : Getter) (_ : Nat) : Option (List Act1 × List Value) :=
  match m with
  | .map (some id) =>
    if !keyOk C.P kt k then none else
    match mapG g id with
    | none => none
    | some (es, c) =>
      match findA C.P kt k es with
      | none => none
      | some none => some ([.set id (.map (es ++ [{ key := k, val := v, born := c }]) (c + 1))], [])
      | some (some i) =>
        if (es[i]?).all (fun e => Instr.sameBits 10000 e.key k) then some ([.set id (.map (es.modify i fun e => { e with key := k, val := v }) c)], []) else none
  | _ => none
def meG (C : Cfg) (kt : TypeId) (ag : Bool) (z : Value) (m k : Value) (g : Getter) (_ : Nat) : Option (List Act1 × List Value) :=
  match m with
  | .map (some id) =>
    if !keyOk C.P kt k then none else
    match mapG g id with
    | none => none
    | some (es, c) =>
      match findA C.P kt k es with
      | none => none
      | some none => (cellsA ag z).map fun cs => ([.set id (.map (es ++ [{ key := k, val := z, born := c }]) (c + 1))], cs ++ [.int .i64 c])
      | some (some i) =>
        match es[i]? with
        | none => none
        | some e => if Instr.sameBits 10000 e.key k then (cellsA ag e.val).map fun cs => ([.set id (.map (es.modify i fun e => { e with key := k }) c)], cs ++ [.int .i64 e.born]) else none
  | _ => none
def esG (m : Value) (b : Int) (v : Value) (g : Getter) (_ : Nat) : Option (List Act1 × List Value) :=
  match m with
  | .map (some id) =>
    match mapG g id with
    | none => none
    | some (es, c) =>
      match es.findIdx? (fun e => (e.born : Int) == b) with
      | some i => some ([.set id (.map (es.modify i fun e => { e with val := v }) c)], [])
      | none => none
  | _ => none
def deG (C : Cfg) (kt : TypeId) (m k : Value) (g : Getter) (_ : Nat) : Option (List Act1 × List Value) :=
  if !keyOk C.P kt k then none else
  match m with
  | .map none => some ([], [])
  | .map (some id) =>
    match mapG g id with
    | none => none
    | some (es, c) =>
      match findA C.P kt k es with
      | none => none
      | some none => some ([], [])
      | some (some i) => some ([.set id (.map (es.eraseIdx i) c)], [])
  | _ => none

/-! ### The algebra -/

structure Alg (R HT : Type) : Type 1 where
  fail : R
  cond : Bool → R → R → R
  ari : BinOp → IntKind → Int → Int → (Int → R) → R
  shf : BinOp → IntKind → Int → IntKind → Int → (Int → R) → R
  cmp : BinOp → Int → Int → (Bool → R) → R
  eqs : List (Lf × Lf) → (Bool → R) → R
  conv : IntKind → Int → (Int → R) → R
  sel : Bool → Int → Int → (Int → R) → R
  opt : {α : Type} → Option α → (α → R) → R
  chk : Value → R → R
  unI : List Lf → (Int → List Lf → R) → R
  unB : List Lf → (Bool → List Lf → R) → R
  unV : List Lf → (Value → List Lf → R) → R
  un0 : List Lf → R → R
  ucI : IntKind → List Value → (Int → List Value → R) → R
  ucB : List Value → (Bool → List Value → R) → R
  ucV : List Value → (Value → List Value → R) → R
  uc0 : List Value → R → R
  peek : (Getter → Option (List Value)) → HT → (List Value → R) → R
  heap : (Getter → Nat → Option (List Act1 × List Value)) → HT → (List Value → HT → R) → R
  new : HObj → HT → (Nat → HT → R) → R
  call : FuncId → List Lf → HT → (List Lf → HT → R) → R
  callv : Value → List Value → List SK → HT → (List Lf → HT → R) → R
  join : (List Lf → HT → R) → ((List Lf → HT → R) → R) → R
  loop : ((List Lf → HT → R) → List Lf → HT → R) → List Lf → HT → R
  rfun : Nat → Value → List Value → HT → (Option Code → HT → R) → R
  pend : Option Code → R → R → List (Nat × R) → R
  lp1 : Nat → HT → (HT → R) → R
  lp2 : Nat → Option Code → HT → (HT → R) → R

section
variable {R HT : Type} (A : Alg R HT)

/-! ### Lists, forced -/

noncomputable def setK {α : Type} (x : α) (l : List α) : Nat → (List α → R) → R :=
  List.rec (motive := fun _ => Nat → (List α → R) → R) (fun _ k => k [])
    (fun a tl ih i k => match i with
      | 0 => k (x :: tl)
      | i + 1 => ih i fun l => k (a :: l)) l

noncomputable def unL (ks : List LK) : List Lf → (List SL → List Lf → R) → R :=
  List.rec (motive := fun _ => List Lf → (List SL → List Lf → R) → R) (fun ls K => K [] ls)
    (fun k _ ih ls K => match k with
      | .i k => A.unI ls fun n r => ih r fun sl r => K (.i k n :: sl) r
      | .b => A.unB ls fun t r => ih r fun sl r => K (.b t :: sl) r
      | .v => A.unV ls fun x r => ih r fun sl r => K (.v x :: sl) r) ks
noncomputable def unS (sk : SK) (ls : List Lf) (K : S0 → List Lf → R) : R :=
  match sk with
  | .leaf k => match k with
    | .i k => A.unI ls fun n r => K (.leaf (.i k n)) r
    | .b => A.unB ls fun t r => K (.leaf (.b t)) r
    | .v => A.unV ls fun x r => K (.leaf (.v x)) r
  | .agg ks => unL A ks ls fun sl r => K (.agg sl) r
noncomputable def unSs (sks : List SK) : List Lf → (List S0 → List Lf → R) → R :=
  List.rec (motive := fun _ => List Lf → (List S0 → List Lf → R) → R) (fun ls K => K [] ls)
    (fun sk _ ih ls K => unS A sk ls fun x r => ih r fun xs r => K (x :: xs) r) sks
/-- Cells, taken apart. -/
noncomputable def ucL (ks : List LK) : List Value → (List SL → List Value → R) → R :=
  List.rec (motive := fun _ => List Value → (List SL → List Value → R) → R) (fun cs K => K [] cs)
    (fun k _ ih cs K => match k with
      | .i k => A.ucI k cs fun n r => ih r fun sl r => K (.i k n :: sl) r
      | .b => A.ucB cs fun t r => ih r fun sl r => K (.b t :: sl) r
      | .v => A.ucV cs fun x r => A.chk x (ih r fun sl r => K (.v x :: sl) r)) ks
noncomputable def ucS (sk : SK) (cs : List Value) (K : S0 → List Value → R) : R :=
  match sk with
  | .leaf k => match k with
    | .i k => A.ucI k cs fun n r => K (.leaf (.i k n)) r
    | .b => A.ucB cs fun t r => K (.leaf (.b t)) r
    | .v => A.ucV cs fun x r => A.chk x (K (.leaf (.v x)) r)
  | .agg ks => ucL A ks cs fun sl r => K (.agg sl) r
noncomputable def ucSs (sks : List SK) : List Value → (List S0 → List Value → R) → R :=
  List.rec (motive := fun _ => List Value → (List S0 → List Value → R) → R) (fun cs K => K [] cs)
    (fun sk _ ih cs K => ucS A sk cs fun x r => ih r fun xs r => K (x :: xs) r) sks

/-! ### Environments -/

def lfsOf : List S0 → List Lf
  | [] => []
  | x :: l => x.cells.map SL.lf ++ lfsOf l
def valsOf (l : List S0) : List Value := l.map S0.val
def cellsOf0 (l : List S0) : List Value := l.flatMap fun x => x.cells.map SL.val

def pkT (tm : List SV) : List (Nat × SK) → Option (List Lf)
  | [] => some []
  | (t, sk) :: l => match tm.getD t .no, pkT tm l with
    | .st x, some ls => match x.is sk with
      | true => some (x.cells.map SL.lf ++ ls)
      | false => none
    | _, _ => none
def pkR (lc : List LR) : List (Nat × List LK) → Option (List Lf)
  | [] => some []
  | (s, ks) :: l => match lc.getD s .unk, pkR lc l with
    | .row cs, some ls => match allIs cs ks with
      | true => some (cs.map SL.lf ++ ls)
      | false => none
    | _, _ => none
def pk (ev : Env) (lv : Live) : Option (List Lf) :=
  match pkT ev.tm lv.tm, pkR ev.lc lv.rows with
  | some a, some b => some (a ++ b)
  | _, _ => none

def SV.inRows (ks : List Nat) : SV → Bool
  | .tup _ => true
  | .lad s _ => ks.contains s
  | .ldx s _ _ => ks.contains s
  | _ => false
noncomputable def clrT (ws ks : List Nat) (l : List SV) : Nat → (List SV → R) → R :=
  List.rec (motive := fun _ => Nat → (List SV → R) → R) (fun _ K => K [])
    (fun x _ ih i K => ih (i + 1) fun l => match ws.contains i || x.inRows ks with
      | true => K (.no :: l)
      | false => K (x :: l)) l
noncomputable def forceLen (n : Nat) (K : Nat → R) : R := Nat.casesOn n (K 0) fun m => K (Nat.succ m)
/-- 'nw': what a row is that is made anew in the code. -/
noncomputable def clrR (ws ks : List Nat) (nw : LR) (l : List LR) : Nat → (List LR → R) → R :=
  List.rec (motive := fun _ => Nat → (List LR → R) → R) (fun _ K => K [])
    (fun x _ ih i K => ih (i + 1) fun l => match ks.contains i, ws.contains i with
      | true, _ => K (nw :: l)
      | false, true => (match x with
        | .row cs => forceLen cs.length fun n => K (.any n :: l)
        | .any n => K (.any n :: l)
        | _ => K (.unk :: l))
      | false, false => K (x :: l)) l
noncomputable def upT (lv : List (Nat × SK)) : List S0 → List SV → (List SV → R) → R :=
  List.rec (motive := fun _ => List S0 → List SV → (List SV → R) → R) (fun _ tm K => K tm)
    (fun p _ ih xs tm K => match xs with
      | x :: xs => setK (.st x) tm p.1 fun tm => ih xs tm K
      | [] => A.fail) lv
noncomputable def upR (lv : List (Nat × List LK)) : List Lf → List LR → (List LR → List Lf → R) → R :=
  List.rec (motive := fun _ => List Lf → List LR → (List LR → List Lf → R) → R) (fun ls lc K => K lc ls)
    (fun p _ ih ls lc K => unL A p.2 ls fun cs r => setK (.row cs) lc p.1 fun lc => ih r lc K) lv
/-- The environment behind a piece of code, by what is live of what it writes. -/
noncomputable def reE (pts : List Nat) (c : Code) (nw : LR) (lv : Live) (ev : Env) (ls : List Lf) (K : Env → R) : R :=
  clrT (wrT c) (boxKeys pts c) ev.tm 0 fun tm => clrR (wrR pts c) (boxKeys pts c) nw ev.lc 0 fun lc =>
    unSs A (lv.tm.map (·.2)) ls fun xs r => upT A lv.tm xs tm fun tm => upR A lv.rows r lc fun lc r => A.un0 r (K ⟨tm, lc⟩)

abbrev KN (R HT : Type) := Env → HT → R

noncomputable def joinE (pts : List Nat) (c : Code) (j : Option Live) (ev : Env) (kn : KN R HT) (main : KN R HT → R) : R :=
  match j with
  | none => main kn
  | some lv => A.join (fun ls h => reE A pts c .unk lv ev ls fun ev => kn ev h) fun jn => main fun ev h => match pk ev lv with
    | some ls => jn ls h
    | none => A.fail

/-! ### Operations -/

structure Ctxt where
  C : Cfg
  pts : List Nat
  T : Nat → Site

def sval (ev : Env) : Operand → SV
  | .tmp t => ev.tm.getD t .no
  | .const v => match s0Of v with
    | some x => .st x
    | none => .no
  | .global g => .gad g 0
  | .func f => .st (.leaf (.v (.func (.func f) #[] #[])))
def sval0 (ev : Env) (x : Operand) : Option S0 :=
  match sval ev x with
  | .st x => some x
  | _ => none
def svals (ev : Env) : List Operand → Option (List S0)
  | [] => some []
  | x :: l => match sval0 ev x, svals ev l with
    | some x, some l => some (x :: l)
    | _, _ => none
def constI : Operand → Option Nat
  | .const (.int _ (.ofNat n)) => some n
  | _ => none

noncomputable def setD (d : Option Tmp) (x : SV) (ev : Env) (h : HT) (K : KN R HT) : R :=
  match d with
  | some d => setK x ev.tm d fun tm => K ⟨tm, ev.lc⟩ h
  | none => K ev h

def rowAt (ev : Env) (s : Nat) : Option (List SL) :=
  match ev.lc.getD s .unk with
  | .row cs => some cs
  | _ => none

def skKs : SK → List LK
  | .leaf k => [k]
  | .agg ks => ks
def cutS (cs : List SL) (off n : Nat) : Option (List SL) := if off + n ≤ cs.length then some ((cs.drop off).take n) else none
def spliceS (cs : List SL) (off : Nat) (new : List SL) : Option (List SL) := if off + new.length ≤ cs.length then some (cs.take off ++ new ++ cs.drop (off + new.length)) else none
/-- Wherever the indices lead, there are leaves of these kinds. -/
def allAt (cs : List SL) (ks : List LK) : Nat → List (Int × Nat) → Bool
  | base, [] => match cutS cs base ks.length with
    | some ds => allIs ds ks
    | none => true
  | base, p :: l => !Nat.beq p.2 0 && (List.range (cs.length + 1)).all fun j => allAt cs ks (base + j * p.2) l
def mkS0 (agg : Bool) (cs : List SL) : Option S0 :=
  match agg, cs with
  | true, cs => some (.agg cs)
  | false, [c] => some (.leaf c)
  | _, _ => none
def skOf (agg : Bool) (ks : List LK) : Option SK :=
  match agg, ks with
  | true, ks => some (.agg ks)
  | false, [k] => some (.leaf k)
  | _, _ => none
def fillS (pl : Nat → Option (Nat × Nat)) (cs : List SL) : List (Nat × S0) → Option (List SL)
  | [] => some cs
  | (i, x) :: l => match pl i with
    | some (off, n) => match Nat.beq x.cells.length n with
      | true => match spliceS cs off x.cells with
        | some cs => fillS pl cs l
        | none => none
      | false => none
    | none => none
def aggT (P : Program) (t : TypeId) : Option Bool :=
  match P.underlying t with
  | some (.struct _) | some (.array _ _) => some true
  | some _ => some false
  | none => none
def zeroS (P : Program) (t : TypeId) : Option S0 := (zeroOf P t).bind s0Of
def skAgg : SK → Bool
  | .leaf _ => false
  | .agg _ => true
def eqB : Bool → Bool → Bool
  | true, true => true
  | false, false => true
  | _, _ => false

noncomputable def newV (X : Ctxt) (d : Option Tmp) (t : TypeId) (x : S0) (ev : Env) (h : HT) (K : KN R HT) : R :=
  match d with
  | none => A.fail
  | some d => match Nat.beq (X.pts.getD d 0) (d + 2) with
    | true => match ev.lc.getD d .unk with
      | .nil => setK (.row x.cells) ev.lc d fun lc => setK (.lad d 0) ev.tm d fun tm => K ⟨tm, lc⟩ h
      | _ => A.fail
    | false => A.new (.cells (x.cells.map SL.val) (rowSize X.C.P t) true) h fun n h => setD (some d) (.st (.leaf (.v (.pointer (some ⟨n, 0, none⟩))))) ev h K

/-- Cells into a temporary. -/
noncomputable def setC (d : Option Tmp) (sk : SK) (cs : List Value) (ev : Env) (h : HT) (K : KN R HT) : R :=
  ucS A sk cs fun x r => A.uc0 r (setD d (.st x) ev h K)
noncomputable def setL (d : Option Tmp) (sk : SK) (ls : List Lf) (ev : Env) (h : HT) (K : KN R HT) : R :=
  unS A sk ls fun x r => A.un0 r (setD d (.st x) ev h K)

noncomputable def loadE (X : Ctxt) (d : Option Tmp) (sk : SK) (agg : Bool) (n : Nat) (a : Operand) (ev : Env) (h : HT) (K : KN R HT) : R :=
  match keyOf X.pts a, sval ev a with
  | 0, .st (.leaf (.v p)) => A.peek (ldP n p) h fun cs => setC A d sk cs ev h K
  | 1, .gad g off => match X.C.G g with
    | some vs => match cut vs off n with
      | some cs => match cs.all scalar, mkS0 agg (cs.map slOf) with
        | true, some x => setD d (.st x) ev h K
        | _, _ => setC A d sk cs ev h K
      | none => A.fail
    | none => A.fail
  | 1, .gdx g base ix => match X.C.G g with
    | some vs => A.opt (pickV vs base ix n) fun cs => setC A d sk cs ev h K
    | none => A.fail
  | 1, .st (.leaf (.v p)) => A.opt (ldGv X.C n p) fun cs => setC A d sk cs ev h K
  | s + 2, .lad s' off => match Nat.beq s s', (rowAt ev s).bind (fun cs => (cutS cs off n).bind (mkS0 agg)) with
    | true, some x => setD d (.st x) ev h K
    | _, _ => A.fail
  | s + 2, .ldx s' base ix => match Nat.beq s s', rowAt ev s with
    | true, some cs => match allAt cs (skKs sk) base ix && Nat.beq n (skKs sk).length with
      | true => A.opt (pickL (cs.map SL.lf) base ix n) fun ls => setL A d sk ls ev h K
      | false => A.fail
    | _, _ => A.fail
  | _, _ => A.fail

def storeR (r : LR) (off : Nat) (new : List SL) : Option (List SL) :=
  match r with
  | .row cs => spliceS cs off new
  | .any n => match Nat.beq off 0 && Nat.beq n new.length with
    | true => some new
    | false => none
  | _ => none

noncomputable def storeE (X : Ctxt) (d : Option Tmp) (t : TypeId) (a : Operand) (x : S0) (ev : Env) (h : HT) (K : KN R HT) : R :=
  match Nat.beq x.cells.length (X.C.P.cellsOf t) && (X.C.P.info? t).isSome with
  | false => A.fail
  | true => match keyOf X.pts a, sval ev a with
    | 0, .st (.leaf (.v p)) => A.heap (stP p (x.cells.map SL.val)) h fun _ h => setD d .un ev h K
    | s + 2, .lad s' off => match Nat.beq s s', storeR (ev.lc.getD s .unk) off x.cells with
      | true, some cs => setK (.row cs) ev.lc s fun lc => setD d .un ⟨ev.tm, lc⟩ h K
      | _, _ => A.fail
    | s + 2, .ldx s' base ix => match Nat.beq s s', rowAt ev s with
      | true, some cs => match allAt cs (x.cells.map SL.lk) base ix with
        | false => A.fail
        | true => A.opt (putL (cs.map SL.lf) base ix (x.cells.map SL.lf)) fun ls => unL A (cs.map SL.lk) ls fun cs r => A.un0 r (setK (.row cs) ev.lc s fun lc => setD d .un ⟨ev.tm, lc⟩ h K)
      | _, _ => A.fail
    | _, _ => A.fail

def isCmp : BinOp → Bool
  | .eql | .neq | .lss | .leq | .gtr | .geq => true
  | _ => false
def isShift : BinOp → Bool
  | .shl | .shr => true
  | _ => false

/-- The kinds of the cells of a type whose values are compared cell by cell. -/
def flatFs (F : TypeId → Option (List LK)) : List Field → Nat → Option (List LK)
  | [], _ => some []
  | f :: fs, off => match decide (f.name = "_"), Nat.beq f.offset off, F f.type with
    | false, true, some ks => (flatFs F fs (off + ks.length)).map (ks ++ ·)
    | _, _, _ => none
def flatK (P : Program) : Nat → TypeId → Option (List LK)
  | 0, _ => none
  | d + 1, t => match P.underlying t with
    | some (.int k) => some [.i k]
    | some .bool => some [.b]
    | some (.struct fs) => match P.stoodInHeld t, flatFs (flatK P d) fs.toList 0 with
      | false, some ks => match Nat.beq ks.length (P.cellsOf t) with
        | true => some ks
        | false => none
      | _, _ => none
    | some (.array n e) => match flatK P d e with
      | some ks => match Nat.beq ks.length (P.cellsOf e) && Nat.beq (List.replicate n ks).flatten.length (P.cellsOf t) with
        | true => some (List.replicate n ks).flatten
        | false => none
      | none => none
    | _ => none

def allPlain (ks : List LK) : Bool := ks.all fun k => match k with
  | .v => false
  | _ => true
noncomputable def binE (X : Ctxt) (d : Option Tmp) (op : BinOp) (t : TypeId) (a b : S0) (ev : Env) (h : HT) (K : KN R HT) : R :=
  match a, b with
  | .leaf (.i k x), .leaf (.i k' y) =>
    match isShift op, kSame k k', isCmp op with
    | true, _, _ => A.shf op k x k' y fun n => setD d (.st (.leaf (.i k n))) ev h K
    | false, true, true => A.cmp op x y fun t => setD d (.st (.leaf (.b t))) ev h K
    | false, true, false => A.ari op k x y fun n => setD d (.st (.leaf (.i k n))) ev h K
    | _, _, _ => A.fail
  | .agg cs, .agg es => match flatK X.C.P 10000 t, X.C.P.eqGuardType X.C.P.depth t, aggT X.C.P t with
    | some ks, false, some true => match allIs cs ks && allIs es ks && allPlain ks with
      | true => match op with
        | .eql => A.eqs ((cs.map SL.lf).zip (es.map SL.lf)) fun t => setD d (.st (.leaf (.b t))) ev h K
        | .neq => A.eqs ((cs.map SL.lf).zip (es.map SL.lf)) fun t => setD d (.st (.leaf (.b (!t)))) ev h K
        | _ => A.fail
      | false => A.fail
    | _, _, _ => A.fail
  | .leaf (.v x), .leaf (.v y) => match X.C.P.underlying t with
    | some .string => A.fail
    | _ => match op with
      | .eql => A.opt (nilEq x y) fun t' => match nilOk X.C.P t x y with
        | true => setD d (.st (.leaf (.b t'))) ev h K
        | false => A.fail
      | .neq => A.opt (nilEq x y) fun t' => match nilOk X.C.P t x y with
        | true => setD d (.st (.leaf (.b (!t')))) ev h K
        | false => A.fail
      | _ => A.fail
  | .leaf x, .leaf y => match x.is .b && y.is .b, X.C.P.underlying t with
    | true, some .bool => match op with
      | .eql => A.eqs [(x.lf, y.lf)] fun t => setD d (.st (.leaf (.b t))) ev h K
      | .neq => A.eqs [(x.lf, y.lf)] fun t => setD d (.st (.leaf (.b (!t)))) ev h K
      | _ => A.fail
    | _, _ => A.fail
  | _, _ => A.fail

def optI (ev : Env) : Option Operand → Option (Option Int)
  | none => some none
  | some x => match sval ev x with
    | .st (.leaf (.i _ n)) => some (some n)
    | _ => none

def resSK (hs : List SK) : SK := match hs with
  | [k] => k
  | _ => .agg []

/-- The results of a call into a temporary. -/
noncomputable def setR (d : Option Tmp) (sks : List SK) (rs : List Lf) (ev : Env) (h : HT) (K : KN R HT) : R :=
  match sks with
  | [sk] => setL A d sk rs ev h K
  | [] => A.un0 rs (setD d .un ev h K)
  | sks => unSs A sks rs fun xs r => A.un0 r (setD d (.tup xs) ev h K)

structure Sig where
  ps : List SK
  rs : List SK

def areIs : List S0 → List SK → Bool
  | [], [] => true
  | x :: l, k :: ks => x.is k && areIs l ks
  | _, _ => false

noncomputable def builtinE (X : Ctxt) (d : Option Tmp) (_sk : SK) (b : Builtin) (xs : List S0) (ts : Array TypeId) (ev : Env) (h : HT) (K : KN R HT) : R :=
  match b, xs, ts[0]? with
  | .append, [.leaf (.v s), .leaf (.v x)], some t => match X.C.P.underlying t with
    | some (.slice e) => match X.C.P.info? e with
      | some info => match Nat.beq info.size 0 || (zeroI info).isNone || (ts[1]?.any fun u => (X.C.P.underlying u) matches some (.int _) | none) || ts[1]?.isNone with
        | true => A.fail
        | false => A.heap (apG X.C info.size info.bytes s x) h fun cs h => setC A d (.leaf .v) cs ev h K
      | none => A.fail
    | _ => A.fail
  | .len, [x], some t => match X.C.P.underlying t, x with
    | some (.slice _), .leaf (.v x) => A.opt (lenS x) fun n => setD d (.st (.leaf (.i .i64 n))) ev h K
    | some (.map _ _), .leaf (.v x) => A.peek (lenM x) h fun cs => setC A d (.leaf (.i .i64)) cs ev h K
    | some (.array n _), _ => setD d (.st (.leaf (.i .i64 n))) ev h K
    | _, _ => A.fail
  | .cap, [x], some t => match X.C.P.underlying t, x with
    | some (.slice _), .leaf (.v x) => A.opt (capS x) fun n => setD d (.st (.leaf (.i .i64 n))) ev h K
    | some (.array n _), _ => setD d (.st (.leaf (.i .i64 n))) ev h K
    | _, _ => A.fail
  | .copy, [.leaf (.v s), .leaf (.v x)], some t => match X.C.P.underlying t with
    | some (.slice e) => match Nat.beq (X.C.P.cellsOf e) 0 with
      | true => A.fail
      | false => A.heap (cpG X.C (X.C.P.cellsOf e) s x) h fun cs h => setC A d (.leaf (.i .i64)) cs ev h K
    | _ => A.fail
  | .delete, [.leaf (.v m), k], some t => match X.C.P.underlying t with
    | some (.map kt _) => A.heap (deG X.C kt m k.val) h fun _ h => setD d .un ev h K
    | _ => A.fail
  | .min, [.leaf (.i k a), .leaf (.i k' b)], _ => match kSame k k' with
    | true => A.cmp .lss b a fun t => A.sel t b a fun n => setD d (.st (.leaf (.i k n))) ev h K
    | false => A.fail
  | .max, [.leaf (.i k a), .leaf (.i k' b)], _ => match kSame k k' with
    | true => A.cmp .lss a b fun t => A.sel t b a fun n => setD d (.st (.leaf (.i k n))) ev h K
    | false => A.fail
  | _, _, _ => A.fail

noncomputable def indexAddrE (X : Ctxt) (d : Option Tmp) (t : TypeId) (x i : Operand) (ev : Env) (h : HT) (K : KN R HT) : R :=
  match X.C.P.underlying t with
  | some (.array len e) =>
    let esz := X.C.P.cellsOf e
    match Nat.beq esz 0, sval ev x, sval ev i, constI i with
    | false, .lad s off, _, some n => match Nat.blt n len with
      | true => setD d (.lad s (off + n * esz)) ev h K
      | false => A.fail
    | false, .gad g off, _, some n => match Nat.blt n len with
      | true => setD d (.gad g (off + n * esz)) ev h K
      | false => A.fail
    | false, .ldx s base ix, _, some n => match Nat.blt n len with
      | true => setD d (.ldx s (base + n * esz) ix) ev h K
      | false => A.fail
    | false, .gdx g base ix, _, some n => match Nat.blt n len with
      | true => setD d (.gdx g (base + n * esz) ix) ev h K
      | false => A.fail
    | false, .lad s off, .st (.leaf (.i _ j)), _ => A.opt (inB len j) fun _ => setD d (.ldx s off [(j, esz)]) ev h K
    | false, .gad g off, .st (.leaf (.i _ j)), _ => A.opt (inB len j) fun _ => setD d (.gdx g off [(j, esz)]) ev h K
    | false, .ldx s base ix, .st (.leaf (.i _ j)), _ => A.opt (inB len j) fun _ => setD d (.ldx s base (ix ++ [(j, esz)])) ev h K
    | false, .gdx g base ix, .st (.leaf (.i _ j)), _ => A.opt (inB len j) fun _ => setD d (.gdx g base (ix ++ [(j, esz)])) ev h K
    | false, .st (.leaf (.v p)), .st (.leaf (.i _ j)), _ => A.opt (idP len esz p j) fun q => A.chk q (setD d (.st (.leaf (.v q))) ev h K)
    | _, _, _, _ => A.fail
  | some (.slice e) =>
    let esz := X.C.P.cellsOf e
    match Nat.beq esz 0, sval ev x, sval ev i with
    | false, .st (.leaf (.v p)), .st (.leaf (.i _ j)) => A.opt (idS esz p j) fun q => setD d (.st (.leaf (.v q))) ev h K
    | _, _, _ => A.fail
  | _ => A.fail

noncomputable def fieldAddrE (X : Ctxt) (d : Option Tmp) (t : TypeId) (x : Operand) (f : Nat) (ev : Env) (h : HT) (K : KN R HT) : R :=
  match X.C.P.underlying t with
  | some (.struct fs) => match fs[f]? with
    | some fd => match Nat.beq (X.C.P.cellsOf fd.type) 0, sval ev x with
      | false, .lad s off => setD d (.lad s (off + fd.offset)) ev h K
      | false, .gad g off => setD d (.gad g (off + fd.offset)) ev h K
      | false, .ldx s base ix => setD d (.ldx s (base + fd.offset) ix) ev h K
      | false, .gdx g base ix => setD d (.gdx g (base + fd.offset) ix) ev h K
      | false, .st (.leaf (.v p)) => A.opt (fdP fd.offset p) fun q => A.chk q (setD d (.st (.leaf (.v q))) ev h K)
      | _, _ => A.fail
    | none => A.fail
  | _ => A.fail

noncomputable def opE (X : Ctxt) (Sg : FuncId → Option Sig) (o : Oper) (hs : List SK) (ev : Env) (h : HT) (K : KN R HT) : R :=
  match o.op with
  | .move x => match sval ev x with
    | .no => A.fail
    | y => setD o.dst y ev h K
  | .assign x => match sval ev x with
    | .no => A.fail
    | y => setD o.dst y ev h K
  | .pick c a b => match sval ev c, sval ev a, sval ev b with
    | .st (.leaf (.l true)), .st y, _ => setD o.dst (.st y) ev h K
    | .st (.leaf (.l false)), _, .st y => setD o.dst (.st y) ev h K
    | .st (.leaf (.b t)), .st y, .st z => A.cond t (setD o.dst (.st y) ev h K) (setD o.dst (.st z) ev h K)
    | _, _, _ => A.fail
  | .alloc t => match zeroS X.C.P t with
    | some x => newV A X o.dst t x ev h K
    | none => A.fail
  | .box t x => match sval ev x with
    | .st x => newV A X o.dst t x ev h K
    | _ => A.fail
  | .build t ps => match zeroS X.C.P t, placesOf X.C.P t, svals ev (ps.toList.map (·.2)) with
    | some z, some pl, some xs => match fillS pl z.cells ((ps.toList.map (·.1)).zip xs) with
      | some cs => setD o.dst (.st (.agg cs)) ev h K
      | none => A.fail
    | _, _, _ => A.fail
  | .buildSlice t n ps => match X.C.P.underlying t, svals ev (ps.toList.map (·.2)) with
    | some (.slice e), some xs => match X.C.P.info? e with
      | some info => match Nat.beq info.size 0 || Nat.beq n 0 || Nat.blt 16777216 (n * info.size), (zeroI info).bind s0Of with
        | false, some z => match fillS (fun i => some (i * info.size, info.size)) (List.replicate n z.cells).flatten ((ps.toList.map (·.1)).zip xs) with
          | some cs => A.new (.cells (cs.map SL.val) info.size true) h fun m h => setD o.dst (.st (.leaf (.v (.slice (some ⟨m, 0, tag info.size⟩) n (n + 1))))) ev h K
          | none => A.fail
        | _, _ => A.fail
      | none => A.fail
    | _, _ => A.fail
  | .load t a => match aggT X.C.P t with
    | some agg => match eqB agg (skAgg (resSK hs)) with
      | true => loadE A X o.dst (resSK hs) agg (if agg then X.C.P.cellsOf t else 1) a ev h K
      | false => A.fail
    | none => A.fail
  | .store t a x => match sval ev x with
    | .st x => storeE A X o.dst t a x ev h K
    | _ => A.fail
  | .nilCheck x => match sval ev x with
    | .st (.leaf (.v p)) => A.opt (nilP p) fun q => A.chk q (setD o.dst (.st (.leaf (.v q))) ev h K)
    | .lad s off => setD o.dst (.lad s off) ev h K
    | .gad s off => setD o.dst (.gad s off) ev h K
    | _ => A.fail
  | .binOp op t x y _ => match sval0 ev x, sval0 ev y with
    | some a, some b => binE A X o.dst op t a b ev h K
    | _, _ => A.fail
  | .unOp op _ x => match op, sval ev x with
    | .not, .st (.leaf (.b t)) => setD o.dst (.st (.leaf (.b (!t)))) ev h K
    | .not, .st (.leaf (.l t)) => setD o.dst (.st (.leaf (.l (!t)))) ev h K
    | .neg, .st (.leaf (.i k n)) => A.ari .sub k 0 n fun n => setD o.dst (.st (.leaf (.i k n))) ev h K
    | _, _ => A.fail
  | .convert sT dT x => match X.C.P.underlying sT, X.C.P.underlying dT, sval ev x with
    | some (.int _), some (.int k), .st (.leaf (.i _ n)) => A.conv k n fun n => setD o.dst (.st (.leaf (.i k n))) ev h K
    | _, _, _ => A.fail
  | .makeFunc fn first cap => match fn, svals ev first.toList, svals ev cap.toList with
    | .func g, some a, some b => A.chk (.func (.func g) ⟨valsOf a⟩ ⟨valsOf b⟩) (setD o.dst (.st (.leaf (.v (.func (.func g) ⟨valsOf a⟩ ⟨valsOf b⟩)))) ev h K)
    | _, _, _ => A.fail
  | .makeMap t r => match hintOk X.C t (r.map fun _ => .int .i64 0), optI ev r with
    | true, some _ => A.new (.map [] 0) h fun n h => setD o.dst (.st (.leaf (.v (.map (some n))))) ev h K
    | _, _ => A.fail
  | .makeSlice t l c => match X.C.P.underlying t, sval ev l, sval ev c with
    | some (.slice e), .st (.leaf (.i _ l)), .st (.leaf (.i _ c)) => match X.C.P.info? e with
      | some info => match Nat.beq info.size 0 || Nat.blt 4096 info.bytes, (zeroI info).bind s0Of with
        | false, some z => A.opt (mkOk l c) fun _ =>
            A.new (.cells (zerosA (z.cells.map SL.val) c.toNat) info.size true) h fun n h => setD o.dst (.st (.leaf (.v (.slice (some ⟨n, 0, tag info.size⟩) l.toNat (c.toNat + 1))))) ev h K
        | _, _ => A.fail
      | none => A.fail
    | _, _, _ => A.fail
  | .slice t x lo hi mx => match X.C.P.underlying t, sval ev x, optI ev lo, optI ev hi, optI ev mx with
    | some (.slice e), .st (.leaf (.v x)), some lo, some hi, some mx => match Nat.beq (X.C.P.cellsOf e) 0 with
      | true => A.fail
      | false => A.opt (slS (X.C.P.cellsOf e) x lo hi mx) fun q => A.chk q (setD o.dst (.st (.leaf (.v q))) ev h K)
    | some (.array _ e), .gad g off, some lo, some hi, some mx => match Nat.beq (X.C.P.cellsOf e) 0 with
      | true => A.fail
      | false => A.opt (sliceArr X.C t ⟨g, off, some 1⟩ (lo.map (.int .i64)) (hi.map (.int .i64)) (mx.map (.int .i64)) []) fun q => A.chk q (setD o.dst (.st (.leaf (.v q))) ev h K)
    | _, _, _, _, _ => A.fail
  | .fieldAddr t x f => fieldAddrE A X o.dst t x f ev h K
  | .indexAddr t x i => indexAddrE A X o.dst t x i ev h K
  | .field t x f => match X.C.P.underlying t, sval ev x with
    | some (.struct fs), .st (.agg cs) => match fs[f]? with
      | some fd => match (aggT X.C.P fd.type).bind (fun ag => (cutS cs fd.offset (if ag then X.C.P.cellsOf fd.type else 1)).bind (mkS0 ag)) with
        | some x => setD o.dst (.st x) ev h K
        | none => A.fail
      | none => A.fail
    | _, _ => A.fail
  | .index t x i => match X.C.P.underlying t, sval ev x, sval ev i with
    | some (.array len e), .st (.agg cs), .st (.leaf (.i _ j)) => match aggT X.C.P e with
      | some ag => match eqB ag (skAgg (resSK hs)) && allAt cs (skKs (resSK hs)) 0 [(j, X.C.P.cellsOf e)] && Nat.beq (if ag then X.C.P.cellsOf e else 1) (skKs (resSK hs)).length with
        | false => A.fail
        | true => A.opt (inB len j) fun _ => A.opt (pickL (cs.map SL.lf) 0 [(j, X.C.P.cellsOf e)] (if ag then X.C.P.cellsOf e else 1)) fun ls => setL A o.dst (resSK hs) ls ev h K
      | none => A.fail
    | _, _, _ => A.fail
  | .lookup t m k ok => match X.C.P.underlying t, sval ev m, sval0 ev k with
    | some (.map kt et), .st (.leaf (.v m)), some k => match zeroOf X.C.P et with
      | some z => match hs, ok with
        | [sk], false => A.peek (luG X.C kt (skAgg sk) z m k.val false) h fun cs => ucS A sk cs fun x r => A.uc0 r (setD o.dst (.st x) ev h K)
        | [sk, .leaf .b], true => A.peek (luG X.C kt (skAgg sk) z m k.val true) h fun cs => ucS A sk cs fun x r => A.ucB r fun t r => A.uc0 r (setD o.dst (.tup [x, .leaf (.b t)]) ev h K)
        | _, _ => A.fail
      | none => A.fail
    | _, _, _ => A.fail
  | .mapUpdate t m k v => match X.C.P.underlying t, sval ev m, sval0 ev k, sval0 ev v with
    | some (.map kt _), .st (.leaf (.v m)), some k, some v => A.heap (muG X.C kt m k.val v.val) h fun _ h => setD o.dst .un ev h K
    | _, _, _, _ => A.fail
  | .insert t m k v => match X.C.P.underlying t, sval ev m, sval0 ev k, sval0 ev v with
    | some (.map kt _), .st (.leaf (.v m)), some k, some v => A.heap (muG X.C kt m k.val v.val) h fun _ h => setD o.dst .un ev h K
    | _, _, _, _ => A.fail
  | .mapEntry t m k => match X.C.P.underlying t, sval ev m, sval0 ev k with
    | some (.map kt et), .st (.leaf (.v m)), some k => match zeroOf X.C.P et with
      | some z => match hs with
        | [sk, .leaf (.i .i64)] => A.heap (meG X.C kt (skAgg sk) z m k.val) h fun cs h => ucS A sk cs fun x r => A.ucI .i64 r fun n r => A.uc0 r (setD o.dst (.tup [x, .leaf (.i .i64 n)]) ev h K)
        | _ => A.fail
      | none => A.fail
    | _, _, _ => A.fail
  | .entryStore _ m s v => match sval ev m, sval ev s, sval0 ev v with
    | .st (.leaf (.v m)), .st (.leaf (.i _ b)), some v => A.heap (esG m b v.val) h fun _ h => setD o.dst .un ev h K
    | _, _, _ => A.fail
  | .extract t i => match sval ev t with
    | .tup xs => match xs[i]? with
      | some x => setD o.dst (.st x) ev h K
      | none => A.fail
    | _ => A.fail
  | .call c => match svals ev c.args.toList with
    | some xs => match c.callee with
      | .builtin b => builtinE A X o.dst (resSK hs) b xs c.argTypes ev h K
      | .value f => match sval ev f with
        | .st (.leaf (.v v)) => match f with
          | .func g => match Sg g with
            | some sg => match areIs xs sg.ps with
              | true => A.call g (lfsOf xs) h fun rs h => setR A o.dst sg.rs rs ev h K
              | false => A.fail
            | none => A.fail
          | _ => A.callv v (valsOf xs) hs h fun rs h => setR A o.dst hs rs ev h K
        | _ => A.fail
      | _ => A.fail
    | none => A.fail
  | _ => A.fail

/-- An operation that may be guarded. -/
noncomputable def opG (X : Ctxt) (Sg : FuncId → Option Sig) (ops : Array Oper) (o : Oper) (hs : List SK) (ev : Env) (h : HT) (K : KN R HT) : R :=
  match o.guard with
  | none => opE A X Sg o hs ev h K
  | some (j, want) => match (ops[j]?).bind (·.dst) with
    | some d => match ev.tm.getD d .no with
      | .st (.leaf (.l b)) => match b == want with
        | true => opE A X Sg o hs ev h K
        | false => setD o.dst .un ev h K
      | .un => setD o.dst .un ev h K
      | .st (.leaf (.b t)) => match want with
        | true => A.cond t (setK (.st (.leaf (.l true))) ev.tm d fun tm => opE A X Sg o hs ⟨tm, ev.lc⟩ h K) (setK (.st (.leaf (.l false))) ev.tm d fun tm => setD o.dst .un ⟨tm, ev.lc⟩ h K)
        | false => A.cond t (setK (.st (.leaf (.l true))) ev.tm d fun tm => setD o.dst .un ⟨tm, ev.lc⟩ h K) (setK (.st (.leaf (.l false))) ev.tm d fun tm => opE A X Sg o hs ⟨tm, ev.lc⟩ h K)
      | _ => A.fail
    | none => A.fail

noncomputable def opsE (X : Ctxt) (Sg : FuncId → Option Sig) (ops : Array Oper) (l : List Oper) : List (List SK) → Env → HT → KN R HT → R :=
  List.rec (motive := fun _ => List (List SK) → Env → HT → KN R HT → R) (fun _ ev h K => K ev h)
    (fun o _ ih hs ev h K => opG A X Sg ops o (hs.headD []) ev h fun ev h => ih hs.tail ev h K) l

end
end Go.Am
