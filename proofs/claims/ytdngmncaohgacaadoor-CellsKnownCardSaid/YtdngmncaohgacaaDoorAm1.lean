/-
  THE ABSTRACT MACHINE, ITS DEFINITIONS: values with abstract addresses, local boxes, an abstract heap, the effect of one operation.
-/
import GoSem.Claims
import Derived.Calls
import Derived.Orders
import Derived.KernelRfl
set_option linter.unusedSectionVars false
set_option linter.unusedSimpArgs false
set_option linter.unusedVariables false
set_option linter.constructorNameAsVariable false
namespace Go.Am

/-- Nothing is known of this value. -/
def poison : Value := .tuple #[.tuple #[]]

/-- A value of one cell without an address. -/
def scalar : Value → Bool
  | .bool _ => true
  | .int _ _ => true
  | .string _ => true
  | .pointer none => true
  | .map none => true
  | .nilFunc => true
  | .nilIface => true
  | .slice none 0 0 => true
  | _ => false

/-- A value without an address. -/
def flat1 : Value → Bool
  | .agg cs => cs.toList.all scalar
  | v => scalar v
def flat : Value → Bool
  | .tuple vs => vs.size != 1 && vs.toList.all flat1
  | v => flat1 v

/-- The kind of a symbolic number: its parts are numbers, of which the first one tells the kind. -/
def symKind (cs : Array Value) : Option IntKind :=
  match cs.toList with
  | .int k _ :: _ => some k
  | _ => none
/-- A symbolic number. -/
def isSym : Value → Bool
  | .tuple vs => match vs.toList with
    | [.agg cs] => (symKind cs).isSome
    | _ => false
  | _ => false
theorem isSym_size {vs : Array Value} (h : isSym (.tuple vs) = true) : vs.size = 1 := by
  simp only [isSym] at h
  split at h
  · rename_i e; rw [← Array.length_toList, e]; rfl
  · cases h
/-- What symbolic numbers mean. -/
class Val where
  num : Array Value → Int

/-- What runs without memory. -/
def pev {α : Type} (P : Program) : Sem α → Option α
  | .pure a => some a
  | .program k => pev P (k P)
  | _ => none

theorem pev_run {α : Type} {P : Program} {s : Sem α} {a : α} (h : pev P s = some a) (w : World) : s.run P w = .ok a w := by
  induction s with
  | pure b => simp [pev] at h; subst h; rfl
  | program k ih => exact ih P h
  | _ => simp [pev] at h

/-- A loop over an iterator, suspended. -/
structure ALoop where
  state : LoopState
  pending : Option Code
  fn : FuncId
  tmps : List Value
  params : List Tmp
  assign : Code
  body : Code

/-- What lies at an abstract number. -/
inductive HObj where
  | cells (vs : List Value) (esz : Nat) (rw : Bool)
  | map (es : List MapEntry) (clock : Nat)
  | loop (l : ALoop)
  | siter (s : ByteArray) (pos : Nat)
  | dead

/-- May it be written? -/
def HObj.owned : HObj → Bool
  | .cells _ _ rw => rw
  | .dead => false
  | _ => true
def HObj.alive : HObj → Bool
  | .dead => false
  | _ => true

structure St where
  tmps : List Value
  loc : List (Option (List Value))
  heap : List HObj

/-- The program, and what the package-level variables that are known hold. -/
structure Cfg where
  P : Program
  G : Nat → Option (List Value)
  pts : FuncId → List Nat        -- of each temporary that points into a local row: that row's number + 2; 1: into a known package-level variable; 0: anything else

def oval (tmps : List Value) : Operand → Value
  | .tmp t => tmps.getD t undef
  | .const v => if flat v then v else poison
  | .global g => .pointer (some ⟨g, 0, some 1⟩)
  | .func f => .func (.func f) #[] #[]

inductive Eff where
  | val (v : Value)
  | lnew (s : Nat) (vs : List Value)
  | lget (s : Nat) (f : List Value → Option Value)
  | lset (s : Nat) (f : List Value → Option (List Value))
  | hget (f : List HObj → Option Value)
  | hop (f : List HObj → Option (List HObj × Value))
  | call (f : FuncId) (args : List Value)
  | yield (l : Nat) (args : List Value)

def St.put (σ : St) (dst : Option Tmp) (v : Value) : St :=
  match dst with
  | some d => { σ with tmps := σ.tmps.set d v }
  | none => σ

/-- What an effect that is no call does. -/
def applyEff (σ : St) : Eff → Option (St × Value)
  | .val v => some (σ, v)
  | .lnew s vs => match σ.loc[s]? with
    | some none => some ({ σ with loc := σ.loc.set s (some vs) }, .pointer (some ⟨s, 0, some 0⟩))
    | _ => none
  | .lget s f => match σ.loc[s]? with
    | some (some vs) => (f vs).map fun v => (σ, v)
    | _ => none
  | .lset s f => match σ.loc[s]? with
    | some (some vs) => (f vs).map fun vs' => ({ σ with loc := σ.loc.set s (some vs') }, undef)
    | _ => none
  | .hget f => (f σ.heap).map fun v => (σ, v)
  | .hop f => (f σ.heap).map fun p => ({ σ with heap := p.1 }, p.2)
  | .call .. => none
  | .yield .. => none

/-! ### The parts of operations -/

/-- n cells from a place on. -/
def cut (vs : List Value) (off n : Nat) : Option (List Value) :=
  if off + n ≤ vs.length then some ((vs.drop off).take n) else none

/-- A variable of a type, read out of its row. -/
def readVar (P : Program) (t : TypeId) (vs : List Value) (off : Nat) : Option Value :=
  match P.underlying t with
  | some (.struct _) | some (.array _ _) => (cut vs off (P.cellsOf t)).map fun cs => .agg cs.toArray
  | some _ => vs[off]?
  | none => none

/-- The cells from a place on, replaced. -/
def splice (vs : List Value) (off : Nat) (new : List Value) : Option (List Value) :=
  if off + new.length ≤ vs.length then some (vs.take off ++ new ++ vs.drop (off + new.length)) else none


def isTuple : Value → Bool
  | .tuple vs => !isSym (.tuple vs)
  | _ => false

/-- A type's zero value, where it is as the machine takes it. -/
def zeroI (i : TypeInfo) : Option Value :=
  match i.zero with
  | some z => if z.cells.size = i.size ∧ flat z = true ∧ isTuple z = false then some z else none
  | none => none
def zeroOf (P : Program) (t : TypeId) : Option Value := (P.info? t).bind zeroI

/-- No address of a local row. -/
def noLoc1 : Value → Bool
  | .pointer (some a) => a.spot != some 0
  | .slice (some a) _ _ => a.spot != some 0
  | .tuple vs => isSym (.tuple vs)
  | .agg _ => false
  | .iface _ _ => false
  | .func _ _ _ => false
  | _ => true
def noLoc2 : Value → Bool
  | .agg cs => cs.toList.all noLoc1
  | .func _ a b => a.toList.all noLoc1 && b.toList.all noLoc1
  | .tuple vs => vs.size == 0 || isSym (.tuple vs)
  | v => noLoc1 v
def noLoc3 : Value → Bool
  | .agg cs => cs.toList.all noLoc2
  | .func _ a b => a.toList.all noLoc2 && b.toList.all noLoc2
  | .tuple vs => vs.toList.all noLoc2
  | v => noLoc2 v
/-- No address of a local row: what may go into the heap, to a call, and back. -/
def noLoc : Value → Bool
  | .agg cs => cs.toList.all noLoc3
  | .func _ a b => a.toList.all noLoc3 && b.toList.all noLoc3
  | .tuple vs => vs.toList.all noLoc3
  | v => noLoc3 v

def oneCell : Value → Bool
  | .agg _ => false
  | .tuple vs => isSym (.tuple vs)
  | _ => true
/-- What may lie in a cell. -/
def cellOk (v : Value) : Bool := noLoc v && oneCell v

def writeVar (P : Program) (t : TypeId) (v : Value) (vs : List Value) (off : Nat) : Option (List Value) :=
  if v.cells.size = P.cellsOf t ∧ (P.info? t).isSome then
    if v.cells.toList.all cellOk then splice vs off v.cells.toList else none
  else none

/-- The mark on the address of a slice in the abstract heap: the cells of its elements. -/
def tag (esz : Nat) : Option Nat := some (esz + 10)

def hcells (H : List HObj) (id : Nat) : Option (List Value) :=
  match H[id]? with
  | some (.cells vs _ _) => some vs
  | _ => none

/-- The cells of a slice, or the bytes of a string. -/
def cellsOfVal (C : Cfg) (H : List HObj) (esz : Nat) : Value → Option (List Value × Nat)
  | .slice none 0 0 => some ([], 0)
  | .slice (some a) len _ =>
    if a.spot = some 1 then ((C.G a.block).bind fun vs => cut vs a.off (len * esz)).map fun x => (x, len)
    else if a.spot = tag esz then
      match H[a.block]? with
      | some (.cells vs e _) => if e = esz then (cut vs a.off (len * esz)).map fun x => (x, len) else none
      | _ => none
    else none
  | .string s => if esz = 1 then some (s.data.toList.map fun b => .int .u8 b.toNat, s.size) else none
  | _ => none

def sizeOk (need bytes : Nat) : Bool := Nat.ble need 4294967296 && Nat.ble bytes 4096

/-- append: at whatever capacity. -/
def appendA (C : Cfg) (sT : TypeId) (s x : Value) (H : List HObj) : Option (List HObj × Value) :=
  match C.P.underlying sT with
  | some (.slice elem) =>
    match C.P.info? elem with
    | none => none
    | some info =>
    if info.size = 0 then none else
    if (zeroI info).isNone then none else
    match cellsOfVal C H info.size x with
    | none => none
    | some (new, n) =>
      match s with
      | .slice none 0 0 =>
        if n = 0 then some (H, .slice none 0 0)
        else if sizeOk n info.bytes then some (H ++ [.cells new info.size true], .slice (some ⟨H.length, 0, tag info.size⟩) n 0) else none
      | .slice (some a) len cx =>
        if a.spot ≠ tag info.size then none else
        match H[a.block]? with
        | some (.cells vs e rw) =>
          if e ≠ info.size then none else
          match cut vs a.off (len * info.size) with
          | none => none
          | some old =>
            match cx with
            | 0 =>
              if n = 0 then some (H, .slice (some a) len 0)
              else if rw && sizeOk (len + n) info.bytes then
                some (H.set a.block .dead ++ [.cells (old ++ new) info.size true], .slice (some ⟨H.length, 0, tag info.size⟩) (len + n) 0)
              else none
            | cap + 1 =>
              if len + n ≤ cap then
                if rw then (splice vs (a.off + len * info.size) new).map fun vs' => (H.set a.block (.cells vs' e true), .slice (some a) (len + n) (cap + 1))
                else if n = 0 then some (H, .slice (some a) len (cap + 1)) else none
              else if sizeOk (len + n) info.bytes then
                some (H ++ [.cells (old ++ new) info.size true], .slice (some ⟨H.length, 0, tag info.size⟩) (len + n) 0)
              else none
        | _ => none
      | _ => none
  | _ => none

/-- The bounds of s[l:h:m]; 'top' is the capacity, plus one, or 0 where it is not known. -/
def boundOf : Option Value → Option (Option Int)
  | none => some none
  | some (.int _ n) => some (some n)
  | _ => none

def sliceCap (cx l : Nat) : Option Int → Nat
  | none => cx - l
  | some m => m.toNat - l + 1
def sliceFits (len cx : Nat) (hi : Option Int) : Option Int → Prop
  | none => hi.getD len ≤ (len : Int) ∨ (0 < cx ∧ hi.getD len < (cx : Int))
  | some m => hi.isSome = true ∧ hi.getD len ≤ m ∧ (m ≤ (len : Int) ∨ (0 < cx ∧ m < (cx : Int)))
instance (len cx : Nat) (hi mx : Option Int) : Decidable (sliceFits len cx hi mx) := by
  cases mx <;> (unfold sliceFits; infer_instance)

/-- s[l:h:m] of a slice, or of a package-level array. -/
def sliceA (C : Cfg) (t : TypeId) (x : Value) (lo hi mx : Option Value) : Option Value :=
  match boundOf lo, boundOf hi, boundOf mx with
  | some lo, some hi, some mx =>
    match C.P.underlying t, x with
    | some (.slice elem), .slice (some a) len cx =>
      if C.P.cellsOf elem = 0 then none else
      if a.spot ≠ some 1 ∧ a.spot ≠ tag (C.P.cellsOf elem) then none else
      if 0 ≤ lo.getD 0 ∧ lo.getD 0 ≤ hi.getD len ∧ sliceFits len cx hi mx then
        some (.slice (some { a with off := a.off + (lo.getD 0).toNat * C.P.cellsOf elem }) ((hi.getD len).toNat - (lo.getD 0).toNat) (sliceCap cx (lo.getD 0).toNat mx))
      else none
    | _, _ => none
  | _, _, _ => none

/-- p[l:h:m] of an array of n elements: l, h, m. -/
def arrBounds (n : Nat) (lo hi mx : Option Value) : Option (Nat × Nat × Nat) :=
  match boundOf lo, boundOf hi, boundOf mx with
  | some lo, some hi, some mx =>
    let m := mx.getD n
    let h := hi.getD n
    let l := lo.getD 0
    if 0 ≤ l ∧ l ≤ h ∧ h ≤ m ∧ m ≤ (n : Int) ∧ (mx.isNone ∨ hi.isSome) then some (l.toNat, h.toNat, m.toNat) else none
  | _, _, _ => none

def sliceArr (C : Cfg) (t : TypeId) (a : Addr) (lo hi mx : Option Value) (H : List HObj) : Option Value :=
  match C.P.underlying t with
  | some (.array n elem) =>
    if C.P.cellsOf elem = 0 then none else
    match arrBounds n lo hi mx with
    | none => none
    | some (l, h, m) =>
      if a.spot = some 1 then some (.slice (some ⟨a.block, a.off + l * C.P.cellsOf elem, some 1⟩) (h - l) (m - l + 1))
      else if a.spot = none then
        match H[a.block]? with
        | some (.cells vs e _) =>
          if e = C.P.cellsOf elem ∧ a.off + n * C.P.cellsOf elem ≤ vs.length then
            some (.slice (some ⟨a.block, a.off + l * C.P.cellsOf elem, tag e⟩) (h - l) (m - l + 1))
          else none
        | _ => none
      else none
  | _ => none

def intOf : Value → Option Int
  | .int _ n => some n
  | _ => none

/-- The address of a field. -/
def fieldAddrA (C : Cfg) (t : TypeId) (x : Value) (f : Nat) : Option Value :=
  match C.P.underlying t, x with
  | some (.struct fs), .pointer (some a) =>
    match fs[f]? with
    | some fd => if C.P.cellsOf fd.type = 0 then none else some (.pointer (some { a with off := a.off + fd.offset }))
    | none => none
  | _, _ => none

/-- The address of an element. -/
def indexAddrA (C : Cfg) (t : TypeId) (x i : Value) : Option Value :=
  match intOf i with
  | none => none
  | some i =>
    match C.P.underlying t, x with
    | some (.array len elem), .pointer (some a) =>
      if C.P.cellsOf elem = 0 then none else
      if 0 ≤ i ∧ i < (len : Int) then some (.pointer (some { a with off := a.off + i.toNat * C.P.cellsOf elem })) else none
    | some (.slice elem), .slice (some a) len _ =>
      if C.P.cellsOf elem = 0 then none else
      if 0 ≤ i ∧ i < (len : Int) then some (.pointer (some ⟨a.block, a.off + i.toNat * C.P.cellsOf elem, if a.spot = some 1 then some 1 else none⟩)) else none
    | _, _ => none

/-- A part of a struct or array. -/
def partA (C : Cfg) (t : TypeId) (cs : Array Value) (off : Nat) : Option Value :=
  match C.P.underlying t with
  | some (.struct _) | some (.array _ _) => some (.agg (cs.extract off (off + C.P.cellsOf t)))
  | some _ => cs[off]?
  | none => none

def fieldA (C : Cfg) (t : TypeId) (x : Value) (f : Nat) : Option Value :=
  match C.P.underlying t, x with
  | some (.struct fs), .agg cs => (fs[f]?).bind fun fd => partA C fd.type cs fd.offset
  | _, _ => none

def indexA (C : Cfg) (t : TypeId) (x i : Value) : Option Value :=
  match intOf i with
  | none => none
  | some i =>
    match C.P.underlying t, x with
    | some (.array len elem), .agg cs => if 0 ≤ i ∧ i < (len : Int) then partA C elem cs (i.toNat * C.P.cellsOf elem) else none
    | some .string, .string s => if 0 ≤ i then (s[i.toNat]?).map fun b => .int .u8 b.toNat else none
    | _, _ => none

/-- The places of a struct's or array's parts. -/
def placesOf (P : Program) (t : TypeId) : Option (Nat → Option (Nat × Nat)) :=
  match P.underlying t with
  | some (.struct fs) =>
    if fs.all fun f => (P.info? f.type).isSome then some fun i => (fs[i]?).map fun f => (f.offset, P.cellsOf f.type) else none
  | some (.array _ e) => if (P.info? e).isSome then some fun i => some (i * P.cellsOf e, P.cellsOf e) else none
  | _ => none

def buildA (C : Cfg) (t : TypeId) (parts : List (Nat × Value)) : Option Value :=
  match zeroOf C.P t, placesOf C.P t with
  | some z, some pl => (Instr.fill pl z.cells parts).map .agg
  | _, _ => none

/-- n elements of zeroes. -/
def zerosA (z : List Value) (n : Nat) : List Value := (List.replicate n z).flatten

def buildSliceA (C : Cfg) (t : TypeId) (len : Nat) (parts : List (Nat × Value)) : Option (Nat × List Value) :=
  match C.P.underlying t with
  | some (.slice e) =>
    match C.P.info? e with
    | some info =>
      if info.size = 0 ∨ len = 0 then none else
      if len * info.size > 16777216 then none else
      match zeroI info with
      | some z =>
        (Instr.fill (fun i => some (i * info.size, info.size)) (zerosA z.cells.toList len).toArray parts).map fun cs => (info.size, cs.toList)
      | none => none
    | none => none
  | _ => none

def makeSliceA (C : Cfg) (t : TypeId) (len cap : Value) (H : List HObj) : Option (List HObj × Value) :=
  match intOf len, intOf cap, C.P.underlying t with
  | some l, some c, some (.slice e) =>
    match C.P.info? e with
    | some info =>
      if info.size = 0 then none else
      match zeroI info with
      | some z =>
        if 0 ≤ l ∧ l ≤ c ∧ c ≤ 1048576 ∧ info.bytes ≤ 4096 then
          some (H ++ [.cells (zerosA z.cells.toList c.toNat) info.size true], .slice (some ⟨H.length, 0, tag info.size⟩) l.toNat (c.toNat + 1))
        else none
      | none => none
    | none => none
  | _, _, _ => none

/-- Is it nil? Of what may be nil. -/
def nilness : Value → Option Bool
  | .slice none 0 0 => some true
  | .slice (some _) _ _ => some false
  | .map none => some true
  | .map (some _) => some false
  | .nilFunc => some true
  | .func .. => some false
  | .pointer none => some true
  | .pointer (some _) => some false
  | _ => none

/-! ### Maps -/

/-- An entry's key alone. -/
def bareEntry (e : MapEntry) : MapEntry := { key := e.key, val := undef, born := 0 }

/-- Where a key stands. -/
def findA (P : Program) (kt : TypeId) (k : Value) (es : List MapEntry) : Option (Option Nat) :=
  (pev P (Instr.findKey kt k (es.map bareEntry))).map fun r => r.map (·.1)

/-- A key that may be looked up: no address, and no panic. -/
def keyOk (P : Program) (kt : TypeId) (k : Value) : Bool :=
  flat1 k && (pev P (Instr.checkKey true 10000 kt k)).isSome && (pev P (Instr.checkKey false 10000 kt k)).isSome

def entryVal (es : List MapEntry) (i : Nat) : Option Value := (es[i]?).map (·.val)

def hmap (H : List HObj) (id : Nat) : Option (List MapEntry × Nat) :=
  match H[id]? with
  | some (.map es c) => some (es, c)
  | _ => none

/-- m[k], and whether it is there. -/
def lookupA (C : Cfg) (t : TypeId) (m k : Value) (ok : Bool) (H : List HObj) : Option Value :=
  match C.P.underlying t with
  | some (.map kt et) =>
    if !keyOk C.P kt k then none else
    match zeroOf C.P et with
    | none => none
    | some z =>
      match m with
      | .map none => some (if ok then .tuple #[z, .bool false] else z)
      | .map (some id) =>
        match hmap H id with
        | none => none
        | some (es, _) =>
          match findA C.P kt k es with
          | none => none
          | some none => some (if ok then .tuple #[z, .bool false] else z)
          | some (some i) => (entryVal es i).map fun v => if ok then .tuple #[v, .bool true] else v
      | _ => none
  | _ => none

def mapUpdateA (C : Cfg) (t : TypeId) (m k v : Value) (H : List HObj) : Option (List HObj × Value) :=
  match C.P.underlying t, m with
  | some (.map kt _), .map (some id) =>
    if !(keyOk C.P kt k && noLoc v && !isTuple v) then none else
    match hmap H id with
    | none => none
    | some (es, c) =>
      match findA C.P kt k es with
      | none => none
      | some none => some (H.set id (.map (es ++ [{ key := k, val := v, born := c }]) (c + 1)), undef)
      | some (some i) =>
        if (es[i]?).all (fun e => Instr.sameBits 10000 e.key k) then some (H.set id (.map (es.modify i fun e => { e with key := k, val := v }) c), undef) else none
  | _, _ => none

def mapEntryA (C : Cfg) (t : TypeId) (m k : Value) (H : List HObj) : Option (List HObj × Value) :=
  match C.P.underlying t, m with
  | some (.map kt et), .map (some id) =>
    if !keyOk C.P kt k then none else
    match hmap H id with
    | none => none
    | some (es, c) =>
      match findA C.P kt k es with
      | none => none
      | some none =>
        match zeroOf C.P et with
        | none => none
        | some z => some (H.set id (.map (es ++ [{ key := k, val := z, born := c }]) (c + 1)), .tuple #[z, .int .i64 c])
      | some (some i) =>
        match es[i]? with
        | none => none
        | some e => if Instr.sameBits 10000 e.key k then some (H.set id (.map (es.modify i fun e => { e with key := k }) c), .tuple #[e.val, .int .i64 e.born]) else none
  | _, _ => none

def entryStoreA (m st v : Value) (H : List HObj) : Option (List HObj × Value) :=
  match m, intOf st with
  | .map (some id), some b =>
    if !noLoc v || isTuple v then none else
    match hmap H id with
    | none => none
    | some (es, c) =>
      match es.findIdx? (fun e => (e.born : Int) == b) with
      | some i => some (H.set id (.map (es.modify i fun e => { e with val := v }) c), undef)
      | none => none
  | _, _ => none

def deleteA (C : Cfg) (t : TypeId) (m k : Value) (H : List HObj) : Option (List HObj × Value) :=
  match C.P.underlying t with
  | some (.map kt _) =>
    if !keyOk C.P kt k then none else
    match m with
    | .map none => some (H, undef)
    | .map (some id) =>
      match hmap H id with
      | none => none
      | some (es, c) =>
        match findA C.P kt k es with
        | none => none
        | some none => some (H, undef)
        | some (some i) => some (H.set id (.map (es.eraseIdx i) c), undef)
    | _ => none
  | _ => none

/-! ### One operation -/

def keyOf (pts : List Nat) : Operand → Nat
  | .tmp t => pts.getD t 0
  | .global _ => 1
  | _ => 0

/-- A pointer into the abstract heap. -/
def heapPtr : Value → Option (Nat × Nat)
  | .pointer (some a) => if a.spot.isNone then some (a.block, a.off) else none
  | _ => none
def globPtr : Value → Option (Nat × Nat)
  | .pointer (some a) => if a.spot = some 1 then some (a.block, a.off) else none
  | _ => none
def locPtr (s : Nat) : Value → Option Nat
  | .pointer (some a) => if a.spot = some 0 ∧ a.block = s then some a.off else none
  | _ => none

def loadEff (C : Cfg) (pts : List Nat) (t : TypeId) (a : Operand) (v : Value) : Option Eff :=
  match keyOf pts a with
  | 0 => (heapPtr v).map fun p => .hget fun H => (hcells H p.1).bind fun vs => readVar C.P t vs p.2
  | 1 => (globPtr v).bind fun p => ((C.G p.1).bind fun vs => readVar C.P t vs p.2).map .val
  | s + 2 => (locPtr s v).map fun off => .lget s fun vs => readVar C.P t vs off

def hstoreA (C : Cfg) (t : TypeId) (id off : Nat) (x : Value) (H : List HObj) : Option (List HObj × Value) :=
  match H[id]? with
  | some (.cells vs e true) => (writeVar C.P t x vs off).map fun vs' => (H.set id (.cells vs' e true), undef)
  | _ => none

def storeEff (C : Cfg) (pts : List Nat) (t : TypeId) (a : Operand) (v x : Value) : Option Eff :=
  if isTuple x then none else
  match keyOf pts a with
  | 0 => (heapPtr v).map fun p => .hop (hstoreA C t p.1 p.2 x)
  | 1 => none
  | s + 2 => (locPtr s v).map fun off => .lset s fun vs => writeVar C.P t x vs off

/-- The cells of one element, of a row that holds one variable. -/
def rowSize (P : Program) (t : TypeId) : Nat :=
  match P.underlying t with
  | some (.array _ e) => P.cellsOf e
  | _ => P.cellsOf t

def newVarEff (C : Cfg) (pts : List Nat) (dst : Option Tmp) (t : TypeId) (v : Value) : Option Eff :=
  if isTuple v then none else
  match dst with
  | none => none
  | some d =>
    if !(v.cells.toList.all cellOk) then none
    else if pts.getD d 0 = d + 2 then some (.lnew d v.cells.toList)
    else
      some (.hop fun H => some (H ++ [.cells v.cells.toList (rowSize C.P t) true], .pointer (some ⟨H.length, 0, none⟩)))

/-- The generic pure operation: no operand bears an address, no memory is met. -/
def pureEff (C : Cfg) (ρ : Operand → Value) (o : Oper) : Option Eff :=
  if o.op.operands.toList.all (fun x => flat (ρ x)) then
    match pev C.P (execOp ρ o) with
    | some (.value v) => if flat v then some (.val v) else none
    | _ => none
  else none

def orElse (a : Option Value) (b : Option Eff) : Option Eff :=
  match a with
  | some v => some (.val v)
  | none => b

/-- The comparison of what may be nil with nil. -/
def nilEq (x y : Value) : Option Bool :=
  match nilness x, nilness y with
  | some true, some b => some b
  | some b, some true => some b
  | _, _ => none

def nilKind : Value → Nat
  | .slice .. => 1
  | .map _ => 2
  | .nilFunc => 3
  | .func .. => 3
  | .pointer _ => 4
  | _ => 0

def nilType : TypeDesc → Nat
  | .slice _ => 1
  | .map _ _ => 2
  | .func .. => 3
  | .pointer _ => 4
  | _ => 100
def nilOk (P : Program) (t : TypeId) (x y : Value) : Bool :=
  match P.underlying t with
  | some d => nilType d == nilKind x && nilType d == nilKind y
  | none => false

def copyA (C : Cfg) (t : TypeId) (d x : Value) (H : List HObj) : Option (List HObj × Value) :=
  match C.P.underlying t, d with
  | some (.slice e), .slice none 0 0 => if C.P.cellsOf e = 0 then none else (cellsOfVal C H (C.P.cellsOf e) x).map fun _ => (H, .int .i64 0)
  | some (.slice e), .slice (some a) dlen _ =>
    if C.P.cellsOf e = 0 then none else
    if a.spot ≠ tag (C.P.cellsOf e) then none else
    match cellsOfVal C H (C.P.cellsOf e) x, H[a.block]? with
    | some (new, n), some (.cells vs esz true) =>
      if esz ≠ C.P.cellsOf e then none else
      (splice vs a.off (new.take (Nat.min n dlen * C.P.cellsOf e))).map fun vs' => (H.set a.block (.cells vs' esz true), .int .i64 (Nat.min n dlen))
    | _, _ => none
  | _, _ => none

def builtinEff (C : Cfg) (ρ : Operand → Value) (b : Builtin) (args : List Value) (argTypes : Array TypeId) (o : Oper) : Option Eff :=
  match b, args, argTypes[0]? with
  | .append, [s, x], some t => if argTypes[1]?.any (fun u => (C.P.underlying u) matches some (.int _) | none) || argTypes[1]?.isNone then none else some (.hop (appendA C t s x))
  | .len, [x], some t =>
    match C.P.underlying t, x with
    | some (.slice _), .slice _ n _ => some (.val (.int .i64 n))
    | some (.map _ _), .map (some id) => some (.hget fun H => (hmap H id).map fun p => .int .i64 p.1.length)
    | some (.array n _), _ => some (.val (.int .i64 n))
    | _, _ => pureEff C ρ o
  | .cap, [x], some t =>
    match C.P.underlying t, x with
    | some (.slice _), .slice (some _) _ (n + 1) => some (.val (.int .i64 n))
    | some (.slice _), .slice none 0 0 => some (.val (.int .i64 0))
    | some (.array n _), _ => some (.val (.int .i64 n))
    | _, _ => none
  | .copy, [d, x], some t => some (.hop (copyA C t d x))
  | .delete, [m, k], some t => some (.hop (deleteA C t m k))
  | _, _, _ => pureEff C ρ o

def callEff (C : Cfg) (ρ : Operand → Value) (c : Call) (o : Oper) : Option Eff :=
  let args := c.args.toList.map ρ
  match c.callee with
  | .builtin b => builtinEff C ρ b args c.argTypes o
  | .invoke _ _ => none
  | .value f =>
    if !(args.all noLoc) then none else
    match ρ f with
    | .func (.func g) first cap => if noLoc (.func (.func g) first cap) then some (.call g (first.toList ++ args ++ cap.toList)) else none
    | .func (.yield l) first cap => if first.size = 0 ∧ cap.size = 0 then some (.yield l args) else none
    | _ => none

def hintOk (C : Cfg) (t : TypeId) : Option Value → Bool
  | none => true
  | some v => (intOf v).isSome && ((C.P.underlying t) matches some (.map _ _))

def effOf (C : Cfg) (pts : List Nat) (ρ : Operand → Value) (o : Oper) : Option Eff :=
  match o.op with
  | .move x => some (.val (ρ x))
  | .assign x => some (.val (ρ x))
  | .pick c a b => match ρ c with
    | .bool q => some (.val (if q then ρ a else ρ b))
    | _ => none
  | .alloc t => (zeroOf C.P t).bind fun z => newVarEff C pts o.dst t z
  | .box t x => newVarEff C pts o.dst t (ρ x)
  | .build t ps => if ps.toList.all (fun p => !isTuple (ρ p.2)) then (buildA C t (ps.toList.map fun p => (p.1, ρ p.2))).map .val else none
  | .buildSlice t n ps =>
    if (ps.toList.all fun p => (ρ p.2).cells.toList.all cellOk) then
      (buildSliceA C t n (ps.toList.map fun p => (p.1, ρ p.2))).map fun r =>
        .hop fun H => some (H ++ [.cells r.2 r.1 true], .slice (some ⟨H.length, 0, tag r.1⟩) n (n + 1))
    else none
  | .load t a => loadEff C pts t a (ρ a)
  | .store t a x => storeEff C pts t a (ρ a) (ρ x)
  | .nilCheck x => match ρ x with
    | .pointer (some a) => some (.val (.pointer (some a)))
    | .func (.func f) a b => some (.val (.func (.func f) a b))
    | .func (.yield f) a b => some (.val (.func (.yield f) a b))
    | _ => none
  | .binOp op t x y _ =>
    match op with
    | .eql => match nilEq (ρ x) (ρ y) with
      | some b => if nilOk C.P t (ρ x) (ρ y) then some (.val (.bool b)) else none
      | none => pureEff C ρ o
    | .neq => match nilEq (ρ x) (ρ y) with
      | some b => if nilOk C.P t (ρ x) (ρ y) then some (.val (.bool !b)) else none
      | none => pureEff C ρ o
    | _ => pureEff C ρ o
  | .makeFunc fn first cap => match fn with
    | .yield _ => none
    | fn => some (.val (.func fn (first.map ρ) (cap.map ρ)))
  | .makeMap t r =>
    if hintOk C t (r.map ρ) then
      some (.hop fun H => some (H ++ [.map [] 0], .map (some H.length)))
    else none
  | .makeSlice t l c => some (.hop (makeSliceA C t (ρ l) (ρ c)))
  | .slice t x lo hi mx =>
    match ρ x with
    | .pointer (some a) =>
      if a.spot = some 1 then (sliceArr C t a (lo.map ρ) (hi.map ρ) (mx.map ρ) []).map .val
      else some (.hget (sliceArr C t a (lo.map ρ) (hi.map ρ) (mx.map ρ)))
    | x => orElse (sliceA C t x (lo.map ρ) (hi.map ρ) (mx.map ρ)) (pureEff C ρ o)
  | .fieldAddr t x f => (fieldAddrA C t (ρ x) f).map .val
  | .indexAddr t x i => (indexAddrA C t (ρ x) (ρ i)).map .val
  | .field t x f => (fieldA C t (ρ x) f).map .val
  | .index t x i => (indexA C t (ρ x) (ρ i)).map .val
  | .lookup t m k ok => match ρ m with
    | .map none => (lookupA C t (.map none) (ρ k) ok []).map .val
    | m => some (.hget (lookupA C t m (ρ k) ok))
  | .mapUpdate t m k v => some (.hop (mapUpdateA C t (ρ m) (ρ k) (ρ v)))
  | .insert t m k v => some (.hop (mapUpdateA C t (ρ m) (ρ k) (ρ v)))
  | .mapEntry t m k => some (.hop (mapEntryA C t (ρ m) (ρ k)))
  | .entryStore _ m s v => some (.hop (entryStoreA (ρ m) (ρ s) (ρ v)))
  | .extract t i => match ρ t with
    | .tuple vs => if vs.size ≤ 1 then none else (vs[i]?).map .val
    | _ => none
  | .call c => callEff C ρ c o
  | .unOp .. => pureEff C ρ o
  | .convert .. => pureEff C ρ o
  | _ => none

theorem all_get {α : Type} {f : α → Bool} {l : List α} (h : l.all f = true) {i : Nat} {x : α} (hx : l[i]? = some x) : f x = true :=
  List.all_eq_true.1 h x (List.mem_of_getElem? hx)

theorem cells_of_oneCell {c : Value} (h : oneCell c = true) : c.cells = #[c] := by
  cases c <;> first | rfl | (simp [oneCell] at h)

end Go.Am
