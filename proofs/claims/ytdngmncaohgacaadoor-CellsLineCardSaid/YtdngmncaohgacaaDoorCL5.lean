/-
  PART 5 OF THE PROOF: Sx12 Sx13 Px1 Px2 Pq Gp C1 C2 C3 Gr Lv Lv3 Pb L9 Cd1 Cd2 (no conditions).
-/
import Derived.Test.YtdngmncaohgacaaDoorCL4
import Derived.Calls
import Derived.LaidMore
import Derived.MakeChecks
import Derived.OpenShut
import Derived.ProofKit
import Derived.SevenTiedAt
import Derived.Stop.Joined
import Derived.Test.YtdngmncaohgacaaDoorCards
import Derived.Test.YtdngmncaohgacaaDoorRows
import Derived.Test.YtdngmncaohgacaaDoorTie
import GoSem.ClaimJoined
set_option linter.unusedSectionVars false
set_option linter.unusedSimpArgs false
set_option linter.unusedVariables false
set_option linter.constructorNameAsVariable false
set_option linter.defProp false
/-
  WHAT THE PACKAGE-LEVEL VARIABLES HOLD, read off the row's list; a call as the row sees it.
-/
namespace Go.Am
namespace Sx

/-- The cells of a datum of numbers, truth values, structs and arrays. -/
def unL (P : Program) (un : TypeId → DataW Unit → Option (List Value)) : List (Nat × TypeId) → List (DataW Unit) → Nat → Option (List Value)
  | [], [], _ => some []
  | (o, t) :: l, d :: ds, off => match Nat.beq o off, un t d with
    | true, some v => match Nat.beq v.length (P.cellsOf t), unL P un l ds (off + v.length) with
      | true, some vs => some (v ++ vs)
      | _, _ => none
    | _, _ => none
  | _, _, _ => none
def unD (P : Program) : Nat → TypeId → DataW Unit → Option (List Value)
  | 0, _, _ => none
  | fu + 1, t, d => match P.underlying t, d with
    | some .bool, .lit (.bool b) => some [.bool b]
    | some (.int k), .lit (.int _ n) => some [.int k n]
    | some (.struct fs), .agg ds => match unL P (unD P fu) (fs.toList.map fun f => (f.offset, f.type)) ds 0 with
      | some vs => if vs.length = P.cellsOf t then some vs else none
      | none => none
    | some (.array n e), .agg ds => match unL P (unD P fu) ((List.range n).map fun i => (i * P.cellsOf e, e)) ds 0 with
      | some vs => if vs.length = P.cellsOf t then some vs else none
      | none => none
    | _, _ => none

section
variable {P : Program} {w : World} {base : Nat} {spare : Nat → Bool} {held : Bool} {enc : TypeId × Value → Unit}

theorem seg_ok {un : TypeId → DataW Unit → Option (List Value)} {fuel : Nat} (hun : ∀ t d vs, un t d = some vs → ∀ cs p, DataW.trod enc P w base spare held fuel t cs = some (d, p) → cs = vs) {α : Type} (o : α → Nat) (ty : α → TypeId) (cs : List Value) :
    ∀ (l : List α) (xs : List (DataW Unit × List MemPlace)) (off : Nat) (vs : List Value), l.mapM (fun a => DataW.trod enc P w base spare held fuel (ty a) ((cs.drop (o a)).take (P.cellsOf (ty a)))) = some xs →
      unL P un (l.map fun a => (o a, ty a)) (xs.map (·.1)) off = some vs → (cs.drop off).take vs.length = vs
  | [], xs, off, vs, h1, h2 => by
    simp only [List.mapM_nil, Option.pure_def, Option.some.injEq] at h1
    subst h1
    simp only [List.map_nil, unL, Option.some.injEq] at h2
    subst h2
    simp
  | a :: l, xs, off, vs, h1, h2 => by
    rw [List.mapM_cons] at h1
    obtain ⟨x, h3, h1⟩ := Option.bind_eq_some_iff.1 h1
    obtain ⟨ys, h4, h1⟩ := Option.bind_eq_some_iff.1 h1
    cases h1
    simp only [List.map_cons, unL] at h2
    split at h2
    · rename_i v e1 e2
      split at h2
      · rename_i ws e3 e4
        cases h2
        have e1 := Nat.eq_of_beq_eq_true e1
        have e3 := Nat.eq_of_beq_eq_true e3
        have hv := hun _ _ _ e2 _ _ h3
        have ih := seg_ok hun o ty cs l ys _ _ h4 e4
        rw [e1, ← e3] at hv
        rw [List.length_append, List.take_add, hv, List.drop_drop]
        rw [ih]
      · cases h2
    · cases h2

theorem unD_ok : ∀ (fu : Nat) (t : TypeId) (d : DataW Unit) (vs : List Value), unD P fu t d = some vs → ∀ (fuel : Nat) (cs : List Value) (p : List MemPlace), DataW.trod enc P w base spare held fuel t cs = some (d, p) → cs = vs
  | 0, _, _, _, h => by cases h
  | fu + 1, t, d, vs, h => by
    intro fuel cs p hp
    cases fuel with
    | zero => simp [DataW.trod] at hp
    | succ fuel =>
      have hun : ∀ t d vs, unD P fu t d = some vs → ∀ cs p, DataW.trod enc P w base spare held fuel t cs = some (d, p) → cs = vs := fun t d vs h cs p => unD_ok fu t d vs h fuel cs p
      simp only [unD] at h
      split at h
      · rename_i b e
        cases h
        simp only [DataW.trod, e] at hp
        split at hp <;> simp_all
      · rename_i k k' n e
        cases h
        simp only [DataW.trod, e] at hp
        split at hp <;> first | cases hp | skip
        all_goals first
          | (split at hp
             · rename_i hh; simp at hp; obtain ⟨⟨rfl, rfl⟩, _⟩ := hp; rw [hh.1]
             · cases hp)
          | simp_all
      · rename_i fs ds e
        split at h
        · rename_i ws e2
          split at h
          · rename_i e3
            cases h
            simp only [DataW.trod, e] at hp
            split at hp
            · rename_i e4
              obtain ⟨xs, h5, h6⟩ := Option.map_eq_some_iff.1 hp
              simp only [Prod.mk.injEq, DataW.agg.injEq] at h6
              rw [← h6.1] at e2
              have := seg_ok hun (fun f : Field => f.offset) (fun f : Field => f.type) cs _ xs 0 _ h5 e2
              rw [List.drop_zero, List.take_of_length_le (by omega)] at this
              exact this
            · cases hp
          · cases h
        · cases h
      · rename_i n el ds e
        split at h
        · rename_i ws e2
          split at h
          · rename_i e3
            cases h
            simp only [DataW.trod, e] at hp
            split at hp
            · rename_i e4
              obtain ⟨xs, h5, h6⟩ := Option.map_eq_some_iff.1 hp
              simp only [Prod.mk.injEq, DataW.agg.injEq] at h6
              rw [← h6.1] at e2
              have := seg_ok hun (fun i => i * P.cellsOf el) (fun _ => el) cs _ xs 0 _ h5 e2
              rw [List.drop_zero, List.take_of_length_le (by omega)] at this
              exact this
            · cases hp
          · cases h
        · cases h
      · cases h

end

section
variable [Val]

/-- A call, as the row sees it. -/
theorem calls_of_ok {C : Cfg} {f : FuncId} {args : List Value} {r : Value} {H' : List HObj} (h : CallOk C f args [] r H') {args' : Array Value} {W : World} (ha : args.all flat = true) (hargs : args'.toList = args) (hr : flat r = true)
    (hG : ∀ g vs, C.G g = some vs → g < W.heap.size ∧ vs.all cellOk = true ∧ vs.all flat = true ∧ ∃ c e fr, W.heap[g]? = some (.cells c e fr) ∧ c.toList = vs) :
    Calls C.P f args' W fun e W' => e = .returned r ∧ W'.os = W.os ∧ W'.output = W.output ∧ W'.tape = W.tape ∧ ∀ b, b < W.heap.size → W'.heap[b]? = W.heap[b]? := by
  have hW0 : WR C W.heap.size (fun _ => none) [] W := by
    refine ⟨fun id o h => by simp at h, fun i j oi oj pi pj h => by simp at h, fun i o p h => by simp at h, fun i o p h => by simp at h, fun _ _ => rfl, fun g vs hg => ?_⟩
    obtain ⟨h1, h2, h3, c, e, fr, h4, h5⟩ := hG g vs hg
    refine ⟨h1, h2, c, e, fr, h4, ?_⟩
    rw [h5]
    exact ⟨rfl, fun i x y hx hy => by rw [hx] at hy; cases hy; exact .of_flat (List.all_eq_true.1 h3 x (List.mem_of_getElem? hx))⟩
  have hV : VRs noL (fun _ => none) args args'.toList := by
    rw [hargs]
    exact ⟨rfl, fun i x y hx hy => by rw [hx] at hy; cases hy; exact .of_flat (List.all_eq_true.1 ha x (List.mem_of_getElem? hx))⟩
  obtain ⟨v, mu', w', a1, a2, a3, _, a5⟩ := h W.heap.size (fun _ => none) W args' (Nat.le_refl _) hV hW0
  rw [flat_eq hr a1] at a5
  intro cs
  obtain ⟨fr, b1, b2, b3⟩ := a5 cs
  exact ⟨.returned r, w', fr, ⟨rfl, a3.os, a3.output, a3.tape, fun b hb => a3.keep b hb no_own⟩, b1, b2, b3⟩

end
end Sx
end Go.Am

/-
  FROM A CALL TO THE ROW: arguments without addresses.
-/
namespace Go.Am
namespace Sx
open Go.ChangeShapes Go.WideShapes Go.ChangeAt Go.WideMaps Go.WideElems Go.RowKit

theorem kept_of {W W' : World} (h1 : W'.os = W.os) (h2 : W'.output = W.output) (h3 : ∀ b, b < W.heap.size → W'.heap[b]? = W.heap[b]?) (may : MemPlace → Prop) : W.keptBut W' may := by
  refine ⟨h1, h2, fun i hi => ?_⟩
  rw [h3 i hi]
  exact (World.keptBut_refl W may).2.2 i hi

theorem post_flat {H : Type} {enc : TypeId × Value → H} {P : Program} {f : Func} {s : ChangeSpec} {apart fresh handsOn again : Bool} {W W' : World} {args : Array Value} {v : Value} {ds gs : List (DataW H)}
    (hW : DataW.Whole enc P f.params.toList s.vars apart W args.toList ds gs [])
    (hres : ∀ (b : Nat) (sp : Nat → Bool) (hd : Bool), DataW.TrodAll enc P W' b sp hd f.resultTypes.toList (v.resultList f.resultTypes.size) (s.fn H (ds ++ gs)).results [])
    (hargs : ∀ sp : Nat → Bool, DataW.TrodAll enc P W' 0 sp true f.params.toList args.toList (s.fn H (ds ++ gs)).args [])
    (hvars : ∀ sp : Nat → Bool, DataW.TrodVars enc P W' sp s.vars (s.fn H (ds ++ gs)).vars [])
    (h1 : W'.os = W.os) (h2 : W'.output = W.output) (h3 : ∀ b, b < W.heap.size → W'.heap[b]? = W.heap[b]?)
    (hok : ∀ (j : Nat) (t : TypeId) (r : Value), f.resultTypes[j]? = some t → (v.resultList f.resultTypes.size)[j]? = some r → Value.okWide P W' .any 0 t r) :
    s.post enc P f apart fresh handsOn again W args v W' := by
  refine ⟨ds, gs, [], [], [], [], hW, hres _ _ _, hargs _, hvars _, kept_of h1 h2 h3 _, fun _ => ?_⟩
  refine ⟨hok, _, _, [], ⟨[], [], trodAll_append (hargs _) (hres _ _ _), hvars _, rfl, ?_, ?_⟩, ?_⟩
  · intro b off hp; cases hp
  · intro _; exact List.nodup_nil
  · intro p hp; cases hp

/-- A variable that is listed. -/
theorem laid_cells {P : Program} {w : World} {laid : List (String × DataW Unit)} {ps : List MemPlace} (h : DataW.LaidVars P w laid ps) : ∀ n d, (n, d) ∈ laid → ∀ g t fu vs, P.globalNamed n = some g → (P.globals[g]?).map (·.type) = some t → unD P fu t d = some vs →
    ∃ c e fr, w.heap[g]? = some (.cells c e fr) ∧ c.toList = vs := by
  induction laid generalizing ps with
  | nil => intro n d h; cases h
  | cons x l ih =>
    obtain ⟨n0, d0⟩ := x
    obtain ⟨g0, t0, cs, fuel, p, q, a1, a2, a3, a4, a5, a6⟩ := h
    intro n d hm g t fu vs b1 b2 b3
    rcases List.mem_cons.1 hm with e | hm
    · cases e
      rw [a1] at b1; cases b1
      rw [a2] at b2; cases b2
      have hc := unD_ok fu _ _ vs b3 _ _ _ a4
      unfold World.var? at a3
      rw [a1] at a3
      simp only [Option.bind_some] at a3
      split at a3
      · rename_i c ty fr e
        cases a3
        exact ⟨_, _, _, e, hc⟩
      · cases a3
    · exact ih a5 n d hm g t fu vs b1 b2 b3

section
variable [Val] [Kno]
/-- A closed function that says true. -/
theorem closed_true {C : Cfg} {Sg : FuncId → Option Sig} {T : Nat → Site} {call : CallB} (hc : CallBOk C Sg T call) {g : FuncId} (hs : Sg g = some ⟨[], [.leaf .b]⟩) (h : call (.f g) [] [] (fun l _ => match l with | [.b t] => t | _ => false) = true) :
    ∃ H', uCall C g [] [] (.bool true) H' := by
  obtain ⟨rs, h', ⟨sg, xs, ys, c1, c2, c3, c4⟩, hk⟩ := hc.f g [] [] _ (fun _ h => by cases h) h
  rw [hs] at c1
  cases c1
  have hx : xs = [] := by
    have := c2.1
    cases xs with
    | nil => rfl
    | cons x l => cases this
  subst hx
  obtain ⟨d1, d2, _⟩ := c3
  obtain ⟨y, rfl⟩ : ∃ y, ys = [y] := List.length_eq_one_iff.1 (areIs_length d1)
  · simp only [areIs, Bool.and_true] at d1
    cases y with
    | agg _ => cases d1
    | leaf l =>
      cases l with
      | b t =>
        simp only [lfsOf, S0.cells, List.map_cons, SL.lf, List.map_nil, List.append_nil] at d2
        subst d2
        have hk : t = true := hk
        subst hk
        exact ⟨_, c4⟩
      | l t =>
        simp only [lfsOf, S0.cells, List.map_cons, SL.lf, List.map_nil, List.append_nil] at d2
        subst d2
        have hk : t = true := hk
        subst hk
        exact ⟨_, c4⟩
      | i _ _ => cases d1
      | v _ => cases d1
end
end Sx
end Go.Am

/-
  THE ALGEBRA OF PROPOSITIONS: what must hold, that code does as it is told to do.
-/
namespace Go.Am
def LK.plain : LK → Bool
  | .v => false
  | _ => true
def SK.plain : SK → Bool
  | .leaf k => k.plain
  | .agg ks => ks.all LK.plain
def Sig.plain (s : Sig) : Bool := s.ps.all SK.plain && s.rs.all SK.plain
namespace Sx

section
variable [Val] [Kno]

abbrev HO' := List HObj
def condP (b : Bool) (x y : Prop) : Prop := (b = true → x) ∧ (b = false → y)
def ariP (op : BinOp) (k : IntKind) (a b : Int) (K : Int → Prop) : Prop :=
  match op with
  | .add => K (k.wrap (a + b))
  | .sub => K (k.wrap (a - b))
  | .mul => K (k.wrap (a * b))
  | .quo => b ≠ 0 ∧ K (k.wrap (a.tdiv b))
  | .rem => b ≠ 0 ∧ K (a.tmod b)
  | .and => (b = 1 ∧ K (a % 2)) ∨ (b ≠ 1 ∧ ∃ n, ArRun .and k a b n ∧ K n)
  | op => ∃ n, ArRun op k a b n ∧ K n
def cmpP (op : BinOp) (a b : Int) (K : Bool → Prop) : Prop :=
  match op with
  | .eql => K (a == b)
  | .neq => K (a != b)
  | .lss => K (decide (a < b))
  | .leq => K (decide (a ≤ b))
  | .gtr => K (decide (a > b))
  | .geq => K (decide (a ≥ b))
  | _ => False
def optP {α : Type} (o : Option α) (K : α → Prop) : Prop := ∃ x, o = some x ∧ K x
def unIP (ls : List Lf) (K : Int → List Lf → Prop) : Prop := match ls with | .i n :: r => K n r | _ => False
def unBP (ls : List Lf) (K : Bool → List Lf → Prop) : Prop := match ls with | .b n :: r => K n r | _ => False
def unVP (ls : List Lf) (K : Value → List Lf → Prop) : Prop := match ls with | .v n :: r => K n r | _ => False
def un0P (ls : List Lf) (K : Prop) : Prop := match ls with | [] => K | _ => False
def ucIP (k : IntKind) (ls : List Value) (K : Int → List Value → Prop) : Prop := match ls with | .int k' n :: r => k = k' ∧ K n r | _ => False
def ucBP (ls : List Value) (K : Bool → List Value → Prop) : Prop := match ls with | .bool n :: r => K n r | _ => False
def ucVP (ls : List Value) (K : Value → List Value → Prop) : Prop := match ls with | n :: r => K n r | _ => False
def uc0P (ls : List Value) (K : Prop) : Prop := match ls with | [] => K | _ => False
def getL (h : List HObj) : Getter := fun i => h[i]?
def peekP (f : Getter → Option (List Value)) (h : List HObj) (K : List Value → Prop) : Prop := ∃ cs, f (getL h) = some cs ∧ K cs
def heapP (f : Getter → Nat → Option (List Act1 × List Value)) (h : List HObj) (K : List Value → List HObj → Prop) : Prop := ∃ acts cs, f (getL h) h.length = some (acts, cs) ∧ K cs (actsOn h acts)
def callP (C : Cfg) (Sg : FuncId → Option Sig) (g : FuncId) (ls : List Lf) (h : List HObj) (K : List Lf → List HObj → Prop) : Prop := ∃ rs h', CallL C Sg g ls h rs h' ∧ K rs h'
def callvP (C : Cfg) (v : Value) (args : List Value) (hs : List SK) (h : List HObj) (K : List Lf → List HObj → Prop) : Prop := ∃ rs h', CallV C v args hs h rs h' ∧ K rs h'
def itP (F : (List Lf → List HObj → Prop) → List Lf → List HObj → Prop) (n : Nat) : List Lf → List HObj → Prop :=
  match n with
  | 0 => fun _ _ => False
  | n + 1 => F (itP F n)
def loopP (F : (List Lf → List HObj → Prop) → List Lf → List HObj → Prop) (ls : List Lf) (h : List HObj) : Prop := ∃ n, itP F n ls h
def rfunP (C : Cfg) (T : Nat → Site) (κ : Nat) (v : Value) (vals : List Value) (h : List HObj) (K : Option Code → List HObj → Prop) : Prop :=
  ∃ g first cap r H1 lp, v = .func (.func g) first cap ∧
    uCall C g (first.toList ++ [.func (.yield h.length) #[] #[]] ++ cap.toList) (h ++ [.loop (lpOf (T κ) κ vals)]) r H1 ∧
    hloop H1 h.length = some lp ∧ lp.state ≠ .busy ∧ K lp.pending (H1.set h.length (.loop { lp with state := .exhausted }))
def pendP (pd : Option Code) (kn kr : Prop) (ks : List (Nat × Prop)) : Prop :=
  match pd with
  | none => kn
  | some .ret => kr
  | some (.exit id) => ∃ x, (id, x) ∈ ks ∧ x
  | _ => False
def lp1P (l : Nat) (h : List HObj) (K : List HObj → Prop) : Prop := ∃ lp, hloop h l = some lp ∧ lp.state = .ready ∧ K (h.set l (.loop { lp with state := .busy }))
def lp2P (l : Nat) (j : Option Code) (h : List HObj) (K : List HObj → Prop) : Prop := ∃ lp, hloop h l = some lp ∧ K (h.set l (.loop { lp with state := if j.isNone then .ready else .done, pending := j }))

def PA (C : Cfg) (Sg : FuncId → Option Sig) (T : Nat → Site) : Alg Prop (List HObj) where
  fail := False
  cond := condP
  ari := ariP
  shf := fun op k a k' b K => ∃ n, ShRun op k a k' b n ∧ K n
  cmp := cmpP
  eqs := fun l K => K (eqAll l)
  conv := fun k a K => K (k.wrap a)
  sel := fun t a b K => K (if t then a else b)
  opt := optP
  chk := fun v K => goodV v = true ∧ K
  unI := unIP
  unB := unBP
  unV := unVP
  un0 := un0P
  ucI := ucIP
  ucB := ucBP
  ucV := ucVP
  uc0 := uc0P
  peek := peekP
  heap := heapP
  new := fun o h K => K h.length (h ++ [o])
  call := callP C Sg
  callv := callvP C
  join := fun b m => m b
  loop := loopP
  rfun := rfunP C T
  pend := pendP
  lp1 := lp1P
  lp2 := lp2P

theorem PA_ok (C : Cfg) (Sg : FuncId → Option Sig) (T : Nat → Site) : AlgOk (PA C Sg T) C Sg T id id where
  fail := fun h => h
  cond := by
    intro b x y h
    cases b
    · exact .inr ⟨rfl, h.2 rfl⟩
    · exact .inl ⟨rfl, h.1 rfl⟩
  ari := by
    intro op k a b K h
    have h : ariP op k a b K := h
    cases op <;> simp only [ariP] at h
    · exact ⟨_, fun P t w => by simp [binOp, Op.intArith], h⟩
    · exact ⟨_, fun P t w => by simp [binOp, Op.intArith], h⟩
    · exact ⟨_, fun P t w => by simp [binOp, Op.intArith], h⟩
    · obtain ⟨hb, h⟩ := h
      exact ⟨_, fun P t w => by simp [binOp, Op.intDiv, hb], h⟩
    · obtain ⟨hb, h⟩ := h
      exact ⟨_, fun P t w => by simp [binOp, Op.intDiv, hb], h⟩
    · rcases h with ⟨rfl, h'⟩ | ⟨_, n, h1, h2⟩
      · exact ⟨_, run_and_one rfl, h'⟩
      · exact ⟨n, h1, h2⟩
    all_goals exact h
  shf := fun op k a k' b K h => h
  cmp := by
    intro op a b K h
    have h : cmpP op a b K := h
    cases op <;> simp only [cmpP] at h <;> exact ⟨_, rfl, h⟩
  eqs := fun l K h => h
  conv := fun k a K h => h
  sel := fun t a b K h => h
  opt := fun o K h => h
  chk := fun v K h => h
  unI := by
    intro ls K h
    match ls, h with
    | .i n :: r, h => exact ⟨n, r, rfl, h⟩
  unB := by
    intro ls K h
    match ls, h with
    | .b n :: r, h => exact ⟨n, r, rfl, h⟩
  unV := by
    intro ls K h
    match ls, h with
    | .v n :: r, h => exact ⟨n, r, rfl, h⟩
  un0 := by
    intro ls K h
    match ls, h with
    | [], h => exact ⟨rfl, h⟩
  ucI := by
    intro k ls K h
    match ls, h with
    | .int k' n :: r, h =>
      obtain ⟨rfl, h⟩ : k = k' ∧ K n r := h
      exact ⟨n, r, rfl, h⟩
  ucB := by
    intro ls K h
    match ls, h with
    | .bool n :: r, h => exact ⟨n, r, rfl, h⟩
  ucV := by
    intro ls K h
    match ls, h with
    | n :: r, h => exact ⟨n, r, rfl, h⟩
  uc0 := by
    intro ls K h
    match ls, h with
    | [], h => exact ⟨rfl, h⟩
  peek := fun f h K hk => hk
  heap := by
    intro f h K hk
    obtain ⟨acts, cs, h1, h2⟩ := hk
    exact ⟨acts, cs, _, h1, rfl, h2⟩
  new := fun o h K hk => ⟨_, rfl, hk⟩
  call := fun g ls h K hk => hk
  callv := fun v args hs h K hk => hk
  join := fun b m h => h
  loop := by
    intro F ls h hk
    obtain ⟨n, hk⟩ := hk
    exact ⟨itP F, fun ls h => (id : False → False), fun n ls h => rfl, n, hk⟩
  rfun := by
    intro κ v vals h K hk
    obtain ⟨g, first, cap, r, H1, lp, h1, h2, h3, h4, h5⟩ := hk
    exact ⟨g, first, cap, r, H1, lp, _, h1, h2, h3, h4, rfl, h5⟩
  pend := by
    intro pd kn kr ks h
    have h : pendP pd kn kr ks := h
    unfold pendP at h
    split at h
    · exact .inl ⟨rfl, h⟩
    · exact .inr (.inl ⟨rfl, h⟩)
    · obtain ⟨x, h1, h2⟩ := h
      exact .inr (.inr ⟨_, x, rfl, h1, h2⟩)
    · exact h.elim
  lp1 := by
    intro l h K hk
    obtain ⟨lp, h1, h2, h3⟩ := hk
    exact ⟨lp, _, h1, h2, rfl, h3⟩
  lp2 := by
    intro l j h K hk
    obtain ⟨lp, h1, h2⟩ := hk
    exact ⟨lp, _, h1, rfl, h2⟩

/-! ### Calls that leave nothing behind -/


theorem SL.plain_scalar {l : SL} {k : LK} (h : l.is k = true) (hk : k.plain = true) : scalar l.val = true := by
  cases l <;> cases k <;> first | (cases hk; done) | (cases h; done) | rfl
theorem allIs_scalar : ∀ {cs : List SL} {ks : List LK}, allIs cs ks = true → ks.all LK.plain = true → (cs.map SL.val).all scalar = true
  | [], [], _, _ => rfl
  | c :: cs, k :: ks, h, hk => by
    simp only [allIs, Bool.and_eq_true] at h
    simp only [List.all_cons, Bool.and_eq_true] at hk
    simp only [List.map_cons, List.all_cons, Bool.and_eq_true]
    exact ⟨SL.plain_scalar h.1 hk.1, allIs_scalar h.2 hk.2⟩
  | [], _ :: _, h, _ => by cases h
  | _ :: _, [], h, _ => by cases h
theorem S0.plain_flat1 {x : S0} {k : SK} (h : x.is k = true) (hk : k.plain = true) : flat1 x.val = true := by
  cases x with
  | leaf l =>
    cases k with
    | leaf k =>
      have := SL.plain_scalar h hk
      show flat1 l.val = true
      cases hv : l.val <;> rw [hv] at this <;> first | exact this | cases this
    | agg _ => cases h
  | agg cs =>
    cases k with
    | leaf k => cases h
    | agg ks => exact allIs_scalar h hk
theorem flat_of_flat1 {v : Value} (h : flat1 v = true) : flat v = true := by
  cases v <;> first | exact h | cases h
theorem areIs_flat1 : ∀ {xs : List S0} {sks : List SK}, areIs xs sks = true → sks.all SK.plain = true → (valsOf xs).all flat1 = true
  | [], [], _, _ => rfl
  | x :: xs, k :: ks, h, hk => by
    simp only [areIs, Bool.and_eq_true] at h
    simp only [List.all_cons, Bool.and_eq_true] at hk
    simp only [valsOf, List.map_cons, List.all_cons, Bool.and_eq_true]
    exact ⟨S0.plain_flat1 h.1 hk.1, areIs_flat1 h.2 hk.2⟩
  | [], _ :: _, h, _ => by cases h
  | _ :: _, [], h, _ => by cases h
theorem areIs_flat {xs : List S0} {sks : List SK} (h : areIs xs sks = true) (hk : sks.all SK.plain = true) : (valsOf xs).all flat = true := by
  have := areIs_flat1 h hk
  rw [List.all_eq_true] at this ⊢
  exact fun v hv => flat_of_flat1 (this v hv)
theorem packA_flat {vs : List Value} (h : vs.all flat1 = true) : flat (packA vs) = true := by
  match vs, h with
  | [], _ => rfl
  | [v], h =>
    simp only [List.all_cons, List.all_nil, Bool.and_true] at h
    exact flat_of_flat1 h
  | a :: b :: l, h =>
    show flat (.tuple (a :: b :: l).toArray) = true
    simp only [flat, Bool.and_eq_true]
    exact ⟨by simp, h⟩

end

/-- What is known: whatever has been shown of calls that leave nothing behind. -/
@[reducible] def KnoC (C : Cfg) [Val] : Kno := ⟨fun f args r => ∀ H, CallOk C f args H r H⟩

section
variable [Val]
/-- THE CONTRACT: the function answers so, and leaves nothing behind. -/
def Ct (C : Cfg) (Sg : FuncId → Option Sig) (g : FuncId) (ls rs : List Lf) : Prop := let _ : Kno := KnoC C; ∀ H, CallL C Sg g ls H rs H

theorem uCallC_ok {C : Cfg} (hm : C.P.follows .mixedOrders = true) {f : FuncId} {args : List Value} {H : List HObj} {r : Value} {H' : List HObj} (h : let _ : Kno := KnoC C; uCall C f args H r H') : CallOk C f args H r H' :=
  @uCall_ok _ _ (KnoC C) hm (fun _ _ _ h => h) _ _ _ _ _ h

theorem ct_of {C : Cfg} {Sg : FuncId → Option Sig} (hm : C.P.follows .mixedOrders = true) (hG : ∀ g vs, C.G g = some vs → vs.all flat = true) {g : FuncId} {sg : Sig} (hs : Sg g = some sg) (hp : sg.plain = true) {ls rs : List Lf} {H' : List HObj}
    (h : let _ : Kno := KnoC C; CallL C Sg g ls [] rs H') : Ct C Sg g ls rs := by
  let _ : Kno := KnoC C
  obtain ⟨sg', xs, ys, c1, c2, c3, c4⟩ := h
  rw [hs] at c1
  cases c1
  simp only [Sig.plain, Bool.and_eq_true] at hp
  have ha := areIs_flat c2.1 hp.1
  have hr := packA_flat (areIs_flat1 c3.1 hp.2)
  intro H
  exact ⟨sg, xs, ys, hs, c2, c3, ⟨0, fun H => frame_ok hG (uCallC_ok hm c4) ha hr H, rfl⟩⟩

theorem call_ct {C : Cfg} {Sg : FuncId → Option Sig} {g : FuncId} {ls rs : List Lf} {h : List HObj} {K : List Lf → List HObj → Prop} (hc : Ct C Sg g ls rs) (hk : K rs h) : let _ : Kno := KnoC C; callP C Sg g ls h K :=
  ⟨rs, h, hc h, hk⟩
end

section
variable [Val] [Kno]
theorem it_rule {F : (List Lf → List HObj → Prop) → List Lf → List HObj → Prop} (Inv : Nat → List Lf → List HObj → Prop)
    (step : ∀ m ls h, Inv m ls h → ∀ self : List Lf → List HObj → Prop, (∀ m' ls h, m' < m → Inv m' ls h → self ls h) → F self ls h) : ∀ n m ls h, m < n → Inv m ls h → itP F n ls h
  | 0, _, _, _, hm, _ => absurd hm (Nat.not_lt_zero _)
  | n + 1, m, ls, h, hm, hi => step m ls h hi (itP F n) fun m' ls h h' hi' => it_rule Inv step n m' ls h (by omega) hi'
/-- A loop: a measure and what holds. -/
theorem loop_rule {F : (List Lf → List HObj → Prop) → List Lf → List HObj → Prop} (Inv : Nat → List Lf → List HObj → Prop) {m : Nat} {ls : List Lf} {h : List HObj} (hi : Inv m ls h)
    (step : ∀ m ls h, Inv m ls h → ∀ self : List Lf → List HObj → Prop, (∀ m' ls h, m' < m → Inv m' ls h → self ls h) → F self ls h) : loopP F ls h :=
  ⟨m + 1, it_rule Inv step (m + 1) m ls h (Nat.lt_succ_self m) hi⟩

/-- Numbers that fit are as they are. -/
theorem wrap_i64 {n : Int} (h1 : -9223372036854775808 ≤ n) (h2 : n ≤ 9223372036854775807) : IntKind.wrap .i64 n = n := by
  simp only [IntKind.wrap, IntKind.bits, IntKind.signed, Bool.true_and, ge_iff_le, decide_eq_true_eq]
  split <;> omega
theorem wrap_u8 {n : Int} (h1 : 0 ≤ n) (h2 : n ≤ 255) : IntKind.wrap .u8 n = n := by
  simp only [IntKind.wrap, IntKind.bits, IntKind.signed, Bool.false_and, Bool.false_eq_true, if_false]
  omega
end
end Sx
end Go.Am

/-
  THE ALGEBRA OF PROPOSITIONS, its rules as equations: a step each.
-/
namespace Go.Am
namespace Sx

/-- What comes behind, put away: no step looks into it. -/
class Bx (α : Sort _) where
  v : α
def hid {α : Sort _} [b : Bx α] : α := b.v
section
variable [Val] [Kno] {C : Cfg} {Sg : FuncId → Option Sig} {T : Nat → Site}

theorem b_unI {n : Int} {r : List Lf} {K : Int → List Lf → Prop} : (PA C Sg T).unI (.i n :: r) K = K n r := rfl
theorem b_unB {n : Bool} {r : List Lf} {K : Bool → List Lf → Prop} : (PA C Sg T).unB (.b n :: r) K = K n r := rfl
theorem b_unV {n : Value} {r : List Lf} {K : Value → List Lf → Prop} : (PA C Sg T).unV (.v n :: r) K = K n r := rfl
theorem b_un0 {K : Prop} : (PA C Sg T).un0 [] K = K := rfl
theorem b_ucI {k : IntKind} {n : Int} {r : List Value} {K : Int → List Value → Prop} : (PA C Sg T).ucI k (.int k n :: r) K = K n r := by
  show (k = k ∧ K n r) = K n r
  simp
theorem b_ucB {n : Bool} {r : List Value} {K : Bool → List Value → Prop} : (PA C Sg T).ucB (.bool n :: r) K = K n r := rfl
theorem b_ucV {n : Value} {r : List Value} {K : Value → List Value → Prop} : (PA C Sg T).ucV (n :: r) K = K n r := rfl
theorem b_uc0 {K : Prop} : (PA C Sg T).uc0 [] K = K := rfl
theorem p_chk {v : Value} {K : Prop} (h : goodV v = true) : (PA C Sg T).chk v K = K := by
  show (goodV v = true ∧ K) = K
  simp [h]
theorem b_cond_t {X Y : Prop} : (PA C Sg T).cond true X Y = X := by
  show ((true = true → X) ∧ (true = false → Y)) = X
  simp
theorem b_cond_f {X Y : Prop} : (PA C Sg T).cond false X Y = Y := by
  show ((false = true → X) ∧ (false = false → Y)) = Y
  simp
theorem b_lss_t {a b : Int} {K : Bool → Prop} (h : a < b) : (PA C Sg T).cmp .lss a b K = K true := by
  show K (decide (a < b)) = _; rw [decide_eq_true h]
theorem b_lss_f {a b : Int} {K : Bool → Prop} (h : b ≤ a) : (PA C Sg T).cmp .lss a b K = K false := by
  show K (decide (a < b)) = _; rw [decide_eq_false (by omega)]
theorem b_leq_t {a b : Int} {K : Bool → Prop} (h : a ≤ b) : (PA C Sg T).cmp .leq a b K = K true := by
  show K (decide (a ≤ b)) = _; rw [decide_eq_true h]
theorem b_leq_f {a b : Int} {K : Bool → Prop} (h : b < a) : (PA C Sg T).cmp .leq a b K = K false := by
  show K (decide (a ≤ b)) = _; rw [decide_eq_false (by omega)]
theorem b_gtr_t {a b : Int} {K : Bool → Prop} (h : b < a) : (PA C Sg T).cmp .gtr a b K = K true := by
  show K (decide (a > b)) = _; rw [decide_eq_true h]
theorem b_gtr_f {a b : Int} {K : Bool → Prop} (h : a ≤ b) : (PA C Sg T).cmp .gtr a b K = K false := by
  show K (decide (a > b)) = _; rw [decide_eq_false (by omega)]
theorem b_geq_t {a b : Int} {K : Bool → Prop} (h : b ≤ a) : (PA C Sg T).cmp .geq a b K = K true := by
  show K (decide (a ≥ b)) = _; rw [decide_eq_true h]
theorem b_geq_f {a b : Int} {K : Bool → Prop} (h : a < b) : (PA C Sg T).cmp .geq a b K = K false := by
  show K (decide (a ≥ b)) = _; rw [decide_eq_false (by omega)]
theorem b_eql_t {a b : Int} {K : Bool → Prop} (h : a = b) : (PA C Sg T).cmp .eql a b K = K true := by
  show K (a == b) = _; rw [beq_iff_eq.2 h]
theorem b_eql_f {a b : Int} {K : Bool → Prop} (h : a ≠ b) : (PA C Sg T).cmp .eql a b K = K false := by
  show K (a == b) = _; rw [beq_false_of_ne h]
theorem b_neq_t {a b : Int} {K : Bool → Prop} (h : a ≠ b) : (PA C Sg T).cmp .neq a b K = K true := by
  show K (a != b) = _; rw [bne_iff_ne.2 h]
theorem b_neq_f {a b : Int} {K : Bool → Prop} (h : a = b) : (PA C Sg T).cmp .neq a b K = K false := by
  show K (a != b) = _; subst h; simp
theorem b_add {a b : Int} {K : Int → Prop} (h1 : -9223372036854775808 ≤ a + b) (h2 : a + b ≤ 9223372036854775807) : (PA C Sg T).ari .add .i64 a b K = K (a + b) := by
  show K (IntKind.wrap .i64 (a + b)) = _; rw [wrap_i64 h1 h2]
theorem b_sub {a b : Int} {K : Int → Prop} (h1 : -9223372036854775808 ≤ a - b) (h2 : a - b ≤ 9223372036854775807) : (PA C Sg T).ari .sub .i64 a b K = K (a - b) := by
  show K (IntKind.wrap .i64 (a - b)) = _; rw [wrap_i64 h1 h2]
theorem b_mul {a b : Int} {K : Int → Prop} (h1 : -9223372036854775808 ≤ a * b) (h2 : a * b ≤ 9223372036854775807) : (PA C Sg T).ari .mul .i64 a b K = K (a * b) := by
  show K (IntKind.wrap .i64 (a * b)) = _; rw [wrap_i64 h1 h2]
theorem b_add8 {a b : Int} {K : Int → Prop} (h1 : 0 ≤ a + b) (h2 : a + b ≤ 255) : (PA C Sg T).ari .add .u8 a b K = K (a + b) := by
  show K (IntKind.wrap .u8 (a + b)) = _; rw [wrap_u8 h1 h2]
theorem b_sub8 {a b : Int} {K : Int → Prop} (h1 : 0 ≤ a - b) (h2 : a - b ≤ 255) : (PA C Sg T).ari .sub .u8 a b K = K (a - b) := by
  show K (IntKind.wrap .u8 (a - b)) = _; rw [wrap_u8 h1 h2]
theorem b_mul8 {a b : Int} {K : Int → Prop} (h1 : 0 ≤ a * b) (h2 : a * b ≤ 255) : (PA C Sg T).ari .mul .u8 a b K = K (a * b) := by
  show K (IntKind.wrap .u8 (a * b)) = _; rw [wrap_u8 h1 h2]
theorem tdiv_nn {a b : Int} (h : 0 ≤ a) : a.tdiv b = a / b := Int.tdiv_eq_ediv_of_nonneg h
theorem b_quo_nn {a b : Int} {K : Int → Prop} (h : 0 ≤ a) (hb : 0 < b) (h2 : a ≤ 9223372036854775807) : (PA C Sg T).ari .quo .i64 a b K = K (a / b) := by
  show (b ≠ 0 ∧ K (IntKind.wrap .i64 (a.tdiv b))) = _
  have h3 : a / b ≤ a := Int.ediv_le_self b h
  have h4 : 0 ≤ a / b := Int.ediv_nonneg h (by omega)
  rw [tdiv_nn h, wrap_i64 (by omega) (by omega)]
  simp; intro _ h; omega
theorem b_quo_ev {a : Int} {K : Int → Prop} (h : a % 2 = 0) (h1 : -9223372036854775808 ≤ a) (h2 : a ≤ 9223372036854775807) : (PA C Sg T).ari .quo .i64 a 2 K = K (a / 2) := by
  show ((2 : Int) ≠ 0 ∧ K (IntKind.wrap .i64 (a.tdiv 2))) = _
  rw [Int.tdiv_eq_ediv_of_dvd (Int.dvd_of_emod_eq_zero h), wrap_i64 (by omega) (by omega)]
  simp
theorem b_quo_dv {a b : Int} {K : Int → Prop} (h : a % b = 0) (hb : 0 < b) (h1 : -9223372036854775808 ≤ a) (h2 : a ≤ 9223372036854775807) : (PA C Sg T).ari .quo .i64 a b K = K (a / b) := by
  show (b ≠ 0 ∧ K (IntKind.wrap .i64 (a.tdiv b))) = _
  obtain ⟨q, rfl⟩ := Int.dvd_of_emod_eq_zero h
  rw [Int.mul_tdiv_cancel_left q (by omega), Int.mul_ediv_cancel_left q (by omega)]
  have hq : -9223372036854775808 ≤ q ∧ q ≤ 9223372036854775807 := by
    rcases Int.le_total 0 q with hs | hs
    · have := Int.mul_le_mul_of_nonneg_right (show (1 : Int) ≤ b by omega) hs
      omega
    · have := Int.mul_le_mul_of_nonneg_right (show (1 : Int) ≤ b by omega) (show 0 ≤ -q by omega)
      rw [Int.mul_neg b q] at this
      omega
  rw [wrap_i64 hq.1 hq.2]
  simp; intro _ h; omega
theorem b_rem_nn {k : IntKind} {a b : Int} {K : Int → Prop} (h : 0 ≤ a) (hb : 0 < b) : (PA C Sg T).ari .rem k a b K = K (a % b) := by
  show (b ≠ 0 ∧ K (a.tmod b)) = _
  rw [Int.tmod_eq_emod_of_nonneg h]
  simp; intro _ h; omega
theorem b_rem_np {k : IntKind} {a b : Int} {K : Int → Prop} (h : a ≤ 0) (hb : 0 < b) : (PA C Sg T).ari .rem k a b K = K (-((-a) % b)) := by
  show (b ≠ 0 ∧ K (a.tmod b)) = _
  have : a.tmod b = -((-a) % b) := by
    have h1 := Int.neg_tmod a b
    rw [Int.tmod_eq_emod_of_nonneg (a := -a) (by omega)] at h1
    omega
  rw [this]
  simp; intro _ h; omega
theorem b_and1 {a : Int} {K : Int → Prop} : (PA C Sg T).ari .and .i64 a 1 K = K (a % 2) := by
  show (((1 : Int) = 1 ∧ K (a % 2)) ∨ ((1 : Int) ≠ 1 ∧ ∃ n, ArRun .and .i64 a 1 n ∧ K n)) = K (a % 2)
  simp
theorem b_conv {a : Int} {K : Int → Prop} (h1 : -9223372036854775808 ≤ a) (h2 : a ≤ 9223372036854775807) : (PA C Sg T).conv .i64 a K = K a := by
  show K (IntKind.wrap .i64 a) = _; rw [wrap_i64 h1 h2]
theorem b_conv8 {a : Int} {K : Int → Prop} (h1 : 0 ≤ a) (h2 : a ≤ 255) : (PA C Sg T).conv .u8 a K = K a := by
  show K (IntKind.wrap .u8 a) = _; rw [wrap_u8 h1 h2]
theorem b_sel_t {a b : Int} {K : Int → Prop} : (PA C Sg T).sel true a b K = K a := rfl
theorem b_sel_f {a b : Int} {K : Int → Prop} : (PA C Sg T).sel false a b K = K b := rfl
theorem b_opt {α : Type} {x : α} {K : α → Prop} : (PA C Sg T).opt (some x) K = K x := by
  show (∃ y, some x = some y ∧ K y) = K x
  simp
theorem b_inB {n : Nat} {i : Int} {K : Unit → Prop} (h1 : 0 ≤ i) (h2 : i < (n : Int)) : (PA C Sg T).opt (inB n i) K = K () := by
  rw [show inB n i = some () from if_pos ⟨h1, h2⟩, b_opt]
theorem p_opt_eq {α : Type} {o : Option α} {x : α} {K : α → Prop} (h : o = some x) : (PA C Sg T).opt o K = K x := by
  rw [h, b_opt]
theorem b_join {b : List Lf → List HObj → Prop} {m : (List Lf → List HObj → Prop) → Prop} : (PA C Sg T).join b m = m b := rfl
theorem b_eqs0 {K : Bool → Prop} : (PA C Sg T).eqs [] K = K true := rfl
theorem b_eqs_t {a b : Int} {l : List (Lf × Lf)} {K : Bool → Prop} (h : a = b) : (PA C Sg T).eqs ((.i a, .i b) :: l) K = (PA C Sg T).eqs l K := by
  show K (eqAll _) = K (eqAll l)
  subst h
  simp [eqAll, eqLfD]
theorem b_eqs_f {a b : Int} {l : List (Lf × Lf)} {K : Bool → Prop} (h : a ≠ b) : (PA C Sg T).eqs ((.i a, .i b) :: l) K = K false := by
  show K (eqAll _) = K false
  have : (a == b) = false := beq_false_of_ne h
  simp [eqAll, eqLfD, this]
theorem p_loop {F : (List Lf → List HObj → Prop) → List Lf → List HObj → Prop} {ls : List Lf} {h : List HObj} (n : Nat) (hn : itP F n ls h) : (PA C Sg T).loop F ls h := ⟨n, hn⟩
theorem b_it {F : (List Lf → List HObj → Prop) → List Lf → List HObj → Prop} {n : Nat} {ls : List Lf} {h : List HObj} : itP F (n + 1) ls h = F (itP F n) ls h := rfl
theorem p_call {g : FuncId} {ls rs : List Lf} {h : List HObj} {K : List Lf → List HObj → Prop} (hc : ∀ H, CallL C Sg g ls H rs H) (hk : K rs h) : (PA C Sg T).call g ls h (@hid _ ⟨K⟩) := ⟨rs, h, hc h, hk⟩
theorem p_cond {b : Bool} {X Y : Prop} (h1 : b = true → X) (h2 : b = false → Y) : (PA C Sg T).cond b (@hid _ ⟨X⟩) (@hid _ ⟨Y⟩) := ⟨h1, h2⟩
/-- Truth values compared. -/
theorem b_eqsb_t {a b : Bool} {l : List (Lf × Lf)} {K : Bool → Prop} (h : a = b) : (PA C Sg T).eqs ((.b a, .b b) :: l) K = (PA C Sg T).eqs l K := by
  show K (eqAll _) = K (eqAll l)
  subst h
  simp [eqAll, eqLfD]
theorem b_eqsb_tf {l : List (Lf × Lf)} {K : Bool → Prop} : (PA C Sg T).eqs ((.b true, .b false) :: l) K = K false := rfl
theorem b_eqsb_ft {l : List (Lf × Lf)} {K : Bool → Prop} : (PA C Sg T).eqs ((.b false, .b true) :: l) K = K false := rfl
theorem b_mul_1 {b : Int} {K : Int → Prop} (h1 : -9223372036854775808 ≤ b) (h2 : b ≤ 9223372036854775807) : (PA C Sg T).ari .mul .i64 1 b K = K b := by
  show K (IntKind.wrap .i64 (1 * b)) = _; rw [Int.one_mul, wrap_i64 h1 h2]
theorem b_mul_0 {b : Int} {K : Int → Prop} : (PA C Sg T).ari .mul .i64 0 b K = K 0 := by
  show K (IntKind.wrap .i64 (0 * b)) = _; rw [Int.zero_mul]; rfl
theorem b_mul_m {b : Int} {K : Int → Prop} (h1 : -9223372036854775808 ≤ -b) (h2 : -b ≤ 9223372036854775807) : (PA C Sg T).ari .mul .i64 (-1) b K = K (-b) := by
  show K (IntKind.wrap .i64 (-1 * b)) = _
  have : (-1 * b : Int) = -b := by omega
  rw [this, wrap_i64 h1 h2]
theorem b_mul_r1 {b : Int} {K : Int → Prop} (h1 : -9223372036854775808 ≤ b) (h2 : b ≤ 9223372036854775807) : (PA C Sg T).ari .mul .i64 b 1 K = K b := by
  show K (IntKind.wrap .i64 (b * 1)) = _; rw [Int.mul_one, wrap_i64 h1 h2]
theorem b_mul_r0 {b : Int} {K : Int → Prop} : (PA C Sg T).ari .mul .i64 b 0 K = K 0 := by
  show K (IntKind.wrap .i64 (b * 0)) = _; rw [Int.mul_zero]; rfl
theorem b_mul_rm {b : Int} {K : Int → Prop} (h1 : -9223372036854775808 ≤ -b) (h2 : -b ≤ 9223372036854775807) : (PA C Sg T).ari .mul .i64 b (-1) K = K (-b) := by
  show K (IntKind.wrap .i64 (b * -1)) = _
  have : (b * -1 : Int) = -b := by omega
  rw [this, wrap_i64 h1 h2]
theorem b_add_0 {b : Int} {K : Int → Prop} (h1 : -9223372036854775808 ≤ b) (h2 : b ≤ 9223372036854775807) : (PA C Sg T).ari .add .i64 0 b K = K b := by
  show K (IntKind.wrap .i64 (0 + b)) = _; rw [Int.zero_add, wrap_i64 h1 h2]
theorem b_add_r0 {b : Int} {K : Int → Prop} (h1 : -9223372036854775808 ≤ b) (h2 : b ≤ 9223372036854775807) : (PA C Sg T).ari .add .i64 b 0 K = K b := by
  show K (IntKind.wrap .i64 (b + 0)) = _; rw [Int.add_zero, wrap_i64 h1 h2]
theorem b_add_11 {K : Int → Prop} : (PA C Sg T).ari .add .i64 1 1 K = K 2 := by
  show K (IntKind.wrap .i64 (1 + 1)) = _; rfl
theorem b_quo_1 {a : Int} {K : Int → Prop} (h1 : -9223372036854775808 ≤ a) (h2 : a ≤ 9223372036854775807) : (PA C Sg T).ari .quo .i64 a 1 K = K a := by
  show ((1 : Int) ≠ 0 ∧ K (IntKind.wrap .i64 (a.tdiv 1))) = _
  rw [Int.tdiv_one, wrap_i64 h1 h2]; simp
theorem p_ari_2 {op : BinOp} {k : IntKind} {a b b' : Int} {K : Int → Prop} (hb : b = b') (h : (PA C Sg T).ari op k a b' K) : (PA C Sg T).ari op k a b K := by rw [hb]; exact h
theorem p_opt_r {α : Type} {o : Option α} {x : α} {K : α → Prop} (h : o = some x) (hk : K x) : (PA C Sg T).opt o (@hid _ ⟨K⟩) := ⟨x, h, hk⟩
theorem pvx {vs : List Value} {base sz n : Nat} {i j : Int} {o : Option (List Value)} (h2 : pickV vs base [(j, sz)] n = o) (h : i = j) : pickV vs base [(i, sz)] n = o := by rw [h]; exact h2
theorem pvx2 {vs : List Value} {base sz sz' n : Nat} {i j i' j' : Int} {o : Option (List Value)} (h2 : pickV vs base [(j, sz), (j', sz')] n = o) (h : i = j) (h' : i' = j') : pickV vs base [(i, sz), (i', sz')] n = o := by rw [h, h']; exact h2
theorem plx {ls : List Lf} {base sz n : Nat} {i : Int} {o : Option (List Lf)} (j : Int) (h : i = j) (h2 : pickL ls base [(j, sz)] n = o) : pickL ls base [(i, sz)] n = o := by rw [h]; exact h2
theorem ptx {ls new : List Lf} {base sz : Nat} {i : Int} {o : Option (List Lf)} (j : Int) (h : i = j) (h2 : putL ls base [(j, sz)] new = o) : putL ls base [(i, sz)] new = o := by rw [h]; exact h2
/-! ### The same, with what comes behind put away -/
theorem p_unI {n : Int} {r : List Lf} {K : Int → List Lf → Prop} : (PA C Sg T).unI (.i n :: r) (@hid _ ⟨K⟩) = K n r := b_unI
theorem p_unB {n : Bool} {r : List Lf} {K : Bool → List Lf → Prop} : (PA C Sg T).unB (.b n :: r) (@hid _ ⟨K⟩) = K n r := b_unB
theorem p_unV {n : Value} {r : List Lf} {K : Value → List Lf → Prop} : (PA C Sg T).unV (.v n :: r) (@hid _ ⟨K⟩) = K n r := b_unV
theorem p_un0 {K : Prop} : (PA C Sg T).un0 [] (@hid _ ⟨K⟩) = K := b_un0
theorem p_ucI {k : IntKind} {n : Int} {r : List Value} {K : Int → List Value → Prop} : (PA C Sg T).ucI k (.int k n :: r) (@hid _ ⟨K⟩) = K n r := b_ucI
theorem p_ucB {n : Bool} {r : List Value} {K : Bool → List Value → Prop} : (PA C Sg T).ucB (.bool n :: r) (@hid _ ⟨K⟩) = K n r := b_ucB
theorem p_ucV {n : Value} {r : List Value} {K : Value → List Value → Prop} : (PA C Sg T).ucV (n :: r) (@hid _ ⟨K⟩) = K n r := b_ucV
theorem p_uc0 {K : Prop} : (PA C Sg T).uc0 [] (@hid _ ⟨K⟩) = K := b_uc0
theorem p_cond_t {X Y : Prop} : (PA C Sg T).cond true (@hid _ ⟨X⟩) Y = X := b_cond_t
theorem p_cond_f {X Y : Prop} : (PA C Sg T).cond false X (@hid _ ⟨Y⟩) = Y := b_cond_f
theorem p_lss_t {a b : Int} {K : Bool → Prop} (h : a < b) : (PA C Sg T).cmp .lss a b (@hid _ ⟨K⟩) = K true := b_lss_t h
theorem p_lss_f {a b : Int} {K : Bool → Prop} (h : b ≤ a) : (PA C Sg T).cmp .lss a b (@hid _ ⟨K⟩) = K false := b_lss_f h
theorem p_leq_t {a b : Int} {K : Bool → Prop} (h : a ≤ b) : (PA C Sg T).cmp .leq a b (@hid _ ⟨K⟩) = K true := b_leq_t h
theorem p_leq_f {a b : Int} {K : Bool → Prop} (h : b < a) : (PA C Sg T).cmp .leq a b (@hid _ ⟨K⟩) = K false := b_leq_f h
theorem p_gtr_t {a b : Int} {K : Bool → Prop} (h : b < a) : (PA C Sg T).cmp .gtr a b (@hid _ ⟨K⟩) = K true := b_gtr_t h
theorem p_gtr_f {a b : Int} {K : Bool → Prop} (h : a ≤ b) : (PA C Sg T).cmp .gtr a b (@hid _ ⟨K⟩) = K false := b_gtr_f h
theorem p_geq_t {a b : Int} {K : Bool → Prop} (h : b ≤ a) : (PA C Sg T).cmp .geq a b (@hid _ ⟨K⟩) = K true := b_geq_t h
theorem p_geq_f {a b : Int} {K : Bool → Prop} (h : a < b) : (PA C Sg T).cmp .geq a b (@hid _ ⟨K⟩) = K false := b_geq_f h
theorem p_eql_t {a b : Int} {K : Bool → Prop} (h : a = b) : (PA C Sg T).cmp .eql a b (@hid _ ⟨K⟩) = K true := b_eql_t h
theorem p_eql_f {a b : Int} {K : Bool → Prop} (h : a ≠ b) : (PA C Sg T).cmp .eql a b (@hid _ ⟨K⟩) = K false := b_eql_f h
theorem p_neq_t {a b : Int} {K : Bool → Prop} (h : a ≠ b) : (PA C Sg T).cmp .neq a b (@hid _ ⟨K⟩) = K true := b_neq_t h
theorem p_neq_f {a b : Int} {K : Bool → Prop} (h : a = b) : (PA C Sg T).cmp .neq a b (@hid _ ⟨K⟩) = K false := b_neq_f h
theorem p_add {a b : Int} {K : Int → Prop} (h1 : -9223372036854775808 ≤ a + b) (h2 : a + b ≤ 9223372036854775807) : (PA C Sg T).ari .add .i64 a b (@hid _ ⟨K⟩) = K (a + b) := b_add h1 h2
theorem p_sub {a b : Int} {K : Int → Prop} (h1 : -9223372036854775808 ≤ a - b) (h2 : a - b ≤ 9223372036854775807) : (PA C Sg T).ari .sub .i64 a b (@hid _ ⟨K⟩) = K (a - b) := b_sub h1 h2
theorem p_mul {a b : Int} {K : Int → Prop} (h1 : -9223372036854775808 ≤ a * b) (h2 : a * b ≤ 9223372036854775807) : (PA C Sg T).ari .mul .i64 a b (@hid _ ⟨K⟩) = K (a * b) := b_mul h1 h2
theorem p_add8 {a b : Int} {K : Int → Prop} (h1 : 0 ≤ a + b) (h2 : a + b ≤ 255) : (PA C Sg T).ari .add .u8 a b (@hid _ ⟨K⟩) = K (a + b) := b_add8 h1 h2
theorem p_sub8 {a b : Int} {K : Int → Prop} (h1 : 0 ≤ a - b) (h2 : a - b ≤ 255) : (PA C Sg T).ari .sub .u8 a b (@hid _ ⟨K⟩) = K (a - b) := b_sub8 h1 h2
theorem p_mul8 {a b : Int} {K : Int → Prop} (h1 : 0 ≤ a * b) (h2 : a * b ≤ 255) : (PA C Sg T).ari .mul .u8 a b (@hid _ ⟨K⟩) = K (a * b) := b_mul8 h1 h2
theorem p_quo_nn {a b : Int} {K : Int → Prop} (h : 0 ≤ a) (hb : 0 < b) (h2 : a ≤ 9223372036854775807) : (PA C Sg T).ari .quo .i64 a b (@hid _ ⟨K⟩) = K (a / b) := b_quo_nn h hb h2
theorem p_quo_ev {a : Int} {K : Int → Prop} (h : a % 2 = 0) (h1 : -9223372036854775808 ≤ a) (h2 : a ≤ 9223372036854775807) : (PA C Sg T).ari .quo .i64 a 2 (@hid _ ⟨K⟩) = K (a / 2) := b_quo_ev h h1 h2
theorem p_quo_dv {a b : Int} {K : Int → Prop} (h : a % b = 0) (hb : 0 < b) (h1 : -9223372036854775808 ≤ a) (h2 : a ≤ 9223372036854775807) : (PA C Sg T).ari .quo .i64 a b (@hid _ ⟨K⟩) = K (a / b) := b_quo_dv h hb h1 h2
theorem p_rem_nn {k : IntKind} {a b : Int} {K : Int → Prop} (h : 0 ≤ a) (hb : 0 < b) : (PA C Sg T).ari .rem k a b (@hid _ ⟨K⟩) = K (a % b) := b_rem_nn h hb
theorem p_rem_np {k : IntKind} {a b : Int} {K : Int → Prop} (h : a ≤ 0) (hb : 0 < b) : (PA C Sg T).ari .rem k a b (@hid _ ⟨K⟩) = K (-((-a) % b)) := b_rem_np h hb
theorem p_and1 {a : Int} {K : Int → Prop} : (PA C Sg T).ari .and .i64 a 1 (@hid _ ⟨K⟩) = K (a % 2) := b_and1
theorem p_conv {a : Int} {K : Int → Prop} (h1 : -9223372036854775808 ≤ a) (h2 : a ≤ 9223372036854775807) : (PA C Sg T).conv .i64 a (@hid _ ⟨K⟩) = K a := b_conv h1 h2
theorem p_conv8 {a : Int} {K : Int → Prop} (h1 : 0 ≤ a) (h2 : a ≤ 255) : (PA C Sg T).conv .u8 a (@hid _ ⟨K⟩) = K a := b_conv8 h1 h2
theorem p_sel_t {a b : Int} {K : Int → Prop} : (PA C Sg T).sel true a b (@hid _ ⟨K⟩) = K a := b_sel_t
theorem p_sel_f {a b : Int} {K : Int → Prop} : (PA C Sg T).sel false a b (@hid _ ⟨K⟩) = K b := b_sel_f
theorem p_opt {α : Type} {x : α} {K : α → Prop} : (PA C Sg T).opt (some x) (@hid _ ⟨K⟩) = K x := b_opt
theorem p_inB {n : Nat} {i : Int} {K : Unit → Prop} (h1 : 0 ≤ i) (h2 : i < (n : Int)) : (PA C Sg T).opt (inB n i) (@hid _ ⟨K⟩) = K () := b_inB h1 h2
theorem p_join {b : List Lf → List HObj → Prop} {m : (List Lf → List HObj → Prop) → Prop} : (PA C Sg T).join (@hid _ ⟨b⟩) (@hid _ ⟨m⟩) = m (@hid _ ⟨b⟩) := b_join
theorem p_eqs0 {K : Bool → Prop} : (PA C Sg T).eqs [] (@hid _ ⟨K⟩) = K true := b_eqs0
theorem p_eqs_t {a b : Int} {l : List (Lf × Lf)} {K : Bool → Prop} (h : a = b) : (PA C Sg T).eqs ((.i a, .i b) :: l) (@hid _ ⟨K⟩) = (PA C Sg T).eqs l (@hid _ ⟨K⟩) := b_eqs_t h
theorem p_eqs_f {a b : Int} {l : List (Lf × Lf)} {K : Bool → Prop} (h : a ≠ b) : (PA C Sg T).eqs ((.i a, .i b) :: l) (@hid _ ⟨K⟩) = K false := b_eqs_f h
theorem p_it {F : (List Lf → List HObj → Prop) → List Lf → List HObj → Prop} {n : Nat} {ls : List Lf} {h : List HObj} : itP (@hid _ ⟨F⟩) (n + 1) ls h = F (itP (@hid _ ⟨F⟩) n) ls h := b_it
theorem p_eqsb_t {a b : Bool} {l : List (Lf × Lf)} {K : Bool → Prop} (h : a = b) : (PA C Sg T).eqs ((.b a, .b b) :: l) (@hid _ ⟨K⟩) = (PA C Sg T).eqs l (@hid _ ⟨K⟩) := b_eqsb_t h
theorem p_eqsb_tf {l : List (Lf × Lf)} {K : Bool → Prop} : (PA C Sg T).eqs ((.b true, .b false) :: l) (@hid _ ⟨K⟩) = K false := b_eqsb_tf
theorem p_eqsb_ft {l : List (Lf × Lf)} {K : Bool → Prop} : (PA C Sg T).eqs ((.b false, .b true) :: l) (@hid _ ⟨K⟩) = K false := b_eqsb_ft
theorem p_mul_1 {b : Int} {K : Int → Prop} (h1 : -9223372036854775808 ≤ b) (h2 : b ≤ 9223372036854775807) : (PA C Sg T).ari .mul .i64 1 b (@hid _ ⟨K⟩) = K b := b_mul_1 h1 h2
theorem p_mul_0 {b : Int} {K : Int → Prop} : (PA C Sg T).ari .mul .i64 0 b (@hid _ ⟨K⟩) = K 0 := b_mul_0
theorem p_mul_m {b : Int} {K : Int → Prop} (h1 : -9223372036854775808 ≤ -b) (h2 : -b ≤ 9223372036854775807) : (PA C Sg T).ari .mul .i64 (-1) b (@hid _ ⟨K⟩) = K (-b) := b_mul_m h1 h2
theorem p_mul_r1 {b : Int} {K : Int → Prop} (h1 : -9223372036854775808 ≤ b) (h2 : b ≤ 9223372036854775807) : (PA C Sg T).ari .mul .i64 b 1 (@hid _ ⟨K⟩) = K b := b_mul_r1 h1 h2
theorem p_mul_r0 {b : Int} {K : Int → Prop} : (PA C Sg T).ari .mul .i64 b 0 (@hid _ ⟨K⟩) = K 0 := b_mul_r0
theorem p_mul_rm {b : Int} {K : Int → Prop} (h1 : -9223372036854775808 ≤ -b) (h2 : -b ≤ 9223372036854775807) : (PA C Sg T).ari .mul .i64 b (-1) (@hid _ ⟨K⟩) = K (-b) := b_mul_rm h1 h2
theorem p_add_0 {b : Int} {K : Int → Prop} (h1 : -9223372036854775808 ≤ b) (h2 : b ≤ 9223372036854775807) : (PA C Sg T).ari .add .i64 0 b (@hid _ ⟨K⟩) = K b := b_add_0 h1 h2
theorem p_add_r0 {b : Int} {K : Int → Prop} (h1 : -9223372036854775808 ≤ b) (h2 : b ≤ 9223372036854775807) : (PA C Sg T).ari .add .i64 b 0 (@hid _ ⟨K⟩) = K b := b_add_r0 h1 h2
theorem p_add_11 {K : Int → Prop} : (PA C Sg T).ari .add .i64 1 1 (@hid _ ⟨K⟩) = K 2 := b_add_11
theorem p_quo_1 {a : Int} {K : Int → Prop} (h1 : -9223372036854775808 ≤ a) (h2 : a ≤ 9223372036854775807) : (PA C Sg T).ari .quo .i64 a 1 (@hid _ ⟨K⟩) = K a := b_quo_1 h1 h2
theorem p_hid2 {f : List Lf → List HObj → Prop} {a : List Lf} {b : List HObj} : @hid _ ⟨f⟩ a b = f a b := rfl
theorem p_eqs2_f {a b c d : Int} {K : Bool → Prop} (h : ¬ (a = c ∧ b = d)) : (PA C Sg T).eqs [(.i a, .i c), (.i b, .i d)] (@hid _ ⟨K⟩) = K false := by
  show K (eqAll _) = K false
  have : eqAll [(.i a, .i c), (.i b, .i d)] = false := by
    rw [Bool.eq_false_iff]
    simpa [eqAll, eqLfD] using h
  rw [this]
theorem p_eqs3_f {a b c d e f : Int} {K : Bool → Prop} (h : ¬ (a = d ∧ b = e ∧ c = f)) : (PA C Sg T).eqs [(.i a, .i d), (.i b, .i e), (.i c, .i f)] (@hid _ ⟨K⟩) = K false := by
  show K (eqAll _) = K false
  have : eqAll [(.i a, .i d), (.i b, .i e), (.i c, .i f)] = false := by
    rw [Bool.eq_false_iff]
    simpa [eqAll, eqLfD] using h
  rw [this]
theorem p_callH {g : FuncId} {ls rs : List Lf} {h h' : List HObj} {K : List Lf → List HObj → Prop} (hc : CallL C Sg g ls h rs h') (hk : K rs h') : (PA C Sg T).call g ls h (@hid _ ⟨K⟩) := ⟨rs, h', hc, hk⟩
theorem p_callE {g : FuncId} {ls : List Lf} {h : List HObj} {P : Int → Prop} {K : List Lf → List HObj → Prop} (hc : ∃ r, P r ∧ ∀ H, CallL C Sg g ls H [.i r] H) (hk : ∀ r, P r → K [.i r] h) : (PA C Sg T).call g ls h (@hid _ ⟨K⟩) := by
  obtain ⟨r, h1, h2⟩ := hc
  exact ⟨_, h, h2 h, hk r h1⟩
theorem callv_ct {g : FuncId} {sg : Sig} {ls rs : List Lf} {H H' : List HObj} (hc : CallL C Sg g ls H rs H') (hs : Sg g = some sg) (xs : List S0) (h1 : areIs xs sg.ps = true) (h2 : lfsOf xs = ls) :
    CallV C (.func (.func g) #[] #[]) (valsOf xs) sg.rs H rs H' := by
  obtain ⟨sg', xs', ys, c1, c2, c3, c4⟩ := hc
  rw [hs] at c1
  cases c1
  obtain ⟨w1, _⟩ := areIs_val c2.1 h1 (c2.2.1.trans h2.symm)
  rw [w1] at c4
  exact ⟨ys, c3, .inl ⟨g, #[], #[], rfl, by simpa using c4⟩⟩
theorem p_callv {v : Value} {args : List Value} {hs : List SK} {rs : List Lf} {h h' : List HObj} {K : List Lf → List HObj → Prop} (hc : CallV C v args hs h rs h') (hk : K rs h') : (PA C Sg T).callv v args hs h (@hid _ ⟨K⟩) := ⟨rs, h', hc, hk⟩
theorem p_new {o : HObj} {h : List HObj} {K : Nat → List HObj → Prop} : (PA C Sg T).new o h (@hid _ ⟨K⟩) = K h.length (h ++ [o]) := rfl
theorem p_chk_r {v : Value} {K : Prop} (h : goodV v = true) (hk : K) : (PA C Sg T).chk v (@hid _ ⟨K⟩) := ⟨h, hk⟩
theorem p_heap_r {f : Getter → Nat → Option (List Act1 × List Value)} {h : List HObj} {K : List Value → List HObj → Prop} {acts : List Act1} {cs : List Value} (e : f (getL h) h.length = some (acts, cs)) (hk : K cs (actsOn h acts)) : (PA C Sg T).heap f h (@hid _ ⟨K⟩) := ⟨acts, cs, e, hk⟩
theorem p_peek_r {f : Getter → Option (List Value)} {h : List HObj} {K : List Value → Prop} {cs : List Value} (e : f (getL h) = some cs) (hk : K cs) : (PA C Sg T).peek f h (@hid _ ⟨K⟩) := ⟨cs, e, hk⟩
/-- Rules in one. -/
def pxs (C : Cfg) (Sg : FuncId → Option Sig) (T : Nat → Site) := And.intro @p_hid2 (And.intro (@p_new _ _ C Sg T) (And.intro (@p_unI _ _ C Sg T) (And.intro (@p_unB _ _ C Sg T) (And.intro (@p_unV _ _ C Sg T) (And.intro (@p_un0 _ _ C Sg T) (And.intro (@p_ucI _ _ C Sg T) (And.intro (@p_ucB _ _ C Sg T) (And.intro (@p_ucV _ _ C Sg T) (And.intro (@p_uc0 _ _ C Sg T) (And.intro (@p_cond_t _ _ C Sg T) (And.intro (@p_cond_f _ _ C Sg T) (And.intro (@p_opt _ _ C Sg T) (And.intro (@p_inB _ _ C Sg T) (And.intro (@p_join _ _ C Sg T) (And.intro (@p_sel_t _ _ C Sg T) (And.intro (@p_sel_f _ _ C Sg T) ((@p_it))))))))))))))))))
/-- Rules in one. -/
def pxc (C : Cfg) (Sg : FuncId → Option Sig) (T : Nat → Site) := And.intro (@p_lss_t _ _ C Sg T) (And.intro (@p_lss_f _ _ C Sg T) (And.intro (@p_leq_t _ _ C Sg T) (And.intro (@p_leq_f _ _ C Sg T) (And.intro (@p_gtr_t _ _ C Sg T) (And.intro (@p_gtr_f _ _ C Sg T) (And.intro (@p_geq_t _ _ C Sg T) (And.intro (@p_geq_f _ _ C Sg T) (And.intro (@p_eql_t _ _ C Sg T) (And.intro (@p_eql_f _ _ C Sg T) (And.intro (@p_neq_t _ _ C Sg T) (And.intro (@p_neq_f _ _ C Sg T) (And.intro (@p_eqs0 _ _ C Sg T) (And.intro (@p_eqs_t _ _ C Sg T) (And.intro (@p_eqs_f _ _ C Sg T) (And.intro (@p_eqs2_f _ _ C Sg T) (And.intro (@p_eqs3_f _ _ C Sg T) (And.intro (@p_eqsb_t _ _ C Sg T) (And.intro (@p_eqsb_tf _ _ C Sg T) ((@p_eqsb_ft _ _ C Sg T))))))))))))))))))))
/-- Rules in one. -/
def pxa (C : Cfg) (Sg : FuncId → Option Sig) (T : Nat → Site) := And.intro (@p_mul_1 _ _ C Sg T) (And.intro (@p_mul_0 _ _ C Sg T) (And.intro (@p_mul_m _ _ C Sg T) (And.intro (@p_mul_r1 _ _ C Sg T) (And.intro (@p_mul_r0 _ _ C Sg T) (And.intro (@p_mul_rm _ _ C Sg T) (And.intro (@p_add_0 _ _ C Sg T) (And.intro (@p_add_r0 _ _ C Sg T) (And.intro (@p_add_11 _ _ C Sg T) (And.intro (@p_quo_1 _ _ C Sg T) (And.intro (@p_add _ _ C Sg T) (And.intro (@p_sub _ _ C Sg T) (And.intro (@p_mul _ _ C Sg T) (And.intro (@p_add8 _ _ C Sg T) (And.intro (@p_sub8 _ _ C Sg T) (And.intro (@p_mul8 _ _ C Sg T) (And.intro (@p_quo_nn _ _ C Sg T) (And.intro (@p_quo_dv _ _ C Sg T) (And.intro (@p_rem_nn _ _ C Sg T) (And.intro (@p_rem_np _ _ C Sg T) (And.intro (@p_and1 _ _ C Sg T) (And.intro (@p_conv _ _ C Sg T) ((@p_conv8 _ _ C Sg T)))))))))))))))))))))))
end
end Sx
end Go.Am

/-
  THE SEAT'S CALLS: what is known of them, and how it is shown.
-/
set_option maxRecDepth 100000
namespace Go.Am
open Sx Go.Proofs

instance val0 : Val := ⟨fun _ => 0⟩
noncomputable instance kno0 : Kno := KnoC cc
theorem mixed : cc.P.follows .mixedOrders = true := by kernel_rfl
theorem gl_flat (g : Nat) (vs : List Value) (h : cc.G g = some vs) : vs.all flat = true := by
  unfold cc at h
  simp only at h
  split at h <;> first | (cases h; done) | (obtain rfl := Option.some.inj h; kernel_rfl)
theorem gl_cell (g : Nat) (vs : List Value) (h : cc.G g = some vs) : vs.all cellOk = true := by
  unfold cc at h
  simp only at h
  split at h <;> first | (cases h; done) | (obtain rfl := Option.some.inj h; kernel_rfl)
noncomputable abbrev P1 : Alg Prop (List HObj) := PA cc sgTab siteTab
/-- It answers so, and leaves nothing behind. -/
abbrev Cc (g : FuncId) (ls rs : List Lf) : Prop := ∀ H, CallL cc sgTab g ls H rs H

theorem fn_ok {f : FuncId} {fn : Fn1} (hi : FnIs (xc f) sgTab f fn) {ls : List Lf} {H : List HObj} {K : List Lf → List HObj → Prop} (hls : goodLs ls = true)
    (h : execF P1 (xc f) sgTab drN fn ls H K) : ∃ rs H', CallL cc sgTab f ls H rs H' ∧ K rs H' := by
  obtain ⟨rs, h', a1, _, a3⟩ := execF_ok (X := xc f) (holds := id) (abs := id) (PA_ok cc sgTab siteTab) (fun pts ops h n σ σ' hx => dr_ok neuN_ok pts ops h n σ σ' hx) hi (goodLs_ok hls) h
  exact ⟨rs, h', a1, a3⟩
/-- The rules, here. -/
def qxs := pxs cc sgTab siteTab
/-- The rules, here. -/
def qxc := pxc cc sgTab siteTab
/-- The rules, here. -/
def qxa := pxa cc sgTab siteTab
end Go.Am

/-
  THE FUNCTIONS OVER THE ALGEBRA OF PROPOSITIONS, BY PROGRAM.
-/
set_option maxRecDepth 100000
namespace Go.Am
open Sx Go.Proofs

/-- crimp/crimplaw03.CellsLine -/
def p9 (A : Alg Prop (List HObj)) (ls : List Lf) (h : List HObj) (K : List Lf → List HObj → Prop) : Prop := A.unI ls (@hid _ ⟨fun n6 l7 => A.unI l7 (@hid _ ⟨fun n8 l9 => A.unI l9 (@hid _ ⟨fun n10 l11 => A.unI l11 (@hid _ ⟨fun n12 l13 => A.un0 l13 (@hid _ ⟨A.call 40 [(.i n6), (.i n8), (.i n10), (.i n12)] h (@hid _ ⟨fun l14 h15 => A.unI l14 (@hid _ ⟨fun n16 l17 => A.unI l17 (@hid _ ⟨fun n18 l19 => A.unI l19 (@hid _ ⟨fun n20 l21 => A.un0 l21 (@hid _ ⟨A.call 41 [(.i n6), (.i n8), (.i n10)] h15 (@hid _ ⟨fun l22 h23 => A.unI l22 (@hid _ ⟨fun n24 l25 => A.unI l25 (@hid _ ⟨fun n26 l27 => A.unI l27 (@hid _ ⟨fun n28 l29 => A.unI l29 (@hid _ ⟨fun n30 l31 => A.unI l31 (@hid _ ⟨fun n32 l33 => A.unI l33 (@hid _ ⟨fun n34 l35 => A.unI l35 (@hid _ ⟨fun n36 l37 => A.un0 l37 (@hid _ ⟨A.call 42 [(.i n6), (.i n8), (.i n10)] h23 (@hid _ ⟨fun l38 h39 => A.unI l38 (@hid _ ⟨fun n40 l41 => A.un0 l41 (@hid _ ⟨A.cmp .eql n40 1 (@hid _ ⟨fun t42 => A.call 43 [(.i n6), (.i n8), (.i n10)] h39 (@hid _ ⟨fun l43 h44 => A.unI l43 (@hid _ ⟨fun n45 l46 => A.un0 l46 (@hid _ ⟨A.cmp .eql n45 0 (@hid _ ⟨fun t47 => A.eqs [((.b t47), (.b t42))] (@hid _ ⟨fun t48 => A.cond (!t48) (@hid _ ⟨K [(.b false)] h44⟩) (@hid _ ⟨A.cond (!t42) (@hid _ ⟨A.call 43 [(.i n6), (.i n8), (.i n10)] h44 (@hid _ ⟨fun l49 h50 => A.unI l49 (@hid _ ⟨fun n51 l52 => A.un0 l52 (@hid _ ⟨A.cmp .neq n51 1 (@hid _ ⟨fun t53 => A.cond t53 (@hid _ ⟨K [(.b false)] h50⟩) (@hid _ ⟨A.cond (!t42) (@hid _ ⟨A.join (@hid _ ⟨fun l54 h55 => A.unB l54 (@hid _ ⟨fun t56 l57 => A.un0 l57 (@hid _ ⟨K [(.b t56)] h55⟩)⟩)⟩) (@hid _ ⟨fun j58 => A.cmp .eql n20 1 (@hid _ ⟨fun t59 => A.cond t59 (@hid _ ⟨A.cmp .eql n36 1 (@hid _ ⟨fun t60 => A.cond t60 (@hid _ ⟨A.eqs [((.i n16), (.i 0)), ((.i n18), (.i 0))] (@hid _ ⟨fun t61 => A.cond t61 (@hid _ ⟨A.eqs [((.i n24), (.i 0)), ((.i n26), (.i 0)), ((.i n28), (.i 0)), ((.i n30), (.i 0)), ((.i n32), (.i 0)), ((.i n34), (.i 0))] (@hid _ ⟨fun t62 => A.cond t62 (@hid _ ⟨A.call 44 [] h50 (@hid _ ⟨fun l63 h64 => A.unB l63 (@hid _ ⟨fun t65 l66 => A.un0 l66 (@hid _ ⟨j58 [(.b t65)] h64⟩)⟩)⟩)⟩) (@hid _ ⟨j58 [(.b false)] h50⟩)⟩)⟩) (@hid _ ⟨j58 [(.b false)] h50⟩)⟩)⟩) (@hid _ ⟨j58 [(.b false)] h50⟩)⟩)⟩) (@hid _ ⟨j58 [(.b false)] h50⟩)⟩)⟩)⟩) (@hid _ ⟨A.cmp .neq n36 0 (@hid _ ⟨fun t67 => A.cond t67 (@hid _ ⟨K [(.b false)] h50⟩) (@hid _ ⟨A.call 45 [(.i n6), (.i n8), (.i n10)] h50 (@hid _ ⟨fun l68 h69 => A.unI l68 (@hid _ ⟨fun n70 l71 => A.unI l71 (@hid _ ⟨fun n72 l73 => A.unI l73 (@hid _ ⟨fun n74 l75 => A.unI l75 (@hid _ ⟨fun n76 l77 => A.unI l77 (@hid _ ⟨fun n78 l79 => A.unI l79 (@hid _ ⟨fun n80 l81 => A.un0 l81 (@hid _ ⟨A.eqs [((.i n24), (.i n70)), ((.i n26), (.i n72)), ((.i n28), (.i n74)), ((.i n30), (.i n76)), ((.i n32), (.i n78)), ((.i n34), (.i n80))] (@hid _ ⟨fun t82 => A.cond (!t82) (@hid _ ⟨K [(.b false)] h69⟩) (@hid _ ⟨A.cmp .gtr n12 2 (@hid _ ⟨fun t83 => A.cond t83 (@hid _ ⟨A.join (@hid _ ⟨fun l84 h85 => A.unB l84 (@hid _ ⟨fun t86 l87 => A.un0 l87 (@hid _ ⟨K [(.b t86)] h85⟩)⟩)⟩) (@hid _ ⟨fun j88 => A.cmp .eql n20 1 (@hid _ ⟨fun t89 => A.cond t89 (@hid _ ⟨A.eqs [((.i n16), (.i 0)), ((.i n18), (.i 0))] (@hid _ ⟨fun t90 => A.cond t90 (@hid _ ⟨A.call 44 [] h69 (@hid _ ⟨fun l91 h92 => A.unB l91 (@hid _ ⟨fun t93 l94 => A.un0 l94 (@hid _ ⟨j88 [(.b t93)] h92⟩)⟩)⟩)⟩) (@hid _ ⟨j88 [(.b false)] h69⟩)⟩)⟩) (@hid _ ⟨j88 [(.b false)] h69⟩)⟩)⟩)⟩) (@hid _ ⟨A.conv .i64 n12 (@hid _ ⟨fun n95 => A.call 31 [(.i n6), (.i n8), (.i n10), (.i n95)] h69 (@hid _ ⟨fun l96 h97 => A.unI l96 (@hid _ ⟨fun n98 l99 => A.unI l99 (@hid _ ⟨fun n100 l101 => A.un0 l101 (@hid _ ⟨A.call 46 [(.i n98), (.i n100)] h97 (@hid _ ⟨fun l102 h103 => A.unI l102 (@hid _ ⟨fun n104 l105 => A.un0 l105 (@hid _ ⟨A.cmp .eql n104 0 (@hid _ ⟨fun t106 => A.cond t106 (@hid _ ⟨A.join (@hid _ ⟨fun l107 h108 => A.unB l107 (@hid _ ⟨fun t109 l110 => A.un0 l110 (@hid _ ⟨K [(.b t109)] h108⟩)⟩)⟩) (@hid _ ⟨fun j111 => A.cmp .eql n20 3 (@hid _ ⟨fun t112 => A.cond t112 (@hid _ ⟨A.eqs [((.i n16), (.i 0)), ((.i n18), (.i 0))] (@hid _ ⟨fun t113 => A.cond t113 (@hid _ ⟨A.call 44 [] h103 (@hid _ ⟨fun l114 h115 => A.unB l114 (@hid _ ⟨fun t116 l117 => A.un0 l117 (@hid _ ⟨j111 [(.b t116)] h115⟩)⟩)⟩)⟩) (@hid _ ⟨j111 [(.b false)] h103⟩)⟩)⟩) (@hid _ ⟨j111 [(.b false)] h103⟩)⟩)⟩)⟩) (@hid _ ⟨A.join (@hid _ ⟨fun l118 h119 => A.unB l118 (@hid _ ⟨fun t120 l121 => A.un0 l121 (@hid _ ⟨K [(.b t120)] h119⟩)⟩)⟩) (@hid _ ⟨fun j122 => A.cmp .eql n20 0 (@hid _ ⟨fun t123 => A.cond t123 (@hid _ ⟨A.eqs [((.i n16), (.i n98)), ((.i n18), (.i n100))] (@hid _ ⟨fun t124 => A.cond t124 (@hid _ ⟨A.call 44 [] h103 (@hid _ ⟨fun l125 h126 => A.unB l125 (@hid _ ⟨fun t127 l128 => A.un0 l128 (@hid _ ⟨j122 [(.b t127)] h126⟩)⟩)⟩)⟩) (@hid _ ⟨j122 [(.b false)] h103⟩)⟩)⟩) (@hid _ ⟨j122 [(.b false)] h103⟩)⟩)⟩)⟩)⟩)⟩)⟩)⟩)⟩)⟩)⟩)⟩)⟩)⟩)⟩)⟩)⟩)⟩)⟩)⟩)⟩)⟩)⟩)⟩)⟩)⟩)⟩)⟩)⟩)⟩)⟩)⟩)⟩)⟩) (@hid _ ⟨A.cond (!t42) (@hid _ ⟨A.join (@hid _ ⟨fun l129 h130 => A.unB l129 (@hid _ ⟨fun t131 l132 => A.un0 l132 (@hid _ ⟨K [(.b t131)] h130⟩)⟩)⟩) (@hid _ ⟨fun j133 => A.cmp .eql n20 1 (@hid _ ⟨fun t134 => A.cond t134 (@hid _ ⟨A.cmp .eql n36 1 (@hid _ ⟨fun t135 => A.cond t135 (@hid _ ⟨A.eqs [((.i n16), (.i 0)), ((.i n18), (.i 0))] (@hid _ ⟨fun t136 => A.cond t136 (@hid _ ⟨A.eqs [((.i n24), (.i 0)), ((.i n26), (.i 0)), ((.i n28), (.i 0)), ((.i n30), (.i 0)), ((.i n32), (.i 0)), ((.i n34), (.i 0))] (@hid _ ⟨fun t137 => A.cond t137 (@hid _ ⟨A.call 44 [] h44 (@hid _ ⟨fun l138 h139 => A.unB l138 (@hid _ ⟨fun t140 l141 => A.un0 l141 (@hid _ ⟨j133 [(.b t140)] h139⟩)⟩)⟩)⟩) (@hid _ ⟨j133 [(.b false)] h44⟩)⟩)⟩) (@hid _ ⟨j133 [(.b false)] h44⟩)⟩)⟩) (@hid _ ⟨j133 [(.b false)] h44⟩)⟩)⟩) (@hid _ ⟨j133 [(.b false)] h44⟩)⟩)⟩)⟩) (@hid _ ⟨A.cmp .neq n36 0 (@hid _ ⟨fun t142 => A.cond t142 (@hid _ ⟨K [(.b false)] h44⟩) (@hid _ ⟨A.call 45 [(.i n6), (.i n8), (.i n10)] h44 (@hid _ ⟨fun l143 h144 => A.unI l143 (@hid _ ⟨fun n145 l146 => A.unI l146 (@hid _ ⟨fun n147 l148 => A.unI l148 (@hid _ ⟨fun n149 l150 => A.unI l150 (@hid _ ⟨fun n151 l152 => A.unI l152 (@hid _ ⟨fun n153 l154 => A.unI l154 (@hid _ ⟨fun n155 l156 => A.un0 l156 (@hid _ ⟨A.eqs [((.i n24), (.i n145)), ((.i n26), (.i n147)), ((.i n28), (.i n149)), ((.i n30), (.i n151)), ((.i n32), (.i n153)), ((.i n34), (.i n155))] (@hid _ ⟨fun t157 => A.cond (!t157) (@hid _ ⟨K [(.b false)] h144⟩) (@hid _ ⟨A.cmp .gtr n12 2 (@hid _ ⟨fun t158 => A.cond t158 (@hid _ ⟨A.join (@hid _ ⟨fun l159 h160 => A.unB l159 (@hid _ ⟨fun t161 l162 => A.un0 l162 (@hid _ ⟨K [(.b t161)] h160⟩)⟩)⟩) (@hid _ ⟨fun j163 => A.cmp .eql n20 1 (@hid _ ⟨fun t164 => A.cond t164 (@hid _ ⟨A.eqs [((.i n16), (.i 0)), ((.i n18), (.i 0))] (@hid _ ⟨fun t165 => A.cond t165 (@hid _ ⟨A.call 44 [] h144 (@hid _ ⟨fun l166 h167 => A.unB l166 (@hid _ ⟨fun t168 l169 => A.un0 l169 (@hid _ ⟨j163 [(.b t168)] h167⟩)⟩)⟩)⟩) (@hid _ ⟨j163 [(.b false)] h144⟩)⟩)⟩) (@hid _ ⟨j163 [(.b false)] h144⟩)⟩)⟩)⟩) (@hid _ ⟨A.conv .i64 n12 (@hid _ ⟨fun n170 => A.call 31 [(.i n6), (.i n8), (.i n10), (.i n170)] h144 (@hid _ ⟨fun l171 h172 => A.unI l171 (@hid _ ⟨fun n173 l174 => A.unI l174 (@hid _ ⟨fun n175 l176 => A.un0 l176 (@hid _ ⟨A.call 46 [(.i n173), (.i n175)] h172 (@hid _ ⟨fun l177 h178 => A.unI l177 (@hid _ ⟨fun n179 l180 => A.un0 l180 (@hid _ ⟨A.cmp .eql n179 0 (@hid _ ⟨fun t181 => A.cond t181 (@hid _ ⟨A.join (@hid _ ⟨fun l182 h183 => A.unB l182 (@hid _ ⟨fun t184 l185 => A.un0 l185 (@hid _ ⟨K [(.b t184)] h183⟩)⟩)⟩) (@hid _ ⟨fun j186 => A.cmp .eql n20 3 (@hid _ ⟨fun t187 => A.cond t187 (@hid _ ⟨A.eqs [((.i n16), (.i 0)), ((.i n18), (.i 0))] (@hid _ ⟨fun t188 => A.cond t188 (@hid _ ⟨A.call 44 [] h178 (@hid _ ⟨fun l189 h190 => A.unB l189 (@hid _ ⟨fun t191 l192 => A.un0 l192 (@hid _ ⟨j186 [(.b t191)] h190⟩)⟩)⟩)⟩) (@hid _ ⟨j186 [(.b false)] h178⟩)⟩)⟩) (@hid _ ⟨j186 [(.b false)] h178⟩)⟩)⟩)⟩) (@hid _ ⟨A.join (@hid _ ⟨fun l193 h194 => A.unB l193 (@hid _ ⟨fun t195 l196 => A.un0 l196 (@hid _ ⟨K [(.b t195)] h194⟩)⟩)⟩) (@hid _ ⟨fun j197 => A.cmp .eql n20 0 (@hid _ ⟨fun t198 => A.cond t198 (@hid _ ⟨A.eqs [((.i n16), (.i n173)), ((.i n18), (.i n175))] (@hid _ ⟨fun t199 => A.cond t199 (@hid _ ⟨A.call 44 [] h178 (@hid _ ⟨fun l200 h201 => A.unB l200 (@hid _ ⟨fun t202 l203 => A.un0 l203 (@hid _ ⟨j197 [(.b t202)] h201⟩)⟩)⟩)⟩) (@hid _ ⟨j197 [(.b false)] h178⟩)⟩)⟩) (@hid _ ⟨j197 [(.b false)] h178⟩)⟩)⟩)⟩)⟩)⟩)⟩)⟩)⟩)⟩)⟩)⟩)⟩)⟩)⟩)⟩)⟩)⟩)⟩)⟩)⟩)⟩)⟩)⟩)⟩)⟩)⟩)⟩)⟩)⟩)⟩)⟩)⟩)⟩)⟩)⟩)⟩)⟩)⟩)⟩)⟩)⟩)⟩)⟩)⟩)⟩)⟩)⟩)⟩)⟩)⟩)⟩)⟩)⟩)⟩)⟩)⟩)⟩)
theorem g9 : (fun A : Alg Prop (List HObj) => p9 A) = fun A => f9 A := by kernel_rfl
theorem h9 (ls : List Lf) (H : List HObj) (K : List Lf → List HObj → Prop) : p9 P1 ls H K = execF P1 (xc 9) sgTab drN n9 ls H K :=
  congrFun (congrFun (congrFun ((congrFun g9 P1).trans (congrFun (congrFun (congrFun e9 Prop) (List HObj)) P1)) ls) H) K
theorem u9 {ls : List Lf} {H : List HObj} {K : List Lf → List HObj → Prop} (hls : goodLs ls = true) (h : p9 P1 ls H K) : ∃ rs H', CallL cc sgTab 9 ls H rs H' ∧ K rs H' :=
  fn_ok i9 hls (h9 ls H K ▸ h)
theorem q9 {ls rs : List Lf} (hls : goodLs ls = true) (h : p9 P1 ls [] fun rs' _ => rs' = rs) : Cc 9 ls rs := by
  obtain ⟨_, _, h1, rfl⟩ := u9 hls h
  exact ct_of mixed gl_flat (sg := ⟨[.agg [.i .i64, .i .i64, .i .u8], .leaf (.i .u8)], [lb]⟩) rfl (by kernel_rfl) h1
/-- crimp/crimpref03.Line -/
def p31 (A : Alg Prop (List HObj)) (ls : List Lf) (h : List HObj) (K : List Lf → List HObj → Prop) : Prop := A.unI ls (@hid _ ⟨fun n6 l7 => A.unI l7 (@hid _ ⟨fun n8 l9 => A.unI l9 (@hid _ ⟨fun n10 l11 => A.unI l11 (@hid _ ⟨fun n12 l13 => A.un0 l13 (@hid _ ⟨A.call 45 [(.i n6), (.i n8), (.i n10)] h (@hid _ ⟨fun l14 h15 => A.unI l14 (@hid _ ⟨fun n16 l17 => A.unI l17 (@hid _ ⟨fun n18 l19 => A.unI l19 (@hid _ ⟨fun n20 l21 => A.unI l21 (@hid _ ⟨fun n22 l23 => A.unI l23 (@hid _ ⟨fun n24 l25 => A.unI l25 (@hid _ ⟨fun n26 l27 => A.un0 l27 (@hid _ ⟨A.ari .add .i64 n12 1 (@hid _ ⟨fun n28 => A.ari .rem .i64 n28 3 (@hid _ ⟨fun n29 => A.opt (inB 3 n29) (@hid _ ⟨fun x30 => A.opt (pickL [(.i n16), (.i n18), (.i n20), (.i n22), (.i n24), (.i n26)] 0 [(n29, 2)] 2) (@hid _ ⟨fun x31 => A.unI x31 (@hid _ ⟨fun n32 l33 => A.unI l33 (@hid _ ⟨fun n34 l35 => A.un0 l35 (@hid _ ⟨A.ari .add .i64 n12 2 (@hid _ ⟨fun n36 => A.ari .rem .i64 n36 3 (@hid _ ⟨fun n37 => A.opt (inB 3 n37) (@hid _ ⟨fun x38 => A.opt (pickL [(.i n16), (.i n18), (.i n20), (.i n22), (.i n24), (.i n26)] 0 [(n37, 2)] 2) (@hid _ ⟨fun x39 => A.unI x39 (@hid _ ⟨fun n40 l41 => A.unI l41 (@hid _ ⟨fun n42 l43 => A.un0 l43 (@hid _ ⟨A.loop (@hid _ ⟨fun s44 l45 h46 => A.unI l45 (@hid _ ⟨fun n47 l48 => A.unI l48 (@hid _ ⟨fun n49 l50 => A.unI l50 (@hid _ ⟨fun n51 l52 => A.un0 l52 (@hid _ ⟨A.cmp .leq n47 4 (@hid _ ⟨fun t53 => A.cond t53 (@hid _ ⟨A.call 70 [(.i n47)] h46 (@hid _ ⟨fun l54 h55 => A.unI l54 (@hid _ ⟨fun n56 l57 => A.unI l57 (@hid _ ⟨fun n58 l59 => A.un0 l59 (@hid _ ⟨A.ari .mul .i64 n56 n32 (@hid _ ⟨fun n60 => A.ari .mul .i64 n58 n34 (@hid _ ⟨fun n61 => A.ari .add .i64 n60 n61 (@hid _ ⟨fun n62 => A.ari .mul .i64 n56 n40 (@hid _ ⟨fun n63 => A.ari .mul .i64 n58 n42 (@hid _ ⟨fun n64 => A.ari .add .i64 n63 n64 (@hid _ ⟨fun n65 => A.cmp .eql n62 n65 (@hid _ ⟨fun t66 => A.join (@hid _ ⟨fun l67 h68 => A.unI l67 (@hid _ ⟨fun n69 l70 => A.unI l70 (@hid _ ⟨fun n71 l72 => A.un0 l72 (@hid _ ⟨A.ari .add .u8 n47 1 (@hid _ ⟨fun n73 => s44 [(.i n73), (.i n69), (.i n71)] h68⟩)⟩)⟩)⟩)⟩) (@hid _ ⟨fun j74 => A.cond t66 (@hid _ ⟨A.ari .mul .i64 n56 n32 (@hid _ ⟨fun n75 => A.ari .mul .i64 n58 n34 (@hid _ ⟨fun n76 => A.ari .add .i64 n75 n76 (@hid _ ⟨fun n77 => A.ari .quo .i64 n77 2 (@hid _ ⟨fun n78 => j74 [(.i n47), (.i n78)] h55⟩)⟩)⟩)⟩)⟩) (@hid _ ⟨j74 [(.i n49), (.i n51)] h55⟩)⟩)⟩)⟩)⟩)⟩)⟩)⟩)⟩)⟩)⟩)⟩)⟩)⟩) (@hid _ ⟨K [(.i n49), (.i n51)] h46⟩)⟩)⟩)⟩)⟩)⟩)⟩) [(.i 1), (.i 0), (.i 0)] h15⟩)⟩)⟩)⟩)⟩)⟩)⟩)⟩)⟩)⟩)⟩)⟩)⟩)⟩)⟩)⟩)⟩)⟩)⟩)⟩)⟩)⟩)⟩)⟩)⟩)⟩)⟩)
theorem g31 : (fun A : Alg Prop (List HObj) => p31 A) = fun A => f31 A := by kernel_rfl
theorem h31 (ls : List Lf) (H : List HObj) (K : List Lf → List HObj → Prop) : p31 P1 ls H K = execF P1 (xc 31) sgTab drN n31 ls H K :=
  congrFun (congrFun (congrFun ((congrFun g31 P1).trans (congrFun (congrFun (congrFun e31 Prop) (List HObj)) P1)) ls) H) K
theorem u31 {ls : List Lf} {H : List HObj} {K : List Lf → List HObj → Prop} (hls : goodLs ls = true) (h : p31 P1 ls H K) : ∃ rs H', CallL cc sgTab 31 ls H rs H' ∧ K rs H' :=
  fn_ok i31 hls (h31 ls H K ▸ h)
theorem q31 {ls rs : List Lf} (hls : goodLs ls = true) (h : p31 P1 ls [] fun rs' _ => rs' = rs) : Cc 31 ls rs := by
  obtain ⟨_, _, h1, rfl⟩ := u31 hls h
  exact ct_of mixed gl_flat (sg := ⟨[.agg [.i .i64, .i .i64, .i .u8], li], [.agg [.i .u8, .i .i64]]⟩) rfl (by kernel_rfl) h1
/-- crimp/cells.Line -/
def p40 (A : Alg Prop (List HObj)) (ls : List Lf) (h : List HObj) (K : List Lf → List HObj → Prop) : Prop := A.unI ls (@hid _ ⟨fun n6 l7 => A.unI l7 (@hid _ ⟨fun n8 l9 => A.unI l9 (@hid _ ⟨fun n10 l11 => A.unI l11 (@hid _ ⟨fun n12 l13 => A.un0 l13 (@hid _ ⟨A.call 43 [(.i n6), (.i n8), (.i n10)] h (@hid _ ⟨fun l14 h15 => A.unI l14 (@hid _ ⟨fun n16 l17 => A.un0 l17 (@hid _ ⟨A.cmp .neq n16 0 (@hid _ ⟨fun t18 => A.cond t18 (@hid _ ⟨K [(.i 0), (.i 0), (.i 1)] h15⟩) (@hid _ ⟨A.cmp .gtr n12 2 (@hid _ ⟨fun t19 => A.cond t19 (@hid _ ⟨K [(.i 0), (.i 0), (.i 1)] h15⟩) (@hid _ ⟨A.opt (inB 4 n10) (@hid _ ⟨fun x20 => A.opt (pickV gl0 0 [(n10, 17)] 17) (@hid _ ⟨fun x21 => A.ucI .i64 x21 (@hid _ ⟨fun n22 l23 => A.ucI .i64 l23 (@hid _ ⟨fun n24 l25 => A.ucI .u8 l25 (@hid _ ⟨fun n26 l27 => A.ucI .i64 l27 (@hid _ ⟨fun n28 l29 => A.ucI .i64 l29 (@hid _ ⟨fun n30 l31 => A.ucI .i64 l31 (@hid _ ⟨fun n32 l33 => A.ucI .u8 l33 (@hid _ ⟨fun n34 l35 => A.ucI .i64 l35 (@hid _ ⟨fun n36 l37 => A.ucI .i64 l37 (@hid _ ⟨fun n38 l39 => A.ucI .u8 l39 (@hid _ ⟨fun n40 l41 => A.ucI .i64 l41 (@hid _ ⟨fun n42 l43 => A.ucI .i64 l43 (@hid _ ⟨fun n44 l45 => A.ucI .u8 l45 (@hid _ ⟨fun n46 l47 => A.ucI .i64 l47 (@hid _ ⟨fun n48 l49 => A.ucI .i64 l49 (@hid _ ⟨fun n50 l51 => A.ucI .i64 l51 (@hid _ ⟨fun n52 l53 => A.ucI .i64 l53 (@hid _ ⟨fun n54 l55 => A.uc0 l55 (@hid _ ⟨A.ari .add .i64 n6 n28 (@hid _ ⟨fun n56 => A.cmp .eql n12 1 (@hid _ ⟨fun t57 => A.join (@hid _ ⟨fun l58 h59 => A.unI l58 (@hid _ ⟨fun n60 l61 => A.unI l61 (@hid _ ⟨fun n62 l63 => A.un0 l63 (@hid _ ⟨A.call 74 [(.i n60), (.i n62)] h59 (@hid _ ⟨fun l64 h65 => A.unI l64 (@hid _ ⟨fun n66 l67 => A.un0 l67 (@hid _ ⟨A.cmp .neq n66 0 (@hid _ ⟨fun t68 => A.cond t68 (@hid _ ⟨K [(.i 0), (.i 0), (.i 3)] h65⟩) (@hid _ ⟨K [(.i n60), (.i n62), (.i 0)] h65⟩)⟩)⟩)⟩)⟩)⟩)⟩)⟩)⟩) (@hid _ ⟨fun j69 => A.cond t57 (@hid _ ⟨A.ari .add .i64 n6 n8 (@hid _ ⟨fun n70 => A.ari .add .i64 n70 1 (@hid _ ⟨fun n71 => j69 [(.i 3), (.i n71)] h15⟩)⟩)⟩) (@hid _ ⟨A.cmp .eql n12 2 (@hid _ ⟨fun t72 => A.join (@hid _ ⟨fun l73 h74 => A.unI l73 (@hid _ ⟨fun n75 l76 => A.unI l76 (@hid _ ⟨fun n77 l78 => A.un0 l78 (@hid _ ⟨j69 [(.i n75), (.i n77)] h74⟩)⟩)⟩)⟩) (@hid _ ⟨fun j79 => A.cond t72 (@hid _ ⟨A.ari .sub .i64 n8 n6 (@hid _ ⟨fun n80 => j79 [(.i 4), (.i n80)] h15⟩)⟩) (@hid _ ⟨A.cmp .eql n26 2 (@hid _ ⟨fun t81 => A.join (@hid _ ⟨fun l82 h83 => A.unI l82 (@hid _ ⟨fun n84 l85 => A.unI l85 (@hid _ ⟨fun n86 l87 => A.un0 l87 (@hid _ ⟨j79 [(.i n84), (.i n86)] h83⟩)⟩)⟩)⟩) (@hid _ ⟨fun j88 => A.cond t81 (@hid _ ⟨A.ari .add .i64 n8 n28 (@hid _ ⟨fun n89 => j88 [(.i n26), (.i n89)] h15⟩)⟩) (@hid _ ⟨j88 [(.i n26), (.i n56)] h15⟩)⟩)⟩)⟩)⟩)⟩)⟩)⟩)⟩)⟩)⟩)⟩)⟩)⟩)⟩)⟩)⟩)⟩)⟩)⟩)⟩)⟩)⟩)⟩)⟩)⟩)⟩)⟩)⟩)⟩)⟩)⟩)⟩)⟩)⟩)⟩)⟩)⟩)⟩)⟩)⟩)⟩)
theorem g40 : (fun A : Alg Prop (List HObj) => p40 A) = fun A => f40 A := by kernel_rfl
theorem h40 (ls : List Lf) (H : List HObj) (K : List Lf → List HObj → Prop) : p40 P1 ls H K = execF P1 (xc 40) sgTab drN n40 ls H K :=
  congrFun (congrFun (congrFun ((congrFun g40 P1).trans (congrFun (congrFun (congrFun e40 Prop) (List HObj)) P1)) ls) H) K
theorem u40 {ls : List Lf} {H : List HObj} {K : List Lf → List HObj → Prop} (hls : goodLs ls = true) (h : p40 P1 ls H K) : ∃ rs H', CallL cc sgTab 40 ls H rs H' ∧ K rs H' :=
  fn_ok i40 hls (h40 ls H K ▸ h)
theorem q40 {ls rs : List Lf} (hls : goodLs ls = true) (h : p40 P1 ls [] fun rs' _ => rs' = rs) : Cc 40 ls rs := by
  obtain ⟨_, _, h1, rfl⟩ := u40 hls h
  exact ct_of mixed gl_flat (sg := ⟨[.agg [.i .i64, .i .i64, .i .u8], .leaf (.i .u8)], [.agg [.i .u8, .i .i64], li]⟩) rfl (by kernel_rfl) h1
/-- crimp/cells.Corners -/
def p41 (A : Alg Prop (List HObj)) (ls : List Lf) (h : List HObj) (K : List Lf → List HObj → Prop) : Prop := A.unI ls (@hid _ ⟨fun n6 l7 => A.unI l7 (@hid _ ⟨fun n8 l9 => A.unI l9 (@hid _ ⟨fun n10 l11 => A.un0 l11 (@hid _ ⟨A.call 43 [(.i n6), (.i n8), (.i n10)] h (@hid _ ⟨fun l12 h13 => A.unI l12 (@hid _ ⟨fun n14 l15 => A.un0 l15 (@hid _ ⟨A.cmp .neq n14 0 (@hid _ ⟨fun t16 => A.cond t16 (@hid _ ⟨K [(.i 0), (.i 0), (.i 0), (.i 0), (.i 0), (.i 0), (.i 1)] h13⟩) (@hid _ ⟨A.opt (inB 4 n10) (@hid _ ⟨fun x17 => A.opt (pickV gl0 0 [(n10, 17)] 17) (@hid _ ⟨fun x18 => A.ucI .i64 x18 (@hid _ ⟨fun n19 l20 => A.ucI .i64 l20 (@hid _ ⟨fun n21 l22 => A.ucI .u8 l22 (@hid _ ⟨fun n23 l24 => A.ucI .i64 l24 (@hid _ ⟨fun n25 l26 => A.ucI .i64 l26 (@hid _ ⟨fun n27 l28 => A.ucI .i64 l28 (@hid _ ⟨fun n29 l30 => A.ucI .u8 l30 (@hid _ ⟨fun n31 l32 => A.ucI .i64 l32 (@hid _ ⟨fun n33 l34 => A.ucI .i64 l34 (@hid _ ⟨fun n35 l36 => A.ucI .u8 l36 (@hid _ ⟨fun n37 l38 => A.ucI .i64 l38 (@hid _ ⟨fun n39 l40 => A.ucI .i64 l40 (@hid _ ⟨fun n41 l42 => A.ucI .u8 l42 (@hid _ ⟨fun n43 l44 => A.ucI .i64 l44 (@hid _ ⟨fun n45 l46 => A.ucI .i64 l46 (@hid _ ⟨fun n47 l48 => A.ucI .i64 l48 (@hid _ ⟨fun n49 l50 => A.ucI .i64 l50 (@hid _ ⟨fun n51 l52 => A.uc0 l52 (@hid _ ⟨A.loop (@hid _ ⟨fun s53 l54 h55 => A.unI l54 (@hid _ ⟨fun n56 l57 => A.unI l57 (@hid _ ⟨fun n58 l59 => A.unI l59 (@hid _ ⟨fun n60 l61 => A.unI l61 (@hid _ ⟨fun n62 l63 => A.unI l63 (@hid _ ⟨fun n64 l65 => A.unI l65 (@hid _ ⟨fun n66 l67 => A.unI l67 (@hid _ ⟨fun n68 l69 => A.un0 l69 (@hid _ ⟨A.cmp .lss n56 3 (@hid _ ⟨fun t70 => A.cond t70 (@hid _ ⟨A.opt (inB 3 n56) (@hid _ ⟨fun x71 => A.opt (pickL [(.i n58), (.i n60), (.i n62), (.i n64), (.i n66), (.i n68)] 0 [(n56, 2)] 1) (@hid _ ⟨fun x72 => A.unI x72 (@hid _ ⟨fun n73 l74 => A.un0 l74 (@hid _ ⟨A.ari .mul .i64 2 n6 (@hid _ ⟨fun n75 => A.ari .add .i64 n73 n75 (@hid _ ⟨fun n76 => A.opt (inB 3 n56) (@hid _ ⟨fun x77 => A.opt (putL [(.i n58), (.i n60), (.i n62), (.i n64), (.i n66), (.i n68)] 0 [(n56, 2)] [(.i n76)]) (@hid _ ⟨fun x78 => A.unI x78 (@hid _ ⟨fun n79 l80 => A.unI l80 (@hid _ ⟨fun n81 l82 => A.unI l82 (@hid _ ⟨fun n83 l84 => A.unI l84 (@hid _ ⟨fun n85 l86 => A.unI l86 (@hid _ ⟨fun n87 l88 => A.unI l88 (@hid _ ⟨fun n89 l90 => A.un0 l90 (@hid _ ⟨A.opt (inB 3 n56) (@hid _ ⟨fun x91 => A.opt (pickL [(.i n79), (.i n81), (.i n83), (.i n85), (.i n87), (.i n89)] 1 [(n56, 2)] 1) (@hid _ ⟨fun x92 => A.unI x92 (@hid _ ⟨fun n93 l94 => A.un0 l94 (@hid _ ⟨A.ari .mul .i64 2 n8 (@hid _ ⟨fun n95 => A.ari .add .i64 n93 n95 (@hid _ ⟨fun n96 => A.opt (inB 3 n56) (@hid _ ⟨fun x97 => A.opt (putL [(.i n79), (.i n81), (.i n83), (.i n85), (.i n87), (.i n89)] 1 [(n56, 2)] [(.i n96)]) (@hid _ ⟨fun x98 => A.unI x98 (@hid _ ⟨fun n99 l100 => A.unI l100 (@hid _ ⟨fun n101 l102 => A.unI l102 (@hid _ ⟨fun n103 l104 => A.unI l104 (@hid _ ⟨fun n105 l106 => A.unI l106 (@hid _ ⟨fun n107 l108 => A.unI l108 (@hid _ ⟨fun n109 l110 => A.un0 l110 (@hid _ ⟨A.ari .add .i64 n56 1 (@hid _ ⟨fun n111 => s53 [(.i n111), (.i n99), (.i n101), (.i n103), (.i n105), (.i n107), (.i n109)] h55⟩)⟩)⟩)⟩)⟩)⟩)⟩)⟩)⟩)⟩)⟩)⟩)⟩)⟩)⟩)⟩)⟩)⟩)⟩)⟩)⟩)⟩)⟩)⟩)⟩)⟩)⟩)⟩)⟩)⟩)⟩)⟩) (@hid _ ⟨K [(.i n58), (.i n60), (.i n62), (.i n64), (.i n66), (.i n68), (.i 0)] h55⟩)⟩)⟩)⟩)⟩)⟩)⟩)⟩)⟩)⟩)⟩) [(.i 0), (.i 1), (.i 1), (.i n45), (.i n47), (.i n49), (.i n51)] h13⟩)⟩)⟩)⟩)⟩)⟩)⟩)⟩)⟩)⟩)⟩)⟩)⟩)⟩)⟩)⟩)⟩)⟩)⟩)⟩)⟩)⟩)⟩)⟩)⟩)⟩)⟩)⟩)⟩)
theorem g41 : (fun A : Alg Prop (List HObj) => p41 A) = fun A => f41 A := by kernel_rfl
theorem h41 (ls : List Lf) (H : List HObj) (K : List Lf → List HObj → Prop) : p41 P1 ls H K = execF P1 (xc 41) sgTab drN n41 ls H K :=
  congrFun (congrFun (congrFun ((congrFun g41 P1).trans (congrFun (congrFun (congrFun e41 Prop) (List HObj)) P1)) ls) H) K
theorem u41 {ls : List Lf} {H : List HObj} {K : List Lf → List HObj → Prop} (hls : goodLs ls = true) (h : p41 P1 ls H K) : ∃ rs H', CallL cc sgTab 41 ls H rs H' ∧ K rs H' :=
  fn_ok i41 hls (h41 ls H K ▸ h)
theorem q41 {ls rs : List Lf} (hls : goodLs ls = true) (h : p41 P1 ls [] fun rs' _ => rs' = rs) : Cc 41 ls rs := by
  obtain ⟨_, _, h1, rfl⟩ := u41 hls h
  exact ct_of mixed gl_flat (sg := ⟨[.agg [.i .i64, .i .i64, .i .u8]], [.agg [.i .i64, .i .i64, .i .i64, .i .i64, .i .i64, .i .i64], li]⟩) rfl (by kernel_rfl) h1
/-- crimp/crimpref03.Valid -/
def p42 (A : Alg Prop (List HObj)) (ls : List Lf) (h : List HObj) (K : List Lf → List HObj → Prop) : Prop := A.unI ls (@hid _ ⟨fun n6 l7 => A.unI l7 (@hid _ ⟨fun n8 l9 => A.unI l9 (@hid _ ⟨fun n10 l11 => A.un0 l11 (@hid _ ⟨A.cmp .lss n6 (-4096) (@hid _ ⟨fun t12 => A.cond t12 (@hid _ ⟨K [(.i 0)] h⟩) (@hid _ ⟨A.cmp .gtr n6 4096 (@hid _ ⟨fun t13 => A.cond t13 (@hid _ ⟨K [(.i 0)] h⟩) (@hid _ ⟨A.cmp .lss n8 (-4096) (@hid _ ⟨fun t14 => A.cond t14 (@hid _ ⟨K [(.i 0)] h⟩) (@hid _ ⟨A.cmp .gtr n8 4096 (@hid _ ⟨fun t15 => A.cond t15 (@hid _ ⟨K [(.i 0)] h⟩) (@hid _ ⟨A.cmp .gtr n10 3 (@hid _ ⟨fun t16 => A.cond t16 (@hid _ ⟨K [(.i 0)] h⟩) (@hid _ ⟨K [(.i 1)] h⟩)⟩)⟩)⟩)⟩)⟩)⟩)⟩)⟩)⟩)⟩)⟩)⟩)⟩)
theorem g42 : (fun A : Alg Prop (List HObj) => p42 A) = fun A => f42 A := by kernel_rfl
theorem h42 (ls : List Lf) (H : List HObj) (K : List Lf → List HObj → Prop) : p42 P1 ls H K = execF P1 (xc 42) sgTab drN n42 ls H K :=
  congrFun (congrFun (congrFun ((congrFun g42 P1).trans (congrFun (congrFun (congrFun e42 Prop) (List HObj)) P1)) ls) H) K
theorem u42 {ls : List Lf} {H : List HObj} {K : List Lf → List HObj → Prop} (hls : goodLs ls = true) (h : p42 P1 ls H K) : ∃ rs H', CallL cc sgTab 42 ls H rs H' ∧ K rs H' :=
  fn_ok i42 hls (h42 ls H K ▸ h)
theorem q42 {ls rs : List Lf} (hls : goodLs ls = true) (h : p42 P1 ls [] fun rs' _ => rs' = rs) : Cc 42 ls rs := by
  obtain ⟨_, _, h1, rfl⟩ := u42 hls h
  exact ct_of mixed gl_flat (sg := ⟨[.agg [.i .i64, .i .i64, .i .u8]], [li]⟩) rfl (by kernel_rfl) h1
/-- crimp/cells.Check -/
def p43 (A : Alg Prop (List HObj)) (ls : List Lf) (h : List HObj) (K : List Lf → List HObj → Prop) : Prop := A.unI ls (@hid _ ⟨fun n6 l7 => A.unI l7 (@hid _ ⟨fun n8 l9 => A.unI l9 (@hid _ ⟨fun n10 l11 => A.un0 l11 (@hid _ ⟨A.cmp .lss n6 (-4096) (@hid _ ⟨fun t12 => A.cond t12 (@hid _ ⟨K [(.i 1)] h⟩) (@hid _ ⟨A.cmp .gtr n6 4096 (@hid _ ⟨fun t13 => A.cond t13 (@hid _ ⟨K [(.i 1)] h⟩) (@hid _ ⟨A.cmp .lss n8 (-4096) (@hid _ ⟨fun t14 => A.cond t14 (@hid _ ⟨K [(.i 1)] h⟩) (@hid _ ⟨A.cmp .gtr n8 4096 (@hid _ ⟨fun t15 => A.cond t15 (@hid _ ⟨K [(.i 1)] h⟩) (@hid _ ⟨A.cmp .gtr n10 3 (@hid _ ⟨fun t16 => A.cond t16 (@hid _ ⟨K [(.i 1)] h⟩) (@hid _ ⟨K [(.i 0)] h⟩)⟩)⟩)⟩)⟩)⟩)⟩)⟩)⟩)⟩)⟩)⟩)⟩)⟩)
theorem g43 : (fun A : Alg Prop (List HObj) => p43 A) = fun A => f43 A := by kernel_rfl
theorem h43 (ls : List Lf) (H : List HObj) (K : List Lf → List HObj → Prop) : p43 P1 ls H K = execF P1 (xc 43) sgTab drN n43 ls H K :=
  congrFun (congrFun (congrFun ((congrFun g43 P1).trans (congrFun (congrFun (congrFun e43 Prop) (List HObj)) P1)) ls) H) K
theorem u43 {ls : List Lf} {H : List HObj} {K : List Lf → List HObj → Prop} (hls : goodLs ls = true) (h : p43 P1 ls H K) : ∃ rs H', CallL cc sgTab 43 ls H rs H' ∧ K rs H' :=
  fn_ok i43 hls (h43 ls H K ▸ h)
theorem q43 {ls rs : List Lf} (hls : goodLs ls = true) (h : p43 P1 ls [] fun rs' _ => rs' = rs) : Cc 43 ls rs := by
  obtain ⟨_, _, h1, rfl⟩ := u43 hls h
  exact ct_of mixed gl_flat (sg := ⟨[.agg [.i .i64, .i .i64, .i .u8]], [li]⟩) rfl (by kernel_rfl) h1
/-- crimp/crimpref03.Corners -/
def p45 (A : Alg Prop (List HObj)) (ls : List Lf) (h : List HObj) (K : List Lf → List HObj → Prop) : Prop := A.unI ls (@hid _ ⟨fun n6 l7 => A.unI l7 (@hid _ ⟨fun n8 l9 => A.unI l9 (@hid _ ⟨fun n10 l11 => A.un0 l11 (@hid _ ⟨A.ari .mul .i64 2 n6 (@hid _ ⟨fun n12 => A.ari .mul .i64 2 n8 (@hid _ ⟨fun n13 => A.ari .add .i64 n12 2 (@hid _ ⟨fun n14 => A.ari .add .i64 n12 2 (@hid _ ⟨fun n15 => A.ari .add .i64 n13 2 (@hid _ ⟨fun n16 => A.ari .add .i64 n13 2 (@hid _ ⟨fun n17 => A.conv .i64 n10 (@hid _ ⟨fun n18 => A.conv .i64 n10 (@hid _ ⟨fun n19 => A.ari .add .i64 n19 1 (@hid _ ⟨fun n20 => A.ari .rem .i64 n20 4 (@hid _ ⟨fun n21 => A.ari .rem .i64 n18 2 (@hid _ ⟨fun n22 => A.cmp .eql n22 1 (@hid _ ⟨fun t23 => A.join (@hid _ ⟨fun l24 h25 => A.unI l24 (@hid _ ⟨fun n26 l27 => A.unI l27 (@hid _ ⟨fun n28 l29 => A.un0 l29 (@hid _ ⟨A.ari .add .i64 n12 1 (@hid _ ⟨fun n30 => A.ari .add .i64 n13 1 (@hid _ ⟨fun n31 => A.opt (inB 4 n26) (@hid _ ⟨fun x32 => A.opt (pickL [(.i n12), (.i n13), (.i n14), (.i n13), (.i n15), (.i n16), (.i n12), (.i n17)] 0 [(n26, 2)] 2) (@hid _ ⟨fun x33 => A.unI x33 (@hid _ ⟨fun n34 l35 => A.unI l35 (@hid _ ⟨fun n36 l37 => A.un0 l37 (@hid _ ⟨A.opt (inB 4 n28) (@hid _ ⟨fun x38 => A.opt (pickL [(.i n12), (.i n13), (.i n14), (.i n13), (.i n15), (.i n16), (.i n12), (.i n17)] 0 [(n28, 2)] 2) (@hid _ ⟨fun x39 => A.unI x39 (@hid _ ⟨fun n40 l41 => A.unI l41 (@hid _ ⟨fun n42 l43 => A.un0 l43 (@hid _ ⟨K [(.i n30), (.i n31), (.i n34), (.i n36), (.i n40), (.i n42)] h25⟩)⟩)⟩)⟩)⟩)⟩)⟩)⟩)⟩)⟩)⟩)⟩)⟩)⟩)⟩)⟩) (@hid _ ⟨fun j44 => A.cond t23 (@hid _ ⟨j44 [(.i n21), (.i n18)] h⟩) (@hid _ ⟨j44 [(.i n18), (.i n21)] h⟩)⟩)⟩)⟩)⟩)⟩)⟩)⟩)⟩)⟩)⟩)⟩)⟩)⟩)⟩)⟩)⟩)⟩)
theorem g45 : (fun A : Alg Prop (List HObj) => p45 A) = fun A => f45 A := by kernel_rfl
theorem h45 (ls : List Lf) (H : List HObj) (K : List Lf → List HObj → Prop) : p45 P1 ls H K = execF P1 (xc 45) sgTab drN n45 ls H K :=
  congrFun (congrFun (congrFun ((congrFun g45 P1).trans (congrFun (congrFun (congrFun e45 Prop) (List HObj)) P1)) ls) H) K
theorem u45 {ls : List Lf} {H : List HObj} {K : List Lf → List HObj → Prop} (hls : goodLs ls = true) (h : p45 P1 ls H K) : ∃ rs H', CallL cc sgTab 45 ls H rs H' ∧ K rs H' :=
  fn_ok i45 hls (h45 ls H K ▸ h)
theorem q45 {ls rs : List Lf} (hls : goodLs ls = true) (h : p45 P1 ls [] fun rs' _ => rs' = rs) : Cc 45 ls rs := by
  obtain ⟨_, _, h1, rfl⟩ := u45 hls h
  exact ct_of mixed gl_flat (sg := ⟨[.agg [.i .i64, .i .i64, .i .u8]], [.agg [.i .i64, .i .i64, .i .i64, .i .i64, .i .i64, .i .i64]]⟩) rfl (by kernel_rfl) h1
/-- crimp/crimpref01.Valid -/
def p46 (A : Alg Prop (List HObj)) (ls : List Lf) (h : List HObj) (K : List Lf → List HObj → Prop) : Prop := A.unI ls (@hid _ ⟨fun n6 l7 => A.unI l7 (@hid _ ⟨fun n8 l9 => A.un0 l9 (@hid _ ⟨A.cmp .geq n6 1 (@hid _ ⟨fun t10 => A.cond t10 (@hid _ ⟨A.cmp .leq n6 4 (@hid _ ⟨fun t11 => A.cond t11 (@hid _ ⟨A.cmp .geq n8 (-4096) (@hid _ ⟨fun t12 => A.cond t12 (@hid _ ⟨A.cmp .leq n8 4096 (@hid _ ⟨fun t13 => A.cond t13 (@hid _ ⟨K [(.i 1)] h⟩) (@hid _ ⟨K [(.i 0)] h⟩)⟩)⟩) (@hid _ ⟨K [(.i 0)] h⟩)⟩)⟩) (@hid _ ⟨K [(.i 0)] h⟩)⟩)⟩) (@hid _ ⟨K [(.i 0)] h⟩)⟩)⟩)⟩)⟩)
theorem g46 : (fun A : Alg Prop (List HObj) => p46 A) = fun A => f46 A := by kernel_rfl
theorem h46 (ls : List Lf) (H : List HObj) (K : List Lf → List HObj → Prop) : p46 P1 ls H K = execF P1 (xc 46) sgTab drN n46 ls H K :=
  congrFun (congrFun (congrFun ((congrFun g46 P1).trans (congrFun (congrFun (congrFun e46 Prop) (List HObj)) P1)) ls) H) K
theorem u46 {ls : List Lf} {H : List HObj} {K : List Lf → List HObj → Prop} (hls : goodLs ls = true) (h : p46 P1 ls H K) : ∃ rs H', CallL cc sgTab 46 ls H rs H' ∧ K rs H' :=
  fn_ok i46 hls (h46 ls H K ▸ h)
theorem q46 {ls rs : List Lf} (hls : goodLs ls = true) (h : p46 P1 ls [] fun rs' _ => rs' = rs) : Cc 46 ls rs := by
  obtain ⟨_, _, h1, rfl⟩ := u46 hls h
  exact ct_of mixed gl_flat (sg := ⟨[.agg [.i .u8, .i .i64]], [li]⟩) rfl (by kernel_rfl) h1
/-- crimp/crimpref01.Across -/
def p70 (A : Alg Prop (List HObj)) (ls : List Lf) (h : List HObj) (K : List Lf → List HObj → Prop) : Prop := A.unI ls (@hid _ ⟨fun n6 l7 => A.un0 l7 (@hid _ ⟨A.cmp .eql n6 1 (@hid _ ⟨fun t8 => A.cond t8 (@hid _ ⟨K [(.i 1), (.i 0)] h⟩) (@hid _ ⟨A.cmp .eql n6 2 (@hid _ ⟨fun t9 => A.cond t9 (@hid _ ⟨K [(.i 0), (.i 1)] h⟩) (@hid _ ⟨A.cmp .eql n6 3 (@hid _ ⟨fun t10 => A.cond t10 (@hid _ ⟨K [(.i 1), (.i 1)] h⟩) (@hid _ ⟨K [(.i (-1)), (.i 1)] h⟩)⟩)⟩)⟩)⟩)⟩)⟩)⟩)
theorem g70 : (fun A : Alg Prop (List HObj) => p70 A) = fun A => f70 A := by kernel_rfl
theorem h70 (ls : List Lf) (H : List HObj) (K : List Lf → List HObj → Prop) : p70 P1 ls H K = execF P1 (xc 70) sgTab drN n70 ls H K :=
  congrFun (congrFun (congrFun ((congrFun g70 P1).trans (congrFun (congrFun (congrFun e70 Prop) (List HObj)) P1)) ls) H) K
theorem u70 {ls : List Lf} {H : List HObj} {K : List Lf → List HObj → Prop} (hls : goodLs ls = true) (h : p70 P1 ls H K) : ∃ rs H', CallL cc sgTab 70 ls H rs H' ∧ K rs H' :=
  fn_ok i70 hls (h70 ls H K ▸ h)
theorem q70 {ls rs : List Lf} (hls : goodLs ls = true) (h : p70 P1 ls [] fun rs' _ => rs' = rs) : Cc 70 ls rs := by
  obtain ⟨_, _, h1, rfl⟩ := u70 hls h
  exact ct_of mixed gl_flat (sg := ⟨[.leaf (.i .u8)], [li, li]⟩) rfl (by kernel_rfl) h1
/-- crimp/lines.Check -/
def p74 (A : Alg Prop (List HObj)) (ls : List Lf) (h : List HObj) (K : List Lf → List HObj → Prop) : Prop := A.unI ls (@hid _ ⟨fun n6 l7 => A.unI l7 (@hid _ ⟨fun n8 l9 => A.un0 l9 (@hid _ ⟨A.cmp .lss n6 1 (@hid _ ⟨fun t10 => A.cond t10 (@hid _ ⟨K [(.i 1)] h⟩) (@hid _ ⟨A.cmp .gtr n6 4 (@hid _ ⟨fun t11 => A.cond t11 (@hid _ ⟨K [(.i 1)] h⟩) (@hid _ ⟨A.cmp .lss n8 (-4096) (@hid _ ⟨fun t12 => A.cond t12 (@hid _ ⟨K [(.i 1)] h⟩) (@hid _ ⟨A.cmp .gtr n8 4096 (@hid _ ⟨fun t13 => A.cond t13 (@hid _ ⟨K [(.i 1)] h⟩) (@hid _ ⟨K [(.i 0)] h⟩)⟩)⟩)⟩)⟩)⟩)⟩)⟩)⟩)⟩)⟩)
theorem g74 : (fun A : Alg Prop (List HObj) => p74 A) = fun A => f74 A := by kernel_rfl
theorem h74 (ls : List Lf) (H : List HObj) (K : List Lf → List HObj → Prop) : p74 P1 ls H K = execF P1 (xc 74) sgTab drN n74 ls H K :=
  congrFun (congrFun (congrFun ((congrFun g74 P1).trans (congrFun (congrFun (congrFun e74 Prop) (List HObj)) P1)) ls) H) K
theorem u74 {ls : List Lf} {H : List HObj} {K : List Lf → List HObj → Prop} (hls : goodLs ls = true) (h : p74 P1 ls H K) : ∃ rs H', CallL cc sgTab 74 ls H rs H' ∧ K rs H' :=
  fn_ok i74 hls (h74 ls H K ▸ h)
theorem q74 {ls rs : List Lf} (hls : goodLs ls = true) (h : p74 P1 ls [] fun rs' _ => rs' = rs) : Cc 74 ls rs := by
  obtain ⟨_, _, h1, rfl⟩ := u74 hls h
  exact ct_of mixed gl_flat (sg := ⟨[.agg [.i .u8, .i .i64]], [li]⟩) rfl (by kernel_rfl) h1
end Go.Am

/-
  CONTRACTS, BY PROGRAM: checks, far, mirror images, corners.
-/
set_option maxRecDepth 100000
namespace Go.Am
open Sx Go.Proofs

theorem cellCheck_ok {x y q : Int} (h : ¬ (x < -4096) ∧ ¬ (4096 < x) ∧ ¬ (y < -4096) ∧ ¬ (4096 < y) ∧ ¬ (3 < q)) : Cc 43 [.i x, .i y, .i q] [.i 0] := by
  refine q43 rfl ?_; unfold p43
  simp (disch := omega) only [↓qxs, ↓qxc, ↓qxa]
theorem cellCheck_no {x y q : Int} (h : ¬ (¬ (x < -4096) ∧ ¬ (4096 < x) ∧ ¬ (y < -4096) ∧ ¬ (4096 < y) ∧ ¬ (3 < q))) : Cc 43 [.i x, .i y, .i q] [.i 1] := by
  refine q43 rfl ?_; unfold p43
  by_cases h0 : x < -4096
  · simp (disch := omega) only [↓qxs, ↓qxc, ↓qxa]
  by_cases h1 : 4096 < x
  · simp (disch := omega) only [↓qxs, ↓qxc, ↓qxa]
  by_cases h2 : y < -4096
  · simp (disch := omega) only [↓qxs, ↓qxc, ↓qxa]
  by_cases h3 : 4096 < y
  · simp (disch := omega) only [↓qxs, ↓qxc, ↓qxa]
  simp (disch := omega) only [↓qxs, ↓qxc, ↓qxa]
theorem lineCheck_ok {k c : Int} (h : ¬ (k < 1) ∧ ¬ (4 < k) ∧ ¬ (c < -4096) ∧ ¬ (4096 < c)) : Cc 74 [.i k, .i c] [.i 0] := by
  refine q74 rfl ?_; unfold p74
  simp (disch := omega) only [↓qxs, ↓qxc, ↓qxa]
theorem lineCheck_no {k c : Int} (h : ¬ (¬ (k < 1) ∧ ¬ (4 < k) ∧ ¬ (c < -4096) ∧ ¬ (4096 < c))) : Cc 74 [.i k, .i c] [.i 1] := by
  refine q74 rfl ?_; unfold p74
  by_cases h0 : k < 1
  · simp (disch := omega) only [↓qxs, ↓qxc, ↓qxa]
  by_cases h1 : 4 < k
  · simp (disch := omega) only [↓qxs, ↓qxc, ↓qxa]
  by_cases h2 : c < -4096
  · simp (disch := omega) only [↓qxs, ↓qxc, ↓qxa]
  simp (disch := omega) only [↓qxs, ↓qxc, ↓qxa]
theorem v3_ok {x y q : Int} (h : ¬ (x < -4096) ∧ ¬ (4096 < x) ∧ ¬ (y < -4096) ∧ ¬ (4096 < y) ∧ ¬ (3 < q)) : Cc 42 [.i x, .i y, .i q] [.i 1] := by
  refine q42 rfl ?_; unfold p42
  simp (disch := omega) only [↓qxs, ↓qxc, ↓qxa]
theorem v3_no {x y q : Int} (h : ¬ (¬ (x < -4096) ∧ ¬ (4096 < x) ∧ ¬ (y < -4096) ∧ ¬ (4096 < y) ∧ ¬ (3 < q))) : Cc 42 [.i x, .i y, .i q] [.i 0] := by
  refine q42 rfl ?_; unfold p42
  by_cases h0 : x < -4096
  · simp (disch := omega) only [↓qxs, ↓qxc, ↓qxa]
  by_cases h1 : 4096 < x
  · simp (disch := omega) only [↓qxs, ↓qxc, ↓qxa]
  by_cases h2 : y < -4096
  · simp (disch := omega) only [↓qxs, ↓qxc, ↓qxa]
  by_cases h3 : 4096 < y
  · simp (disch := omega) only [↓qxs, ↓qxc, ↓qxa]
  simp (disch := omega) only [↓qxs, ↓qxc, ↓qxa]
theorem v1_ok {k c : Int} (h : ¬ (k < 1) ∧ ¬ (4 < k) ∧ ¬ (c < -4096) ∧ ¬ (4096 < c)) : Cc 46 [.i k, .i c] [.i 1] := by
  refine q46 rfl ?_; unfold p46
  simp (disch := omega) only [↓qxs, ↓qxc, ↓qxa]
theorem v1_no {k c : Int} (h : ¬ (¬ (k < 1) ∧ ¬ (4 < k) ∧ ¬ (c < -4096) ∧ ¬ (4096 < c))) : Cc 46 [.i k, .i c] [.i 0] := by
  refine q46 rfl ?_; unfold p46
  by_cases h0 : k < 1
  · simp (disch := omega) only [↓qxs, ↓qxc, ↓qxa]
  by_cases h1 : 4 < k
  · simp (disch := omega) only [↓qxs, ↓qxc, ↓qxa]
  by_cases h2 : c < -4096
  · simp (disch := omega) only [↓qxs, ↓qxc, ↓qxa]
  simp (disch := omega) only [↓qxs, ↓qxc, ↓qxa]
theorem across1 : Cc 70 [.i 1] [.i 1, .i 0] := by
  refine q70 rfl ?_; unfold p70
  simp (disch := omega) only [↓qxs, ↓qxc, ↓qxa]
theorem across2 : Cc 70 [.i 2] [.i 0, .i 1] := by
  refine q70 rfl ?_; unfold p70
  simp (disch := omega) only [↓qxs, ↓qxc, ↓qxa]
theorem across3 : Cc 70 [.i 3] [.i 1, .i 1] := by
  refine q70 rfl ?_; unfold p70
  simp (disch := omega) only [↓qxs, ↓qxc, ↓qxa]
theorem across4 : Cc 70 [.i 4] [.i (-1), .i 1] := by
  refine q70 rfl ?_; unfold p70
  simp (disch := omega) only [↓qxs, ↓qxc, ↓qxa]
theorem rcorn0 {x y : Int} (h : -1000000 ≤ x ∧ x ≤ 1000000 ∧ -1000000 ≤ y ∧ y ≤ 1000000) : Cc 45 [.i x, .i y, .i 0] [.i (2 * x + 1), .i (2 * y + 1), .i (2 * x), .i (2 * y), .i (2 * x + 2), .i (2 * y)] := by
  refine q45 rfl ?_; unfold p45
  repeat (first | simp (disch := omega) only [↓qxs, ↓qxc, ↓qxa] | refine p_opt_r (by simp only [pickL, putL, offX, Int.reduceToNat, Int.reduceAdd, Int.reduceMul, Int.reduceMod, Int.reduceSub, Int.reduceNeg, Int.reduceDiv, Nat.reduceAdd, Nat.reduceMul, Nat.reduceLeDiff, List.length_cons, List.length_nil, ↓reduceIte, List.drop_succ_cons, List.drop_zero, List.take_succ_cons, List.take_zero, List.cons_append, List.nil_append, Nat.zero_add, Int.toNat_zero, Nat.zero_mul, Nat.add_zero, Int.zero_add]; exact rfl) ?_)
  (try simp only [List.cons.injEq, Lf.i.injEq, and_true, true_and]); (try omega)
theorem rcorn1 {x y : Int} (h : -1000000 ≤ x ∧ x ≤ 1000000 ∧ -1000000 ≤ y ∧ y ≤ 1000000) : Cc 45 [.i x, .i y, .i 1] [.i (2 * x + 1), .i (2 * y + 1), .i (2 * x + 2), .i (2 * y + 2), .i (2 * x + 2), .i (2 * y)] := by
  refine q45 rfl ?_; unfold p45
  repeat (first | simp (disch := omega) only [↓qxs, ↓qxc, ↓qxa] | refine p_opt_r (by simp only [pickL, putL, offX, Int.reduceToNat, Int.reduceAdd, Int.reduceMul, Int.reduceMod, Int.reduceSub, Int.reduceNeg, Int.reduceDiv, Nat.reduceAdd, Nat.reduceMul, Nat.reduceLeDiff, List.length_cons, List.length_nil, ↓reduceIte, List.drop_succ_cons, List.drop_zero, List.take_succ_cons, List.take_zero, List.cons_append, List.nil_append, Nat.zero_add, Int.toNat_zero, Nat.zero_mul, Nat.add_zero, Int.zero_add]; exact rfl) ?_)
  (try simp only [List.cons.injEq, Lf.i.injEq, and_true, true_and]); (try omega)
theorem rcorn2 {x y : Int} (h : -1000000 ≤ x ∧ x ≤ 1000000 ∧ -1000000 ≤ y ∧ y ≤ 1000000) : Cc 45 [.i x, .i y, .i 2] [.i (2 * x + 1), .i (2 * y + 1), .i (2 * x + 2), .i (2 * y + 2), .i (2 * x), .i (2 * y + 2)] := by
  refine q45 rfl ?_; unfold p45
  repeat (first | simp (disch := omega) only [↓qxs, ↓qxc, ↓qxa] | refine p_opt_r (by simp only [pickL, putL, offX, Int.reduceToNat, Int.reduceAdd, Int.reduceMul, Int.reduceMod, Int.reduceSub, Int.reduceNeg, Int.reduceDiv, Nat.reduceAdd, Nat.reduceMul, Nat.reduceLeDiff, List.length_cons, List.length_nil, ↓reduceIte, List.drop_succ_cons, List.drop_zero, List.take_succ_cons, List.take_zero, List.cons_append, List.nil_append, Nat.zero_add, Int.toNat_zero, Nat.zero_mul, Nat.add_zero, Int.zero_add]; exact rfl) ?_)
  (try simp only [List.cons.injEq, Lf.i.injEq, and_true, true_and]); (try omega)
theorem rcorn3 {x y : Int} (h : -1000000 ≤ x ∧ x ≤ 1000000 ∧ -1000000 ≤ y ∧ y ≤ 1000000) : Cc 45 [.i x, .i y, .i 3] [.i (2 * x + 1), .i (2 * y + 1), .i (2 * x), .i (2 * y), .i (2 * x), .i (2 * y + 2)] := by
  refine q45 rfl ?_; unfold p45
  repeat (first | simp (disch := omega) only [↓qxs, ↓qxc, ↓qxa] | refine p_opt_r (by simp only [pickL, putL, offX, Int.reduceToNat, Int.reduceAdd, Int.reduceMul, Int.reduceMod, Int.reduceSub, Int.reduceNeg, Int.reduceDiv, Nat.reduceAdd, Nat.reduceMul, Nat.reduceLeDiff, List.length_cons, List.length_nil, ↓reduceIte, List.drop_succ_cons, List.drop_zero, List.take_succ_cons, List.take_zero, List.cons_append, List.nil_append, Nat.zero_add, Int.toNat_zero, Nat.zero_mul, Nat.add_zero, Int.zero_add]; exact rfl) ?_)
  (try simp only [List.cons.injEq, Lf.i.injEq, and_true, true_and]); (try omega)
end Go.Am
/-
  CONTRACTS, BY PROGRAM: cells by their corners, the lines of edges.
-/
set_option maxRecDepth 100000
namespace Go.Am
open Sx Go.Proofs

theorem rline00 {x y : Int} (h : -100000 ≤ x ∧ x ≤ 100000 ∧ -100000 ≤ y ∧ y ≤ 100000) : Cc 31 [.i x, .i y, .i 0, .i 0] [.i 2, .i y] := by
  refine q31 rfl ?_; unfold p31
  repeat (first | simp (disch := omega) only [↓qxs, ↓qxc, ↓qxa] | refine p_opt_r (by simp only [pickL, putL, offX, Int.reduceToNat, Int.reduceAdd, Int.reduceMul, Int.reduceMod, Int.reduceSub, Int.reduceNeg, Int.reduceDiv, Nat.reduceAdd, Nat.reduceMul, Nat.reduceLeDiff, List.length_cons, List.length_nil, ↓reduceIte, List.drop_succ_cons, List.drop_zero, List.take_succ_cons, List.take_zero, List.cons_append, List.nil_append, Nat.zero_add, Int.toNat_zero, Nat.zero_mul, Nat.add_zero, Int.zero_add]; exact rfl) ?_ | refine p_loop 5 ?_ | refine p_call (rcorn0 (by omega)) ?_ | refine p_call across1 ?_ | refine p_call across2 ?_ | refine p_call across3 ?_ | refine p_call across4 ?_)
  (try simp only [List.cons.injEq, Lf.i.injEq, and_true, true_and]); (try omega)
theorem rline01 {x y : Int} (h : -100000 ≤ x ∧ x ≤ 100000 ∧ -100000 ≤ y ∧ y ≤ 100000) : Cc 31 [.i x, .i y, .i 0, .i 1] [.i 3, .i (x + y + 1)] := by
  refine q31 rfl ?_; unfold p31
  repeat (first | simp (disch := omega) only [↓qxs, ↓qxc, ↓qxa] | refine p_opt_r (by simp only [pickL, putL, offX, Int.reduceToNat, Int.reduceAdd, Int.reduceMul, Int.reduceMod, Int.reduceSub, Int.reduceNeg, Int.reduceDiv, Nat.reduceAdd, Nat.reduceMul, Nat.reduceLeDiff, List.length_cons, List.length_nil, ↓reduceIte, List.drop_succ_cons, List.drop_zero, List.take_succ_cons, List.take_zero, List.cons_append, List.nil_append, Nat.zero_add, Int.toNat_zero, Nat.zero_mul, Nat.add_zero, Int.zero_add]; exact rfl) ?_ | refine p_loop 5 ?_ | refine p_call (rcorn0 (by omega)) ?_ | refine p_call across1 ?_ | refine p_call across2 ?_ | refine p_call across3 ?_ | refine p_call across4 ?_)
  (try simp only [List.cons.injEq, Lf.i.injEq, and_true, true_and]); (try omega)
theorem rline02 {x y : Int} (h : -100000 ≤ x ∧ x ≤ 100000 ∧ -100000 ≤ y ∧ y ≤ 100000) : Cc 31 [.i x, .i y, .i 0, .i 2] [.i 4, .i (y - x)] := by
  refine q31 rfl ?_; unfold p31
  repeat (first | simp (disch := omega) only [↓qxs, ↓qxc, ↓qxa] | refine p_opt_r (by simp only [pickL, putL, offX, Int.reduceToNat, Int.reduceAdd, Int.reduceMul, Int.reduceMod, Int.reduceSub, Int.reduceNeg, Int.reduceDiv, Nat.reduceAdd, Nat.reduceMul, Nat.reduceLeDiff, List.length_cons, List.length_nil, ↓reduceIte, List.drop_succ_cons, List.drop_zero, List.take_succ_cons, List.take_zero, List.cons_append, List.nil_append, Nat.zero_add, Int.toNat_zero, Nat.zero_mul, Nat.add_zero, Int.zero_add]; exact rfl) ?_ | refine p_loop 5 ?_ | refine p_call (rcorn0 (by omega)) ?_ | refine p_call across1 ?_ | refine p_call across2 ?_ | refine p_call across3 ?_ | refine p_call across4 ?_)
  (try simp only [List.cons.injEq, Lf.i.injEq, and_true, true_and]); (try omega)
theorem rline10 {x y : Int} (h : -100000 ≤ x ∧ x ≤ 100000 ∧ -100000 ≤ y ∧ y ≤ 100000) : Cc 31 [.i x, .i y, .i 1, .i 0] [.i 1, .i (x + 1)] := by
  refine q31 rfl ?_; unfold p31
  repeat (first | simp (disch := omega) only [↓qxs, ↓qxc, ↓qxa] | refine p_opt_r (by simp only [pickL, putL, offX, Int.reduceToNat, Int.reduceAdd, Int.reduceMul, Int.reduceMod, Int.reduceSub, Int.reduceNeg, Int.reduceDiv, Nat.reduceAdd, Nat.reduceMul, Nat.reduceLeDiff, List.length_cons, List.length_nil, ↓reduceIte, List.drop_succ_cons, List.drop_zero, List.take_succ_cons, List.take_zero, List.cons_append, List.nil_append, Nat.zero_add, Int.toNat_zero, Nat.zero_mul, Nat.add_zero, Int.zero_add]; exact rfl) ?_ | refine p_loop 5 ?_ | refine p_call (rcorn1 (by omega)) ?_ | refine p_call across1 ?_ | refine p_call across2 ?_ | refine p_call across3 ?_ | refine p_call across4 ?_)
  (try simp only [List.cons.injEq, Lf.i.injEq, and_true, true_and]); (try omega)
theorem rline11 {x y : Int} (h : -100000 ≤ x ∧ x ≤ 100000 ∧ -100000 ≤ y ∧ y ≤ 100000) : Cc 31 [.i x, .i y, .i 1, .i 1] [.i 3, .i (x + y + 1)] := by
  refine q31 rfl ?_; unfold p31
  repeat (first | simp (disch := omega) only [↓qxs, ↓qxc, ↓qxa] | refine p_opt_r (by simp only [pickL, putL, offX, Int.reduceToNat, Int.reduceAdd, Int.reduceMul, Int.reduceMod, Int.reduceSub, Int.reduceNeg, Int.reduceDiv, Nat.reduceAdd, Nat.reduceMul, Nat.reduceLeDiff, List.length_cons, List.length_nil, ↓reduceIte, List.drop_succ_cons, List.drop_zero, List.take_succ_cons, List.take_zero, List.cons_append, List.nil_append, Nat.zero_add, Int.toNat_zero, Nat.zero_mul, Nat.add_zero, Int.zero_add]; exact rfl) ?_ | refine p_loop 5 ?_ | refine p_call (rcorn1 (by omega)) ?_ | refine p_call across1 ?_ | refine p_call across2 ?_ | refine p_call across3 ?_ | refine p_call across4 ?_)
  (try simp only [List.cons.injEq, Lf.i.injEq, and_true, true_and]); (try omega)
theorem rline12 {x y : Int} (h : -100000 ≤ x ∧ x ≤ 100000 ∧ -100000 ≤ y ∧ y ≤ 100000) : Cc 31 [.i x, .i y, .i 1, .i 2] [.i 4, .i (y - x)] := by
  refine q31 rfl ?_; unfold p31
  repeat (first | simp (disch := omega) only [↓qxs, ↓qxc, ↓qxa] | refine p_opt_r (by simp only [pickL, putL, offX, Int.reduceToNat, Int.reduceAdd, Int.reduceMul, Int.reduceMod, Int.reduceSub, Int.reduceNeg, Int.reduceDiv, Nat.reduceAdd, Nat.reduceMul, Nat.reduceLeDiff, List.length_cons, List.length_nil, ↓reduceIte, List.drop_succ_cons, List.drop_zero, List.take_succ_cons, List.take_zero, List.cons_append, List.nil_append, Nat.zero_add, Int.toNat_zero, Nat.zero_mul, Nat.add_zero, Int.zero_add]; exact rfl) ?_ | refine p_loop 5 ?_ | refine p_call (rcorn1 (by omega)) ?_ | refine p_call across1 ?_ | refine p_call across2 ?_ | refine p_call across3 ?_ | refine p_call across4 ?_)
  (try simp only [List.cons.injEq, Lf.i.injEq, and_true, true_and]); (try omega)
theorem rline20 {x y : Int} (h : -100000 ≤ x ∧ x ≤ 100000 ∧ -100000 ≤ y ∧ y ≤ 100000) : Cc 31 [.i x, .i y, .i 2, .i 0] [.i 2, .i (y + 1)] := by
  refine q31 rfl ?_; unfold p31
  repeat (first | simp (disch := omega) only [↓qxs, ↓qxc, ↓qxa] | refine p_opt_r (by simp only [pickL, putL, offX, Int.reduceToNat, Int.reduceAdd, Int.reduceMul, Int.reduceMod, Int.reduceSub, Int.reduceNeg, Int.reduceDiv, Nat.reduceAdd, Nat.reduceMul, Nat.reduceLeDiff, List.length_cons, List.length_nil, ↓reduceIte, List.drop_succ_cons, List.drop_zero, List.take_succ_cons, List.take_zero, List.cons_append, List.nil_append, Nat.zero_add, Int.toNat_zero, Nat.zero_mul, Nat.add_zero, Int.zero_add]; exact rfl) ?_ | refine p_loop 5 ?_ | refine p_call (rcorn2 (by omega)) ?_ | refine p_call across1 ?_ | refine p_call across2 ?_ | refine p_call across3 ?_ | refine p_call across4 ?_)
  (try simp only [List.cons.injEq, Lf.i.injEq, and_true, true_and]); (try omega)
theorem rline21 {x y : Int} (h : -100000 ≤ x ∧ x ≤ 100000 ∧ -100000 ≤ y ∧ y ≤ 100000) : Cc 31 [.i x, .i y, .i 2, .i 1] [.i 3, .i (x + y + 1)] := by
  refine q31 rfl ?_; unfold p31
  repeat (first | simp (disch := omega) only [↓qxs, ↓qxc, ↓qxa] | refine p_opt_r (by simp only [pickL, putL, offX, Int.reduceToNat, Int.reduceAdd, Int.reduceMul, Int.reduceMod, Int.reduceSub, Int.reduceNeg, Int.reduceDiv, Nat.reduceAdd, Nat.reduceMul, Nat.reduceLeDiff, List.length_cons, List.length_nil, ↓reduceIte, List.drop_succ_cons, List.drop_zero, List.take_succ_cons, List.take_zero, List.cons_append, List.nil_append, Nat.zero_add, Int.toNat_zero, Nat.zero_mul, Nat.add_zero, Int.zero_add]; exact rfl) ?_ | refine p_loop 5 ?_ | refine p_call (rcorn2 (by omega)) ?_ | refine p_call across1 ?_ | refine p_call across2 ?_ | refine p_call across3 ?_ | refine p_call across4 ?_)
  (try simp only [List.cons.injEq, Lf.i.injEq, and_true, true_and]); (try omega)
theorem rline22 {x y : Int} (h : -100000 ≤ x ∧ x ≤ 100000 ∧ -100000 ≤ y ∧ y ≤ 100000) : Cc 31 [.i x, .i y, .i 2, .i 2] [.i 4, .i (y - x)] := by
  refine q31 rfl ?_; unfold p31
  repeat (first | simp (disch := omega) only [↓qxs, ↓qxc, ↓qxa] | refine p_opt_r (by simp only [pickL, putL, offX, Int.reduceToNat, Int.reduceAdd, Int.reduceMul, Int.reduceMod, Int.reduceSub, Int.reduceNeg, Int.reduceDiv, Nat.reduceAdd, Nat.reduceMul, Nat.reduceLeDiff, List.length_cons, List.length_nil, ↓reduceIte, List.drop_succ_cons, List.drop_zero, List.take_succ_cons, List.take_zero, List.cons_append, List.nil_append, Nat.zero_add, Int.toNat_zero, Nat.zero_mul, Nat.add_zero, Int.zero_add]; exact rfl) ?_ | refine p_loop 5 ?_ | refine p_call (rcorn2 (by omega)) ?_ | refine p_call across1 ?_ | refine p_call across2 ?_ | refine p_call across3 ?_ | refine p_call across4 ?_)
  (try simp only [List.cons.injEq, Lf.i.injEq, and_true, true_and]); (try omega)
theorem rline30 {x y : Int} (h : -100000 ≤ x ∧ x ≤ 100000 ∧ -100000 ≤ y ∧ y ≤ 100000) : Cc 31 [.i x, .i y, .i 3, .i 0] [.i 1, .i x] := by
  refine q31 rfl ?_; unfold p31
  repeat (first | simp (disch := omega) only [↓qxs, ↓qxc, ↓qxa] | refine p_opt_r (by simp only [pickL, putL, offX, Int.reduceToNat, Int.reduceAdd, Int.reduceMul, Int.reduceMod, Int.reduceSub, Int.reduceNeg, Int.reduceDiv, Nat.reduceAdd, Nat.reduceMul, Nat.reduceLeDiff, List.length_cons, List.length_nil, ↓reduceIte, List.drop_succ_cons, List.drop_zero, List.take_succ_cons, List.take_zero, List.cons_append, List.nil_append, Nat.zero_add, Int.toNat_zero, Nat.zero_mul, Nat.add_zero, Int.zero_add]; exact rfl) ?_ | refine p_loop 5 ?_ | refine p_call (rcorn3 (by omega)) ?_ | refine p_call across1 ?_ | refine p_call across2 ?_ | refine p_call across3 ?_ | refine p_call across4 ?_)
  (try simp only [List.cons.injEq, Lf.i.injEq, and_true, true_and]); (try omega)
theorem rline31 {x y : Int} (h : -100000 ≤ x ∧ x ≤ 100000 ∧ -100000 ≤ y ∧ y ≤ 100000) : Cc 31 [.i x, .i y, .i 3, .i 1] [.i 3, .i (x + y + 1)] := by
  refine q31 rfl ?_; unfold p31
  repeat (first | simp (disch := omega) only [↓qxs, ↓qxc, ↓qxa] | refine p_opt_r (by simp only [pickL, putL, offX, Int.reduceToNat, Int.reduceAdd, Int.reduceMul, Int.reduceMod, Int.reduceSub, Int.reduceNeg, Int.reduceDiv, Nat.reduceAdd, Nat.reduceMul, Nat.reduceLeDiff, List.length_cons, List.length_nil, ↓reduceIte, List.drop_succ_cons, List.drop_zero, List.take_succ_cons, List.take_zero, List.cons_append, List.nil_append, Nat.zero_add, Int.toNat_zero, Nat.zero_mul, Nat.add_zero, Int.zero_add]; exact rfl) ?_ | refine p_loop 5 ?_ | refine p_call (rcorn3 (by omega)) ?_ | refine p_call across1 ?_ | refine p_call across2 ?_ | refine p_call across3 ?_ | refine p_call across4 ?_)
  (try simp only [List.cons.injEq, Lf.i.injEq, and_true, true_and]); (try omega)
theorem rline32 {x y : Int} (h : -100000 ≤ x ∧ x ≤ 100000 ∧ -100000 ≤ y ∧ y ≤ 100000) : Cc 31 [.i x, .i y, .i 3, .i 2] [.i 4, .i (y - x)] := by
  refine q31 rfl ?_; unfold p31
  repeat (first | simp (disch := omega) only [↓qxs, ↓qxc, ↓qxa] | refine p_opt_r (by simp only [pickL, putL, offX, Int.reduceToNat, Int.reduceAdd, Int.reduceMul, Int.reduceMod, Int.reduceSub, Int.reduceNeg, Int.reduceDiv, Nat.reduceAdd, Nat.reduceMul, Nat.reduceLeDiff, List.length_cons, List.length_nil, ↓reduceIte, List.drop_succ_cons, List.drop_zero, List.take_succ_cons, List.take_zero, List.cons_append, List.nil_append, Nat.zero_add, Int.toNat_zero, Nat.zero_mul, Nat.add_zero, Int.zero_add]; exact rfl) ?_ | refine p_loop 5 ?_ | refine p_call (rcorn3 (by omega)) ?_ | refine p_call across1 ?_ | refine p_call across2 ?_ | refine p_call across3 ?_ | refine p_call across4 ?_)
  (try simp only [List.cons.injEq, Lf.i.injEq, and_true, true_and]); (try omega)
end Go.Am
/-
  CONTRACTS, BY PROGRAM: neighbours, corners, lines of cells.
-/
set_option maxRecDepth 100000
namespace Go.Am
open Sx Go.Proofs

theorem gq0 : pickV gl0 0 [(0, 17)] 17 = some [.int .i64 0, .int .i64 (-1), .int .u8 2, .int .i64 0, .int .i64 0, .int .i64 (-1), .int .u8 2, .int .i64 0, .int .i64 0, .int .u8 1, .int .i64 0, .int .i64 0, .int .u8 3, .int .i64 0, .int .i64 0, .int .i64 2, .int .i64 0] := by kernel_rfl
theorem gq1 : pickV gl0 0 [(1, 17)] 17 = some [.int .i64 1, .int .i64 0, .int .u8 1, .int .i64 1, .int .i64 1, .int .i64 0, .int .u8 3, .int .i64 0, .int .i64 0, .int .u8 0, .int .i64 0, .int .i64 0, .int .u8 2, .int .i64 2, .int .i64 2, .int .i64 2, .int .i64 0] := by kernel_rfl
theorem gq2 : pickV gl0 0 [(2, 17)] 17 = some [.int .i64 0, .int .i64 1, .int .u8 2, .int .i64 1, .int .i64 0, .int .i64 1, .int .u8 0, .int .i64 0, .int .i64 0, .int .u8 3, .int .i64 0, .int .i64 0, .int .u8 1, .int .i64 2, .int .i64 2, .int .i64 0, .int .i64 2] := by kernel_rfl
theorem gq3 : pickV gl0 0 [(3, 17)] 17 = some [.int .i64 (-1), .int .i64 0, .int .u8 1, .int .i64 0, .int .i64 (-1), .int .i64 0, .int .u8 1, .int .i64 0, .int .i64 0, .int .u8 2, .int .i64 0, .int .i64 0, .int .u8 0, .int .i64 0, .int .i64 0, .int .i64 0, .int .i64 2] := by kernel_rfl
theorem ccorn0 {x y : Int} (h : -4096 ≤ x ∧ x ≤ 4096 ∧ -4096 ≤ y ∧ y ≤ 4096) : Cc 41 [.i x, .i y, .i 0] [.i (2 * x + 1), .i (2 * y + 1), .i (2 * x), .i (2 * y), .i (2 * x + 2), .i (2 * y), .i 0] := by
  refine q41 rfl ?_; unfold p41
  repeat (first | simp (disch := omega) only [↓qxs, ↓qxc, ↓qxa, ↓gq0] | refine p_opt_r (by simp only [pickL, putL, offX, Int.reduceToNat, Int.reduceAdd, Int.reduceMul, Int.reduceMod, Int.reduceSub, Int.reduceNeg, Int.reduceDiv, Nat.reduceAdd, Nat.reduceMul, Nat.reduceLeDiff, List.length_cons, List.length_nil, ↓reduceIte, List.drop_succ_cons, List.drop_zero, List.take_succ_cons, List.take_zero, List.cons_append, List.nil_append, Nat.zero_add, Int.toNat_zero, Nat.zero_mul, Nat.add_zero, Int.zero_add]; exact rfl) ?_ | refine p_loop 5 ?_ | refine p_call (cellCheck_ok (by omega)) ?_)
  (try simp only [List.cons.injEq, Lf.i.injEq, and_true, true_and]); (try omega)
theorem ccorn1 {x y : Int} (h : -4096 ≤ x ∧ x ≤ 4096 ∧ -4096 ≤ y ∧ y ≤ 4096) : Cc 41 [.i x, .i y, .i 1] [.i (2 * x + 1), .i (2 * y + 1), .i (2 * x + 2), .i (2 * y + 2), .i (2 * x + 2), .i (2 * y), .i 0] := by
  refine q41 rfl ?_; unfold p41
  repeat (first | simp (disch := omega) only [↓qxs, ↓qxc, ↓qxa, ↓gq1] | refine p_opt_r (by simp only [pickL, putL, offX, Int.reduceToNat, Int.reduceAdd, Int.reduceMul, Int.reduceMod, Int.reduceSub, Int.reduceNeg, Int.reduceDiv, Nat.reduceAdd, Nat.reduceMul, Nat.reduceLeDiff, List.length_cons, List.length_nil, ↓reduceIte, List.drop_succ_cons, List.drop_zero, List.take_succ_cons, List.take_zero, List.cons_append, List.nil_append, Nat.zero_add, Int.toNat_zero, Nat.zero_mul, Nat.add_zero, Int.zero_add]; exact rfl) ?_ | refine p_loop 5 ?_ | refine p_call (cellCheck_ok (by omega)) ?_)
  (try simp only [List.cons.injEq, Lf.i.injEq, and_true, true_and]); (try omega)
theorem ccorn2 {x y : Int} (h : -4096 ≤ x ∧ x ≤ 4096 ∧ -4096 ≤ y ∧ y ≤ 4096) : Cc 41 [.i x, .i y, .i 2] [.i (2 * x + 1), .i (2 * y + 1), .i (2 * x + 2), .i (2 * y + 2), .i (2 * x), .i (2 * y + 2), .i 0] := by
  refine q41 rfl ?_; unfold p41
  repeat (first | simp (disch := omega) only [↓qxs, ↓qxc, ↓qxa, ↓gq2] | refine p_opt_r (by simp only [pickL, putL, offX, Int.reduceToNat, Int.reduceAdd, Int.reduceMul, Int.reduceMod, Int.reduceSub, Int.reduceNeg, Int.reduceDiv, Nat.reduceAdd, Nat.reduceMul, Nat.reduceLeDiff, List.length_cons, List.length_nil, ↓reduceIte, List.drop_succ_cons, List.drop_zero, List.take_succ_cons, List.take_zero, List.cons_append, List.nil_append, Nat.zero_add, Int.toNat_zero, Nat.zero_mul, Nat.add_zero, Int.zero_add]; exact rfl) ?_ | refine p_loop 5 ?_ | refine p_call (cellCheck_ok (by omega)) ?_)
  (try simp only [List.cons.injEq, Lf.i.injEq, and_true, true_and]); (try omega)
theorem ccorn3 {x y : Int} (h : -4096 ≤ x ∧ x ≤ 4096 ∧ -4096 ≤ y ∧ y ≤ 4096) : Cc 41 [.i x, .i y, .i 3] [.i (2 * x + 1), .i (2 * y + 1), .i (2 * x), .i (2 * y), .i (2 * x), .i (2 * y + 2), .i 0] := by
  refine q41 rfl ?_; unfold p41
  repeat (first | simp (disch := omega) only [↓qxs, ↓qxc, ↓qxa, ↓gq3] | refine p_opt_r (by simp only [pickL, putL, offX, Int.reduceToNat, Int.reduceAdd, Int.reduceMul, Int.reduceMod, Int.reduceSub, Int.reduceNeg, Int.reduceDiv, Nat.reduceAdd, Nat.reduceMul, Nat.reduceLeDiff, List.length_cons, List.length_nil, ↓reduceIte, List.drop_succ_cons, List.drop_zero, List.take_succ_cons, List.take_zero, List.cons_append, List.nil_append, Nat.zero_add, Int.toNat_zero, Nat.zero_mul, Nat.add_zero, Int.zero_add]; exact rfl) ?_ | refine p_loop 5 ?_ | refine p_call (cellCheck_ok (by omega)) ?_)
  (try simp only [List.cons.injEq, Lf.i.injEq, and_true, true_and]); (try omega)
theorem ccorn_no {x y q : Int} (h : ¬ (-4096 ≤ x ∧ x ≤ 4096 ∧ -4096 ≤ y ∧ y ≤ 4096 ∧ q ≤ 3)) : Cc 41 [.i x, .i y, .i q] [.i 0, .i 0, .i 0, .i 0, .i 0, .i 0, .i 1] := by
  refine q41 rfl ?_; unfold p41
  repeat (first | simp (disch := omega) only [↓qxs, ↓qxc, ↓qxa] | refine p_opt_r (by simp only [pickL, putL, offX, Int.reduceToNat, Int.reduceAdd, Int.reduceMul, Int.reduceMod, Int.reduceSub, Int.reduceNeg, Int.reduceDiv, Nat.reduceAdd, Nat.reduceMul, Nat.reduceLeDiff, List.length_cons, List.length_nil, ↓reduceIte, List.drop_succ_cons, List.drop_zero, List.take_succ_cons, List.take_zero, List.cons_append, List.nil_append, Nat.zero_add, Int.toNat_zero, Nat.zero_mul, Nat.add_zero, Int.zero_add]; exact rfl) ?_ | refine p_call (cellCheck_no (by omega)) ?_)
  (try simp only [List.cons.injEq, Lf.i.injEq, and_true, true_and]); (try omega)
theorem cline00 {x y : Int} (h : -4096 ≤ x ∧ x ≤ 4096 ∧ -4096 ≤ y ∧ y ≤ 4096 ∧ -4096 ≤ y ∧ y ≤ 4096) : Cc 40 [.i x, .i y, .i 0, .i 0] [.i 2, .i y, .i 0] := by
  refine q40 rfl ?_; unfold p40
  repeat (first | simp (disch := omega) only [↓qxs, ↓qxc, ↓qxa, ↓gq0] | refine p_call (cellCheck_ok (by omega)) ?_ | refine p_call (lineCheck_ok (by omega)) ?_)
  (try simp only [List.cons.injEq, Lf.i.injEq, and_true, true_and]); (try omega)
theorem clinel00 {x y : Int} (h : -4096 ≤ x ∧ x ≤ 4096 ∧ -4096 ≤ y ∧ y ≤ 4096 ∧ ¬ (-4096 ≤ y ∧ y ≤ 4096)) : Cc 40 [.i x, .i y, .i 0, .i 0] [.i 0, .i 0, .i 3] := by
  refine q40 rfl ?_; unfold p40
  repeat (first | simp (disch := omega) only [↓qxs, ↓qxc, ↓qxa, ↓gq0] | refine p_call (cellCheck_ok (by omega)) ?_ | refine p_call (lineCheck_no (by omega)) ?_)
  (try simp only [List.cons.injEq, Lf.i.injEq, and_true, true_and]); (try omega)
theorem cline01 {x y : Int} (h : -4096 ≤ x ∧ x ≤ 4096 ∧ -4096 ≤ y ∧ y ≤ 4096 ∧ -4096 ≤ x + y + 1 ∧ x + y + 1 ≤ 4096) : Cc 40 [.i x, .i y, .i 0, .i 1] [.i 3, .i (x + y + 1), .i 0] := by
  refine q40 rfl ?_; unfold p40
  repeat (first | simp (disch := omega) only [↓qxs, ↓qxc, ↓qxa, ↓gq0] | refine p_call (cellCheck_ok (by omega)) ?_ | refine p_call (lineCheck_ok (by omega)) ?_)
  (try simp only [List.cons.injEq, Lf.i.injEq, and_true, true_and]); (try omega)
theorem clinel01 {x y : Int} (h : -4096 ≤ x ∧ x ≤ 4096 ∧ -4096 ≤ y ∧ y ≤ 4096 ∧ ¬ (-4096 ≤ x + y + 1 ∧ x + y + 1 ≤ 4096)) : Cc 40 [.i x, .i y, .i 0, .i 1] [.i 0, .i 0, .i 3] := by
  refine q40 rfl ?_; unfold p40
  repeat (first | simp (disch := omega) only [↓qxs, ↓qxc, ↓qxa, ↓gq0] | refine p_call (cellCheck_ok (by omega)) ?_ | refine p_call (lineCheck_no (by omega)) ?_)
  (try simp only [List.cons.injEq, Lf.i.injEq, and_true, true_and]); (try omega)
theorem cline02 {x y : Int} (h : -4096 ≤ x ∧ x ≤ 4096 ∧ -4096 ≤ y ∧ y ≤ 4096 ∧ -4096 ≤ y - x ∧ y - x ≤ 4096) : Cc 40 [.i x, .i y, .i 0, .i 2] [.i 4, .i (y - x), .i 0] := by
  refine q40 rfl ?_; unfold p40
  repeat (first | simp (disch := omega) only [↓qxs, ↓qxc, ↓qxa, ↓gq0] | refine p_call (cellCheck_ok (by omega)) ?_ | refine p_call (lineCheck_ok (by omega)) ?_)
  (try simp only [List.cons.injEq, Lf.i.injEq, and_true, true_and]); (try omega)
theorem clinel02 {x y : Int} (h : -4096 ≤ x ∧ x ≤ 4096 ∧ -4096 ≤ y ∧ y ≤ 4096 ∧ ¬ (-4096 ≤ y - x ∧ y - x ≤ 4096)) : Cc 40 [.i x, .i y, .i 0, .i 2] [.i 0, .i 0, .i 3] := by
  refine q40 rfl ?_; unfold p40
  repeat (first | simp (disch := omega) only [↓qxs, ↓qxc, ↓qxa, ↓gq0] | refine p_call (cellCheck_ok (by omega)) ?_ | refine p_call (lineCheck_no (by omega)) ?_)
  (try simp only [List.cons.injEq, Lf.i.injEq, and_true, true_and]); (try omega)
theorem cline10 {x y : Int} (h : -4096 ≤ x ∧ x ≤ 4096 ∧ -4096 ≤ y ∧ y ≤ 4096 ∧ -4096 ≤ x + 1 ∧ x + 1 ≤ 4096) : Cc 40 [.i x, .i y, .i 1, .i 0] [.i 1, .i (x + 1), .i 0] := by
  refine q40 rfl ?_; unfold p40
  repeat (first | simp (disch := omega) only [↓qxs, ↓qxc, ↓qxa, ↓gq1] | refine p_call (cellCheck_ok (by omega)) ?_ | refine p_call (lineCheck_ok (by omega)) ?_)
  (try simp only [List.cons.injEq, Lf.i.injEq, and_true, true_and]); (try omega)
theorem clinel10 {x y : Int} (h : -4096 ≤ x ∧ x ≤ 4096 ∧ -4096 ≤ y ∧ y ≤ 4096 ∧ ¬ (-4096 ≤ x + 1 ∧ x + 1 ≤ 4096)) : Cc 40 [.i x, .i y, .i 1, .i 0] [.i 0, .i 0, .i 3] := by
  refine q40 rfl ?_; unfold p40
  repeat (first | simp (disch := omega) only [↓qxs, ↓qxc, ↓qxa, ↓gq1] | refine p_call (cellCheck_ok (by omega)) ?_ | refine p_call (lineCheck_no (by omega)) ?_)
  (try simp only [List.cons.injEq, Lf.i.injEq, and_true, true_and]); (try omega)
theorem cline11 {x y : Int} (h : -4096 ≤ x ∧ x ≤ 4096 ∧ -4096 ≤ y ∧ y ≤ 4096 ∧ -4096 ≤ x + y + 1 ∧ x + y + 1 ≤ 4096) : Cc 40 [.i x, .i y, .i 1, .i 1] [.i 3, .i (x + y + 1), .i 0] := by
  refine q40 rfl ?_; unfold p40
  repeat (first | simp (disch := omega) only [↓qxs, ↓qxc, ↓qxa, ↓gq1] | refine p_call (cellCheck_ok (by omega)) ?_ | refine p_call (lineCheck_ok (by omega)) ?_)
  (try simp only [List.cons.injEq, Lf.i.injEq, and_true, true_and]); (try omega)
theorem clinel11 {x y : Int} (h : -4096 ≤ x ∧ x ≤ 4096 ∧ -4096 ≤ y ∧ y ≤ 4096 ∧ ¬ (-4096 ≤ x + y + 1 ∧ x + y + 1 ≤ 4096)) : Cc 40 [.i x, .i y, .i 1, .i 1] [.i 0, .i 0, .i 3] := by
  refine q40 rfl ?_; unfold p40
  repeat (first | simp (disch := omega) only [↓qxs, ↓qxc, ↓qxa, ↓gq1] | refine p_call (cellCheck_ok (by omega)) ?_ | refine p_call (lineCheck_no (by omega)) ?_)
  (try simp only [List.cons.injEq, Lf.i.injEq, and_true, true_and]); (try omega)
theorem cline12 {x y : Int} (h : -4096 ≤ x ∧ x ≤ 4096 ∧ -4096 ≤ y ∧ y ≤ 4096 ∧ -4096 ≤ y - x ∧ y - x ≤ 4096) : Cc 40 [.i x, .i y, .i 1, .i 2] [.i 4, .i (y - x), .i 0] := by
  refine q40 rfl ?_; unfold p40
  repeat (first | simp (disch := omega) only [↓qxs, ↓qxc, ↓qxa, ↓gq1] | refine p_call (cellCheck_ok (by omega)) ?_ | refine p_call (lineCheck_ok (by omega)) ?_)
  (try simp only [List.cons.injEq, Lf.i.injEq, and_true, true_and]); (try omega)
theorem clinel12 {x y : Int} (h : -4096 ≤ x ∧ x ≤ 4096 ∧ -4096 ≤ y ∧ y ≤ 4096 ∧ ¬ (-4096 ≤ y - x ∧ y - x ≤ 4096)) : Cc 40 [.i x, .i y, .i 1, .i 2] [.i 0, .i 0, .i 3] := by
  refine q40 rfl ?_; unfold p40
  repeat (first | simp (disch := omega) only [↓qxs, ↓qxc, ↓qxa, ↓gq1] | refine p_call (cellCheck_ok (by omega)) ?_ | refine p_call (lineCheck_no (by omega)) ?_)
  (try simp only [List.cons.injEq, Lf.i.injEq, and_true, true_and]); (try omega)
theorem cline20 {x y : Int} (h : -4096 ≤ x ∧ x ≤ 4096 ∧ -4096 ≤ y ∧ y ≤ 4096 ∧ -4096 ≤ y + 1 ∧ y + 1 ≤ 4096) : Cc 40 [.i x, .i y, .i 2, .i 0] [.i 2, .i (y + 1), .i 0] := by
  refine q40 rfl ?_; unfold p40
  repeat (first | simp (disch := omega) only [↓qxs, ↓qxc, ↓qxa, ↓gq2] | refine p_call (cellCheck_ok (by omega)) ?_ | refine p_call (lineCheck_ok (by omega)) ?_)
  (try simp only [List.cons.injEq, Lf.i.injEq, and_true, true_and]); (try omega)
theorem clinel20 {x y : Int} (h : -4096 ≤ x ∧ x ≤ 4096 ∧ -4096 ≤ y ∧ y ≤ 4096 ∧ ¬ (-4096 ≤ y + 1 ∧ y + 1 ≤ 4096)) : Cc 40 [.i x, .i y, .i 2, .i 0] [.i 0, .i 0, .i 3] := by
  refine q40 rfl ?_; unfold p40
  repeat (first | simp (disch := omega) only [↓qxs, ↓qxc, ↓qxa, ↓gq2] | refine p_call (cellCheck_ok (by omega)) ?_ | refine p_call (lineCheck_no (by omega)) ?_)
  (try simp only [List.cons.injEq, Lf.i.injEq, and_true, true_and]); (try omega)
theorem cline21 {x y : Int} (h : -4096 ≤ x ∧ x ≤ 4096 ∧ -4096 ≤ y ∧ y ≤ 4096 ∧ -4096 ≤ x + y + 1 ∧ x + y + 1 ≤ 4096) : Cc 40 [.i x, .i y, .i 2, .i 1] [.i 3, .i (x + y + 1), .i 0] := by
  refine q40 rfl ?_; unfold p40
  repeat (first | simp (disch := omega) only [↓qxs, ↓qxc, ↓qxa, ↓gq2] | refine p_call (cellCheck_ok (by omega)) ?_ | refine p_call (lineCheck_ok (by omega)) ?_)
  (try simp only [List.cons.injEq, Lf.i.injEq, and_true, true_and]); (try omega)
theorem clinel21 {x y : Int} (h : -4096 ≤ x ∧ x ≤ 4096 ∧ -4096 ≤ y ∧ y ≤ 4096 ∧ ¬ (-4096 ≤ x + y + 1 ∧ x + y + 1 ≤ 4096)) : Cc 40 [.i x, .i y, .i 2, .i 1] [.i 0, .i 0, .i 3] := by
  refine q40 rfl ?_; unfold p40
  repeat (first | simp (disch := omega) only [↓qxs, ↓qxc, ↓qxa, ↓gq2] | refine p_call (cellCheck_ok (by omega)) ?_ | refine p_call (lineCheck_no (by omega)) ?_)
  (try simp only [List.cons.injEq, Lf.i.injEq, and_true, true_and]); (try omega)
theorem cline22 {x y : Int} (h : -4096 ≤ x ∧ x ≤ 4096 ∧ -4096 ≤ y ∧ y ≤ 4096 ∧ -4096 ≤ y - x ∧ y - x ≤ 4096) : Cc 40 [.i x, .i y, .i 2, .i 2] [.i 4, .i (y - x), .i 0] := by
  refine q40 rfl ?_; unfold p40
  repeat (first | simp (disch := omega) only [↓qxs, ↓qxc, ↓qxa, ↓gq2] | refine p_call (cellCheck_ok (by omega)) ?_ | refine p_call (lineCheck_ok (by omega)) ?_)
  (try simp only [List.cons.injEq, Lf.i.injEq, and_true, true_and]); (try omega)
theorem clinel22 {x y : Int} (h : -4096 ≤ x ∧ x ≤ 4096 ∧ -4096 ≤ y ∧ y ≤ 4096 ∧ ¬ (-4096 ≤ y - x ∧ y - x ≤ 4096)) : Cc 40 [.i x, .i y, .i 2, .i 2] [.i 0, .i 0, .i 3] := by
  refine q40 rfl ?_; unfold p40
  repeat (first | simp (disch := omega) only [↓qxs, ↓qxc, ↓qxa, ↓gq2] | refine p_call (cellCheck_ok (by omega)) ?_ | refine p_call (lineCheck_no (by omega)) ?_)
  (try simp only [List.cons.injEq, Lf.i.injEq, and_true, true_and]); (try omega)
theorem cline30 {x y : Int} (h : -4096 ≤ x ∧ x ≤ 4096 ∧ -4096 ≤ y ∧ y ≤ 4096 ∧ -4096 ≤ x ∧ x ≤ 4096) : Cc 40 [.i x, .i y, .i 3, .i 0] [.i 1, .i x, .i 0] := by
  refine q40 rfl ?_; unfold p40
  repeat (first | simp (disch := omega) only [↓qxs, ↓qxc, ↓qxa, ↓gq3] | refine p_call (cellCheck_ok (by omega)) ?_ | refine p_call (lineCheck_ok (by omega)) ?_)
  (try simp only [List.cons.injEq, Lf.i.injEq, and_true, true_and]); (try omega)
theorem clinel30 {x y : Int} (h : -4096 ≤ x ∧ x ≤ 4096 ∧ -4096 ≤ y ∧ y ≤ 4096 ∧ ¬ (-4096 ≤ x ∧ x ≤ 4096)) : Cc 40 [.i x, .i y, .i 3, .i 0] [.i 0, .i 0, .i 3] := by
  refine q40 rfl ?_; unfold p40
  repeat (first | simp (disch := omega) only [↓qxs, ↓qxc, ↓qxa, ↓gq3] | refine p_call (cellCheck_ok (by omega)) ?_ | refine p_call (lineCheck_no (by omega)) ?_)
  (try simp only [List.cons.injEq, Lf.i.injEq, and_true, true_and]); (try omega)
theorem cline31 {x y : Int} (h : -4096 ≤ x ∧ x ≤ 4096 ∧ -4096 ≤ y ∧ y ≤ 4096 ∧ -4096 ≤ x + y + 1 ∧ x + y + 1 ≤ 4096) : Cc 40 [.i x, .i y, .i 3, .i 1] [.i 3, .i (x + y + 1), .i 0] := by
  refine q40 rfl ?_; unfold p40
  repeat (first | simp (disch := omega) only [↓qxs, ↓qxc, ↓qxa, ↓gq3] | refine p_call (cellCheck_ok (by omega)) ?_ | refine p_call (lineCheck_ok (by omega)) ?_)
  (try simp only [List.cons.injEq, Lf.i.injEq, and_true, true_and]); (try omega)
theorem clinel31 {x y : Int} (h : -4096 ≤ x ∧ x ≤ 4096 ∧ -4096 ≤ y ∧ y ≤ 4096 ∧ ¬ (-4096 ≤ x + y + 1 ∧ x + y + 1 ≤ 4096)) : Cc 40 [.i x, .i y, .i 3, .i 1] [.i 0, .i 0, .i 3] := by
  refine q40 rfl ?_; unfold p40
  repeat (first | simp (disch := omega) only [↓qxs, ↓qxc, ↓qxa, ↓gq3] | refine p_call (cellCheck_ok (by omega)) ?_ | refine p_call (lineCheck_no (by omega)) ?_)
  (try simp only [List.cons.injEq, Lf.i.injEq, and_true, true_and]); (try omega)
theorem cline32 {x y : Int} (h : -4096 ≤ x ∧ x ≤ 4096 ∧ -4096 ≤ y ∧ y ≤ 4096 ∧ -4096 ≤ y - x ∧ y - x ≤ 4096) : Cc 40 [.i x, .i y, .i 3, .i 2] [.i 4, .i (y - x), .i 0] := by
  refine q40 rfl ?_; unfold p40
  repeat (first | simp (disch := omega) only [↓qxs, ↓qxc, ↓qxa, ↓gq3] | refine p_call (cellCheck_ok (by omega)) ?_ | refine p_call (lineCheck_ok (by omega)) ?_)
  (try simp only [List.cons.injEq, Lf.i.injEq, and_true, true_and]); (try omega)
theorem clinel32 {x y : Int} (h : -4096 ≤ x ∧ x ≤ 4096 ∧ -4096 ≤ y ∧ y ≤ 4096 ∧ ¬ (-4096 ≤ y - x ∧ y - x ≤ 4096)) : Cc 40 [.i x, .i y, .i 3, .i 2] [.i 0, .i 0, .i 3] := by
  refine q40 rfl ?_; unfold p40
  repeat (first | simp (disch := omega) only [↓qxs, ↓qxc, ↓qxa, ↓gq3] | refine p_call (cellCheck_ok (by omega)) ?_ | refine p_call (lineCheck_no (by omega)) ?_)
  (try simp only [List.cons.injEq, Lf.i.injEq, and_true, true_and]); (try omega)
theorem cline_no {x y q e : Int} (h : ¬ (-4096 ≤ x ∧ x ≤ 4096 ∧ -4096 ≤ y ∧ y ≤ 4096 ∧ q ≤ 3) ∨ 2 < e) : Cc 40 [.i x, .i y, .i q, .i e] [.i 0, .i 0, .i 1] := by
  refine q40 rfl ?_; unfold p40
  by_cases hv : -4096 ≤ x ∧ x ≤ 4096 ∧ -4096 ≤ y ∧ y ≤ 4096 ∧ q ≤ 3
  · repeat (first | simp (disch := omega) only [↓qxs, ↓qxc, ↓qxa] | refine p_call (cellCheck_ok (by omega)) ?_); (try simp only [List.cons.injEq, Lf.i.injEq, and_true, true_and]); (try omega)
  · repeat (first | simp (disch := omega) only [↓qxs, ↓qxc, ↓qxa] | refine p_call (cellCheck_no (by omega)) ?_); (try simp only [List.cons.injEq, Lf.i.injEq, and_true, true_and]); (try omega)
end Go.Am
/-
  THE TABLE OF RUNS, BY PROGRAM.
-/
set_option maxRecDepth 100000
namespace Go.Am
open Sx
abbrev FB := List Lf → HL → (List Lf → HL → Bool) → Bool
def nf : FB := fun _ _ _ => false
noncomputable def tabB (A : Alg Bool HL) : Tr FB := (.node nf (.node nf (.node nf (.node nf (.node nf (.node nf .leaf (.node (f95 A) .leaf .leaf)) (.node (f47 A) (.node (f79 A) .leaf .leaf) .leaf)) (.node nf (.node nf .leaf (.node (f103 A) .leaf .leaf)) (.node (f55 A) .leaf .leaf))) (.node nf (.node nf (.node nf .leaf (.node (f99 A) .leaf .leaf)) (.node nf (.node (f83 A) .leaf .leaf) .leaf)) (.node nf (.node (f43 A) (.node (f75 A) .leaf .leaf) .leaf) (.node nf (.node (f91 A) .leaf .leaf) .leaf)))) (.node nf (.node nf (.node nf (.node nf .leaf (.node (f97 A) .leaf .leaf)) .leaf) (.node nf (.node (f41 A) .leaf (.node (f105 A) .leaf .leaf)) .leaf)) (.node nf (.node nf (.node nf .leaf (.node (f101 A) .leaf .leaf)) (.node nf (.node (f85 A) .leaf .leaf) .leaf)) .leaf))) (.node nf (.node nf (.node nf (.node nf (.node nf .leaf (.node (f96 A) .leaf .leaf)) (.node (f48 A) (.node (f80 A) .leaf .leaf) .leaf)) (.node nf (.node (f40 A) .leaf (.node (f104 A) .leaf .leaf)) .leaf)) (.node nf (.node nf (.node nf .leaf (.node (f100 A) .leaf .leaf)) (.node (f52 A) .leaf .leaf)) (.node nf (.node (f44 A) .leaf .leaf) (.node nf (.node (f92 A) .leaf .leaf) .leaf)))) (.node nf (.node nf (.node nf (.node nf (.node (f66 A) .leaf .leaf) (.node (f98 A) .leaf .leaf)) (.node (f50 A) (.node (f82 A) .leaf .leaf) .leaf)) (.node nf (.node nf (.node (f74 A) .leaf .leaf) (.node (f106 A) .leaf .leaf)) (.node nf (.node (f90 A) .leaf .leaf) .leaf))) (.node nf (.node nf (.node nf .leaf (.node (f102 A) .leaf .leaf)) .leaf) (.node nf (.node nf (.node (f78 A) .leaf .leaf) .leaf) (.node nf (.node (f94 A) .leaf .leaf) .leaf))))))
/-- Closed functions whose answer is known. -/
def knB (kn : List (FuncId × Bool)) (f : FuncId) : Option Bool := match kn with
  | [] => none
  | p :: l => match Nat.beq p.1 f with
    | true => some p.2
    | false => knB l f
noncomputable def tabT (kn : List (FuncId × Bool)) (A : Alg Bool HL) (k : CK) : FB := match k with
  | .f f => match knB kn f with
    | some t => fun ls h K => match ls with
      | [] => K [.b t] h
      | _ => false
    | none => match Nat.blt f 107 with
      | true => (pathOf f).get nf (tabB A)
      | false => nf
  | .y κ vs l => fun ls h K => execY A (xc 0) sgTab drN (siteTab κ) vs l ls h K
noncomputable abbrev runR (kn : List (FuncId × Bool)) (n : Nat) : CallB := Sx.runT sgTab siteTab (tabT kn) n
def isT (l : List Lf) (_ : HL) : Bool := match l with | [.b t] => t | _ => false
section
variable [Val] [Kno]
def TabP (k : Nat) : Prop := ∀ A ls h K, (pathOf k).get nf (tabB A) ls h K = true → ∃ fn, FnIs (xc k) sgTab k fn ∧ execF A (xc k) sgTab drN fn ls h K = true
theorem TabP.of {k : Nat} {g : Alg Bool HL → FB} {fn : Fn1} (h1 : (fun A : Alg Bool HL => (pathOf k).get nf (tabB A)) = g) (h2 : g = fun A ls h K => execF A (xc k) sgTab drN fn ls h K) (h3 : FnIs (xc k) sgTab k fn) : TabP k := by
  intro A ls h K hk
  refine ⟨fn, h3, ?_⟩
  have := congrFun (h1.trans h2) A
  rw [this] at hk
  exact hk
theorem TabP.no {k : Nat} (h1 : (fun A : Alg Bool HL => (pathOf k).get nf (tabB A)) = fun _ => nf) : TabP k := by
  intro A ls h K hk
  have := congrFun h1 A
  rw [this] at hk
  cases hk

theorem t0 : TabP 0 := .no (by kernel_rfl)
theorem t1 : TabP 1 := .no (by kernel_rfl)
theorem t2 : TabP 2 := .no (by kernel_rfl)
theorem t3 : TabP 3 := .no (by kernel_rfl)
theorem t4 : TabP 4 := .no (by kernel_rfl)
theorem t5 : TabP 5 := .no (by kernel_rfl)
theorem t6 : TabP 6 := .no (by kernel_rfl)
theorem t7 : TabP 7 := .no (by kernel_rfl)
theorem t8 : TabP 8 := .no (by kernel_rfl)
theorem t9 : TabP 9 := .no (by kernel_rfl)
theorem t10 : TabP 10 := .no (by kernel_rfl)
theorem t11 : TabP 11 := .no (by kernel_rfl)
theorem t12 : TabP 12 := .no (by kernel_rfl)
theorem t13 : TabP 13 := .no (by kernel_rfl)
theorem t14 : TabP 14 := .no (by kernel_rfl)
theorem t15 : TabP 15 := .no (by kernel_rfl)
theorem t16 : TabP 16 := .no (by kernel_rfl)
theorem t17 : TabP 17 := .no (by kernel_rfl)
theorem t18 : TabP 18 := .no (by kernel_rfl)
theorem t19 : TabP 19 := .no (by kernel_rfl)
theorem t20 : TabP 20 := .no (by kernel_rfl)
theorem t21 : TabP 21 := .no (by kernel_rfl)
theorem t22 : TabP 22 := .no (by kernel_rfl)
theorem t23 : TabP 23 := .no (by kernel_rfl)
theorem t24 : TabP 24 := .no (by kernel_rfl)
theorem t25 : TabP 25 := .no (by kernel_rfl)
theorem t26 : TabP 26 := .no (by kernel_rfl)
theorem t27 : TabP 27 := .no (by kernel_rfl)
theorem t28 : TabP 28 := .no (by kernel_rfl)
theorem t29 : TabP 29 := .no (by kernel_rfl)
theorem t30 : TabP 30 := .no (by kernel_rfl)
theorem t31 : TabP 31 := .no (by kernel_rfl)
theorem t32 : TabP 32 := .no (by kernel_rfl)
theorem t33 : TabP 33 := .no (by kernel_rfl)
theorem t34 : TabP 34 := .no (by kernel_rfl)
theorem t35 : TabP 35 := .no (by kernel_rfl)
theorem t36 : TabP 36 := .no (by kernel_rfl)
theorem t37 : TabP 37 := .no (by kernel_rfl)
theorem t38 : TabP 38 := .no (by kernel_rfl)
theorem t39 : TabP 39 := .no (by kernel_rfl)
theorem t40 : TabP 40 := .of (g := fun A => f40 A) (by kernel_rfl) (congrFun (congrFun e40 Bool) HL) i40
theorem t41 : TabP 41 := .of (g := fun A => f41 A) (by kernel_rfl) (congrFun (congrFun e41 Bool) HL) i41
theorem t42 : TabP 42 := .no (by kernel_rfl)
theorem t43 : TabP 43 := .of (g := fun A => f43 A) (by kernel_rfl) (congrFun (congrFun e43 Bool) HL) i43
theorem t44 : TabP 44 := .of (g := fun A => f44 A) (by kernel_rfl) (congrFun (congrFun e44 Bool) HL) i44
theorem t45 : TabP 45 := .no (by kernel_rfl)
theorem t46 : TabP 46 := .no (by kernel_rfl)
theorem t47 : TabP 47 := .of (g := fun A => f47 A) (by kernel_rfl) (congrFun (congrFun e47 Bool) HL) i47
theorem t48 : TabP 48 := .of (g := fun A => f48 A) (by kernel_rfl) (congrFun (congrFun e48 Bool) HL) i48
theorem t49 : TabP 49 := .no (by kernel_rfl)
theorem t50 : TabP 50 := .of (g := fun A => f50 A) (by kernel_rfl) (congrFun (congrFun e50 Bool) HL) i50
theorem t51 : TabP 51 := .no (by kernel_rfl)
theorem t52 : TabP 52 := .of (g := fun A => f52 A) (by kernel_rfl) (congrFun (congrFun e52 Bool) HL) i52
theorem t53 : TabP 53 := .no (by kernel_rfl)
theorem t54 : TabP 54 := .no (by kernel_rfl)
theorem t55 : TabP 55 := .of (g := fun A => f55 A) (by kernel_rfl) (congrFun (congrFun e55 Bool) HL) i55
theorem t56 : TabP 56 := .no (by kernel_rfl)
theorem t57 : TabP 57 := .no (by kernel_rfl)
theorem t58 : TabP 58 := .no (by kernel_rfl)
theorem t59 : TabP 59 := .no (by kernel_rfl)
theorem t60 : TabP 60 := .no (by kernel_rfl)
theorem t61 : TabP 61 := .no (by kernel_rfl)
theorem t62 : TabP 62 := .no (by kernel_rfl)
theorem t63 : TabP 63 := .no (by kernel_rfl)
theorem t64 : TabP 64 := .no (by kernel_rfl)
theorem t65 : TabP 65 := .no (by kernel_rfl)
theorem t66 : TabP 66 := .of (g := fun A => f66 A) (by kernel_rfl) (congrFun (congrFun e66 Bool) HL) i66
theorem t67 : TabP 67 := .no (by kernel_rfl)
theorem t68 : TabP 68 := .no (by kernel_rfl)
theorem t69 : TabP 69 := .no (by kernel_rfl)
theorem t70 : TabP 70 := .no (by kernel_rfl)
theorem t71 : TabP 71 := .no (by kernel_rfl)
theorem t72 : TabP 72 := .no (by kernel_rfl)
theorem t73 : TabP 73 := .no (by kernel_rfl)
theorem t74 : TabP 74 := .of (g := fun A => f74 A) (by kernel_rfl) (congrFun (congrFun e74 Bool) HL) i74
theorem t75 : TabP 75 := .of (g := fun A => f75 A) (by kernel_rfl) (congrFun (congrFun e75 Bool) HL) i75
theorem t76 : TabP 76 := .no (by kernel_rfl)
theorem t77 : TabP 77 := .no (by kernel_rfl)
theorem t78 : TabP 78 := .of (g := fun A => f78 A) (by kernel_rfl) (congrFun (congrFun e78 Bool) HL) i78
theorem t79 : TabP 79 := .of (g := fun A => f79 A) (by kernel_rfl) (congrFun (congrFun e79 Bool) HL) i79
theorem t80 : TabP 80 := .of (g := fun A => f80 A) (by kernel_rfl) (congrFun (congrFun e80 Bool) HL) i80
theorem t81 : TabP 81 := .no (by kernel_rfl)
theorem t82 : TabP 82 := .of (g := fun A => f82 A) (by kernel_rfl) (congrFun (congrFun e82 Bool) HL) i82
theorem t83 : TabP 83 := .of (g := fun A => f83 A) (by kernel_rfl) (congrFun (congrFun e83 Bool) HL) i83
theorem t84 : TabP 84 := .no (by kernel_rfl)
theorem t85 : TabP 85 := .of (g := fun A => f85 A) (by kernel_rfl) (congrFun (congrFun e85 Bool) HL) i85
theorem t86 : TabP 86 := .no (by kernel_rfl)
theorem t87 : TabP 87 := .no (by kernel_rfl)
theorem t88 : TabP 88 := .no (by kernel_rfl)
theorem t89 : TabP 89 := .no (by kernel_rfl)
theorem t90 : TabP 90 := .of (g := fun A => f90 A) (by kernel_rfl) (congrFun (congrFun e90 Bool) HL) i90
theorem t91 : TabP 91 := .of (g := fun A => f91 A) (by kernel_rfl) (congrFun (congrFun e91 Bool) HL) i91
theorem t92 : TabP 92 := .of (g := fun A => f92 A) (by kernel_rfl) (congrFun (congrFun e92 Bool) HL) i92
theorem t93 : TabP 93 := .no (by kernel_rfl)
theorem t94 : TabP 94 := .of (g := fun A => f94 A) (by kernel_rfl) (congrFun (congrFun e94 Bool) HL) i94
theorem t95 : TabP 95 := .of (g := fun A => f95 A) (by kernel_rfl) (congrFun (congrFun e95 Bool) HL) i95
theorem t96 : TabP 96 := .of (g := fun A => f96 A) (by kernel_rfl) (congrFun (congrFun e96 Bool) HL) i96
theorem t97 : TabP 97 := .of (g := fun A => f97 A) (by kernel_rfl) (congrFun (congrFun e97 Bool) HL) i97
theorem t98 : TabP 98 := .of (g := fun A => f98 A) (by kernel_rfl) (congrFun (congrFun e98 Bool) HL) i98
theorem t99 : TabP 99 := .of (g := fun A => f99 A) (by kernel_rfl) (congrFun (congrFun e99 Bool) HL) i99
theorem t100 : TabP 100 := .of (g := fun A => f100 A) (by kernel_rfl) (congrFun (congrFun e100 Bool) HL) i100
theorem t101 : TabP 101 := .of (g := fun A => f101 A) (by kernel_rfl) (congrFun (congrFun e101 Bool) HL) i101
theorem t102 : TabP 102 := .of (g := fun A => f102 A) (by kernel_rfl) (congrFun (congrFun e102 Bool) HL) i102
theorem t103 : TabP 103 := .of (g := fun A => f103 A) (by kernel_rfl) (congrFun (congrFun e103 Bool) HL) i103
theorem t104 : TabP 104 := .of (g := fun A => f104 A) (by kernel_rfl) (congrFun (congrFun e104 Bool) HL) i104
theorem t105 : TabP 105 := .of (g := fun A => f105 A) (by kernel_rfl) (congrFun (congrFun e105 Bool) HL) i105
theorem t106 : TabP 106 := .of (g := fun A => f106 A) (by kernel_rfl) (congrFun (congrFun e106 Bool) HL) i106
theorem tabAll : ∀ f, Nat.blt f 107 = true → TabP f
  | 0, _ => t0
  | 1, _ => t1
  | 2, _ => t2
  | 3, _ => t3
  | 4, _ => t4
  | 5, _ => t5
  | 6, _ => t6
  | 7, _ => t7
  | 8, _ => t8
  | 9, _ => t9
  | 10, _ => t10
  | 11, _ => t11
  | 12, _ => t12
  | 13, _ => t13
  | 14, _ => t14
  | 15, _ => t15
  | 16, _ => t16
  | 17, _ => t17
  | 18, _ => t18
  | 19, _ => t19
  | 20, _ => t20
  | 21, _ => t21
  | 22, _ => t22
  | 23, _ => t23
  | 24, _ => t24
  | 25, _ => t25
  | 26, _ => t26
  | 27, _ => t27
  | 28, _ => t28
  | 29, _ => t29
  | 30, _ => t30
  | 31, _ => t31
  | 32, _ => t32
  | 33, _ => t33
  | 34, _ => t34
  | 35, _ => t35
  | 36, _ => t36
  | 37, _ => t37
  | 38, _ => t38
  | 39, _ => t39
  | 40, _ => t40
  | 41, _ => t41
  | 42, _ => t42
  | 43, _ => t43
  | 44, _ => t44
  | 45, _ => t45
  | 46, _ => t46
  | 47, _ => t47
  | 48, _ => t48
  | 49, _ => t49
  | 50, _ => t50
  | 51, _ => t51
  | 52, _ => t52
  | 53, _ => t53
  | 54, _ => t54
  | 55, _ => t55
  | 56, _ => t56
  | 57, _ => t57
  | 58, _ => t58
  | 59, _ => t59
  | 60, _ => t60
  | 61, _ => t61
  | 62, _ => t62
  | 63, _ => t63
  | 64, _ => t64
  | 65, _ => t65
  | 66, _ => t66
  | 67, _ => t67
  | 68, _ => t68
  | 69, _ => t69
  | 70, _ => t70
  | 71, _ => t71
  | 72, _ => t72
  | 73, _ => t73
  | 74, _ => t74
  | 75, _ => t75
  | 76, _ => t76
  | 77, _ => t77
  | 78, _ => t78
  | 79, _ => t79
  | 80, _ => t80
  | 81, _ => t81
  | 82, _ => t82
  | 83, _ => t83
  | 84, _ => t84
  | 85, _ => t85
  | 86, _ => t86
  | 87, _ => t87
  | 88, _ => t88
  | 89, _ => t89
  | 90, _ => t90
  | 91, _ => t91
  | 92, _ => t92
  | 93, _ => t93
  | 94, _ => t94
  | 95, _ => t95
  | 96, _ => t96
  | 97, _ => t97
  | 98, _ => t98
  | 99, _ => t99
  | 100, _ => t100
  | 101, _ => t101
  | 102, _ => t102
  | 103, _ => t103
  | 104, _ => t104
  | 105, _ => t105
  | 106, _ => t106
  | n + 107, h => by rw [Nat.blt_eq] at h; omega
theorem knB_mem {f : FuncId} {t : Bool} : ∀ {l : List (FuncId × Bool)}, knB l f = some t → (f, t) ∈ l
  | p :: l, h => by
    unfold knB at h
    split at h
    · rename_i e
      cases h
      have := Nat.eq_of_beq_eq_true e
      subst this
      exact List.mem_cons_self
    · exact List.mem_cons_of_mem _ (knB_mem h)
theorem run_ok (kn : List (FuncId × Bool)) (hkn : ∀ p ∈ kn, sgTab p.1 = some ⟨[], [lb]⟩ ∧ Kno.kn p.1 [] (.bool p.2)) (n : Nat) : CallBOk cc sgTab siteTab (runR kn n) :=
  Sx.runT_ok (tab := tabT kn) (T := siteTab) (X := xc) (dr := drN) (fun pts ops h n σ σ' hx => dr_ok neuN_ok pts ops h n σ σ' hx) (fun _ => ⟨rfl, rfl⟩) (fun A f ls h K hk => by
    simp only [tabT] at hk
    cases e0 : knB kn f with
    | some t =>
      rw [e0] at hk
      match ls, hk with
      | [], hk =>
        obtain ⟨h1, h2⟩ := hkn _ (knB_mem e0)
        exact .inr ⟨[.b t], fun H => ⟨⟨[], [lb]⟩, [], [.leaf (.b t)], h1, ⟨rfl, rfl, fun _ h => by cases h⟩, ⟨rfl, rfl, fun x hx => by
          simp only [List.mem_singleton] at hx
          subst hx
          intro y hy
          simp only [S0.cells, List.mem_singleton] at hy
          subst hy; trivial⟩, call_known h2 H⟩, hk⟩
    | none =>
      rw [e0] at hk
      cases e : Nat.blt f 107 with
      | true => rw [e] at hk; exact .inl (tabAll f e A ls h K hk)
      | false => rw [e] at hk; cases hk) (fun A κ vs l ls h K hk => ⟨0, hk⟩) n
end
end Go.Am

/-
  CLOSED FUNCTIONS THAT THE KERNEL RUNS: their contracts.
-/
set_option maxRecDepth 100000
namespace Go.Am
open Sx Go.Proofs

/-- A closed function that a run shows to say true. -/
theorem ran {g : FuncId} {n : Nat} (hs : sgTab g = some ⟨[], [lb]⟩) (h : runR [] n (.f g) [] [] isT = true) : Cc g [] [.b true] := by
  obtain ⟨H', h1⟩ := closed_true (run_ok [] (fun _ h => by cases h) n) hs h
  intro H
  refine ⟨⟨[], [lb]⟩, [], [.leaf (.b true)], hs, ⟨rfl, rfl, fun _ h => by cases h⟩, ⟨rfl, rfl, fun x hx => ?_⟩, ⟨0, fun H => frame_ok gl_flat (uCallC_ok mixed h1) rfl rfl H, rfl⟩⟩
  simp only [List.mem_singleton] at hx
  subst hx
  intro y hy
  simp only [S0.cells, List.mem_singleton] at hy
  subst hy; trivial
end Go.Am

/-
  The examples of chapter 3.
-/
set_option maxRecDepth 100000
namespace Go.Am
open Sx Go.Proofs
theorem lives : Cc 44 [] [.b true] := ran (n := 60) rfl (by kernel_rfl)
end Go.Am

/-
  RULES ON TRUTH VALUES.
-/
namespace Go.Am
open Sx Go.Proofs
theorem b_tt {l : List (Lf × Lf)} {K : Bool → Prop} : P1.eqs ((.b true, .b true) :: l) (@hid _ ⟨K⟩) = P1.eqs l (@hid _ ⟨K⟩) := rfl
theorem b_ff {l : List (Lf × Lf)} {K : Bool → Prop} : P1.eqs ((.b false, .b false) :: l) (@hid _ ⟨K⟩) = P1.eqs l (@hid _ ⟨K⟩) := rfl
theorem b_nt {X Y : Prop} : P1.cond (!true) X (@hid _ ⟨Y⟩) = Y := b_cond_f
theorem b_nf {X Y : Prop} : P1.cond (!false) (@hid _ ⟨X⟩) Y = X := b_cond_t
/-- These, in one. -/
def qxb := And.intro @b_tt (And.intro @b_ff (And.intro @b_nt @b_nf))
end Go.Am

/-
  CONTRACTS, BY PROGRAM: CellsLine.
-/
set_option maxRecDepth 100000
set_option maxHeartbeats 4000000
namespace Go.Am
open Sx Go.Proofs

theorem cellsLine_any {x y q e : Int} (h : -9223372036854775808 ≤ x ∧ x ≤ 9223372036854775807 ∧ -9223372036854775808 ≤ y ∧ y ≤ 9223372036854775807 ∧ 0 ≤ q ∧ q ≤ 255 ∧ 0 ≤ e ∧ e ≤ 255) : Cc 9 [.i x, .i y, .i q, .i e] [.b true] := by
  refine q9 rfl ?_; unfold p9
  by_cases hv : -4096 ≤ x ∧ x ≤ 4096 ∧ -4096 ≤ y ∧ y ≤ 4096 ∧ q ≤ 3
  · obtain rfl | rfl | rfl | rfl : q = 0 ∨ q = 1 ∨ q = 2 ∨ q = 3 := by omega
    · by_cases he : 2 < e
      · first | (exfalso; omega) | (repeat (first | simp (disch := omega) only [↓qxs, ↓qxc, ↓qxa, ↓qxb] | refine p_call (cline_no (by omega)) ?_ | refine p_call (ccorn0 (by omega)) ?_ | refine p_call (rcorn0 (by omega)) ?_ | refine p_call lives ?_ | refine p_call (v3_ok (by omega)) ?_ | refine p_call (v3_no (by omega)) ?_ | refine p_call (cellCheck_ok (by omega)) ?_ | refine p_call (cellCheck_no (by omega)) ?_))
      · obtain rfl | rfl | rfl : e = 0 ∨ e = 1 ∨ e = 2 := by omega
        · by_cases hl : -4096 ≤ y ∧ y ≤ 4096
          · first | (exfalso; omega) | (repeat (first | simp (disch := omega) only [↓qxs, ↓qxc, ↓qxa, ↓qxb] | refine p_call (cline00 (by omega)) ?_ | refine p_call (clinel00 (by omega)) ?_ | refine p_call (ccorn0 (by omega)) ?_ | refine p_call (rcorn0 (by omega)) ?_ | refine p_call (rline00 (by omega)) ?_ | refine p_call (v1_ok (by omega)) ?_ | refine p_call (v1_no (by omega)) ?_ | refine p_call lives ?_ | refine p_call (v3_ok (by omega)) ?_ | refine p_call (v3_no (by omega)) ?_ | refine p_call (cellCheck_ok (by omega)) ?_ | refine p_call (cellCheck_no (by omega)) ?_))
          · first | (exfalso; omega) | (repeat (first | simp (disch := omega) only [↓qxs, ↓qxc, ↓qxa, ↓qxb] | refine p_call (cline00 (by omega)) ?_ | refine p_call (clinel00 (by omega)) ?_ | refine p_call (ccorn0 (by omega)) ?_ | refine p_call (rcorn0 (by omega)) ?_ | refine p_call (rline00 (by omega)) ?_ | refine p_call (v1_ok (by omega)) ?_ | refine p_call (v1_no (by omega)) ?_ | refine p_call lives ?_ | refine p_call (v3_ok (by omega)) ?_ | refine p_call (v3_no (by omega)) ?_ | refine p_call (cellCheck_ok (by omega)) ?_ | refine p_call (cellCheck_no (by omega)) ?_))
        · by_cases hl : -4096 ≤ x + y + 1 ∧ x + y + 1 ≤ 4096
          · first | (exfalso; omega) | (repeat (first | simp (disch := omega) only [↓qxs, ↓qxc, ↓qxa, ↓qxb] | refine p_call (cline01 (by omega)) ?_ | refine p_call (clinel01 (by omega)) ?_ | refine p_call (ccorn0 (by omega)) ?_ | refine p_call (rcorn0 (by omega)) ?_ | refine p_call (rline01 (by omega)) ?_ | refine p_call (v1_ok (by omega)) ?_ | refine p_call (v1_no (by omega)) ?_ | refine p_call lives ?_ | refine p_call (v3_ok (by omega)) ?_ | refine p_call (v3_no (by omega)) ?_ | refine p_call (cellCheck_ok (by omega)) ?_ | refine p_call (cellCheck_no (by omega)) ?_))
          · first | (exfalso; omega) | (repeat (first | simp (disch := omega) only [↓qxs, ↓qxc, ↓qxa, ↓qxb] | refine p_call (cline01 (by omega)) ?_ | refine p_call (clinel01 (by omega)) ?_ | refine p_call (ccorn0 (by omega)) ?_ | refine p_call (rcorn0 (by omega)) ?_ | refine p_call (rline01 (by omega)) ?_ | refine p_call (v1_ok (by omega)) ?_ | refine p_call (v1_no (by omega)) ?_ | refine p_call lives ?_ | refine p_call (v3_ok (by omega)) ?_ | refine p_call (v3_no (by omega)) ?_ | refine p_call (cellCheck_ok (by omega)) ?_ | refine p_call (cellCheck_no (by omega)) ?_))
        · by_cases hl : -4096 ≤ y - x ∧ y - x ≤ 4096
          · first | (exfalso; omega) | (repeat (first | simp (disch := omega) only [↓qxs, ↓qxc, ↓qxa, ↓qxb] | refine p_call (cline02 (by omega)) ?_ | refine p_call (clinel02 (by omega)) ?_ | refine p_call (ccorn0 (by omega)) ?_ | refine p_call (rcorn0 (by omega)) ?_ | refine p_call (rline02 (by omega)) ?_ | refine p_call (v1_ok (by omega)) ?_ | refine p_call (v1_no (by omega)) ?_ | refine p_call lives ?_ | refine p_call (v3_ok (by omega)) ?_ | refine p_call (v3_no (by omega)) ?_ | refine p_call (cellCheck_ok (by omega)) ?_ | refine p_call (cellCheck_no (by omega)) ?_))
          · first | (exfalso; omega) | (repeat (first | simp (disch := omega) only [↓qxs, ↓qxc, ↓qxa, ↓qxb] | refine p_call (cline02 (by omega)) ?_ | refine p_call (clinel02 (by omega)) ?_ | refine p_call (ccorn0 (by omega)) ?_ | refine p_call (rcorn0 (by omega)) ?_ | refine p_call (rline02 (by omega)) ?_ | refine p_call (v1_ok (by omega)) ?_ | refine p_call (v1_no (by omega)) ?_ | refine p_call lives ?_ | refine p_call (v3_ok (by omega)) ?_ | refine p_call (v3_no (by omega)) ?_ | refine p_call (cellCheck_ok (by omega)) ?_ | refine p_call (cellCheck_no (by omega)) ?_))
    · by_cases he : 2 < e
      · first | (exfalso; omega) | (repeat (first | simp (disch := omega) only [↓qxs, ↓qxc, ↓qxa, ↓qxb] | refine p_call (cline_no (by omega)) ?_ | refine p_call (ccorn1 (by omega)) ?_ | refine p_call (rcorn1 (by omega)) ?_ | refine p_call lives ?_ | refine p_call (v3_ok (by omega)) ?_ | refine p_call (v3_no (by omega)) ?_ | refine p_call (cellCheck_ok (by omega)) ?_ | refine p_call (cellCheck_no (by omega)) ?_))
      · obtain rfl | rfl | rfl : e = 0 ∨ e = 1 ∨ e = 2 := by omega
        · by_cases hl : -4096 ≤ x + 1 ∧ x + 1 ≤ 4096
          · first | (exfalso; omega) | (repeat (first | simp (disch := omega) only [↓qxs, ↓qxc, ↓qxa, ↓qxb] | refine p_call (cline10 (by omega)) ?_ | refine p_call (clinel10 (by omega)) ?_ | refine p_call (ccorn1 (by omega)) ?_ | refine p_call (rcorn1 (by omega)) ?_ | refine p_call (rline10 (by omega)) ?_ | refine p_call (v1_ok (by omega)) ?_ | refine p_call (v1_no (by omega)) ?_ | refine p_call lives ?_ | refine p_call (v3_ok (by omega)) ?_ | refine p_call (v3_no (by omega)) ?_ | refine p_call (cellCheck_ok (by omega)) ?_ | refine p_call (cellCheck_no (by omega)) ?_))
          · first | (exfalso; omega) | (repeat (first | simp (disch := omega) only [↓qxs, ↓qxc, ↓qxa, ↓qxb] | refine p_call (cline10 (by omega)) ?_ | refine p_call (clinel10 (by omega)) ?_ | refine p_call (ccorn1 (by omega)) ?_ | refine p_call (rcorn1 (by omega)) ?_ | refine p_call (rline10 (by omega)) ?_ | refine p_call (v1_ok (by omega)) ?_ | refine p_call (v1_no (by omega)) ?_ | refine p_call lives ?_ | refine p_call (v3_ok (by omega)) ?_ | refine p_call (v3_no (by omega)) ?_ | refine p_call (cellCheck_ok (by omega)) ?_ | refine p_call (cellCheck_no (by omega)) ?_))
        · by_cases hl : -4096 ≤ x + y + 1 ∧ x + y + 1 ≤ 4096
          · first | (exfalso; omega) | (repeat (first | simp (disch := omega) only [↓qxs, ↓qxc, ↓qxa, ↓qxb] | refine p_call (cline11 (by omega)) ?_ | refine p_call (clinel11 (by omega)) ?_ | refine p_call (ccorn1 (by omega)) ?_ | refine p_call (rcorn1 (by omega)) ?_ | refine p_call (rline11 (by omega)) ?_ | refine p_call (v1_ok (by omega)) ?_ | refine p_call (v1_no (by omega)) ?_ | refine p_call lives ?_ | refine p_call (v3_ok (by omega)) ?_ | refine p_call (v3_no (by omega)) ?_ | refine p_call (cellCheck_ok (by omega)) ?_ | refine p_call (cellCheck_no (by omega)) ?_))
          · first | (exfalso; omega) | (repeat (first | simp (disch := omega) only [↓qxs, ↓qxc, ↓qxa, ↓qxb] | refine p_call (cline11 (by omega)) ?_ | refine p_call (clinel11 (by omega)) ?_ | refine p_call (ccorn1 (by omega)) ?_ | refine p_call (rcorn1 (by omega)) ?_ | refine p_call (rline11 (by omega)) ?_ | refine p_call (v1_ok (by omega)) ?_ | refine p_call (v1_no (by omega)) ?_ | refine p_call lives ?_ | refine p_call (v3_ok (by omega)) ?_ | refine p_call (v3_no (by omega)) ?_ | refine p_call (cellCheck_ok (by omega)) ?_ | refine p_call (cellCheck_no (by omega)) ?_))
        · by_cases hl : -4096 ≤ y - x ∧ y - x ≤ 4096
          · first | (exfalso; omega) | (repeat (first | simp (disch := omega) only [↓qxs, ↓qxc, ↓qxa, ↓qxb] | refine p_call (cline12 (by omega)) ?_ | refine p_call (clinel12 (by omega)) ?_ | refine p_call (ccorn1 (by omega)) ?_ | refine p_call (rcorn1 (by omega)) ?_ | refine p_call (rline12 (by omega)) ?_ | refine p_call (v1_ok (by omega)) ?_ | refine p_call (v1_no (by omega)) ?_ | refine p_call lives ?_ | refine p_call (v3_ok (by omega)) ?_ | refine p_call (v3_no (by omega)) ?_ | refine p_call (cellCheck_ok (by omega)) ?_ | refine p_call (cellCheck_no (by omega)) ?_))
          · first | (exfalso; omega) | (repeat (first | simp (disch := omega) only [↓qxs, ↓qxc, ↓qxa, ↓qxb] | refine p_call (cline12 (by omega)) ?_ | refine p_call (clinel12 (by omega)) ?_ | refine p_call (ccorn1 (by omega)) ?_ | refine p_call (rcorn1 (by omega)) ?_ | refine p_call (rline12 (by omega)) ?_ | refine p_call (v1_ok (by omega)) ?_ | refine p_call (v1_no (by omega)) ?_ | refine p_call lives ?_ | refine p_call (v3_ok (by omega)) ?_ | refine p_call (v3_no (by omega)) ?_ | refine p_call (cellCheck_ok (by omega)) ?_ | refine p_call (cellCheck_no (by omega)) ?_))
    · by_cases he : 2 < e
      · first | (exfalso; omega) | (repeat (first | simp (disch := omega) only [↓qxs, ↓qxc, ↓qxa, ↓qxb] | refine p_call (cline_no (by omega)) ?_ | refine p_call (ccorn2 (by omega)) ?_ | refine p_call (rcorn2 (by omega)) ?_ | refine p_call lives ?_ | refine p_call (v3_ok (by omega)) ?_ | refine p_call (v3_no (by omega)) ?_ | refine p_call (cellCheck_ok (by omega)) ?_ | refine p_call (cellCheck_no (by omega)) ?_))
      · obtain rfl | rfl | rfl : e = 0 ∨ e = 1 ∨ e = 2 := by omega
        · by_cases hl : -4096 ≤ y + 1 ∧ y + 1 ≤ 4096
          · first | (exfalso; omega) | (repeat (first | simp (disch := omega) only [↓qxs, ↓qxc, ↓qxa, ↓qxb] | refine p_call (cline20 (by omega)) ?_ | refine p_call (clinel20 (by omega)) ?_ | refine p_call (ccorn2 (by omega)) ?_ | refine p_call (rcorn2 (by omega)) ?_ | refine p_call (rline20 (by omega)) ?_ | refine p_call (v1_ok (by omega)) ?_ | refine p_call (v1_no (by omega)) ?_ | refine p_call lives ?_ | refine p_call (v3_ok (by omega)) ?_ | refine p_call (v3_no (by omega)) ?_ | refine p_call (cellCheck_ok (by omega)) ?_ | refine p_call (cellCheck_no (by omega)) ?_))
          · first | (exfalso; omega) | (repeat (first | simp (disch := omega) only [↓qxs, ↓qxc, ↓qxa, ↓qxb] | refine p_call (cline20 (by omega)) ?_ | refine p_call (clinel20 (by omega)) ?_ | refine p_call (ccorn2 (by omega)) ?_ | refine p_call (rcorn2 (by omega)) ?_ | refine p_call (rline20 (by omega)) ?_ | refine p_call (v1_ok (by omega)) ?_ | refine p_call (v1_no (by omega)) ?_ | refine p_call lives ?_ | refine p_call (v3_ok (by omega)) ?_ | refine p_call (v3_no (by omega)) ?_ | refine p_call (cellCheck_ok (by omega)) ?_ | refine p_call (cellCheck_no (by omega)) ?_))
        · by_cases hl : -4096 ≤ x + y + 1 ∧ x + y + 1 ≤ 4096
          · first | (exfalso; omega) | (repeat (first | simp (disch := omega) only [↓qxs, ↓qxc, ↓qxa, ↓qxb] | refine p_call (cline21 (by omega)) ?_ | refine p_call (clinel21 (by omega)) ?_ | refine p_call (ccorn2 (by omega)) ?_ | refine p_call (rcorn2 (by omega)) ?_ | refine p_call (rline21 (by omega)) ?_ | refine p_call (v1_ok (by omega)) ?_ | refine p_call (v1_no (by omega)) ?_ | refine p_call lives ?_ | refine p_call (v3_ok (by omega)) ?_ | refine p_call (v3_no (by omega)) ?_ | refine p_call (cellCheck_ok (by omega)) ?_ | refine p_call (cellCheck_no (by omega)) ?_))
          · first | (exfalso; omega) | (repeat (first | simp (disch := omega) only [↓qxs, ↓qxc, ↓qxa, ↓qxb] | refine p_call (cline21 (by omega)) ?_ | refine p_call (clinel21 (by omega)) ?_ | refine p_call (ccorn2 (by omega)) ?_ | refine p_call (rcorn2 (by omega)) ?_ | refine p_call (rline21 (by omega)) ?_ | refine p_call (v1_ok (by omega)) ?_ | refine p_call (v1_no (by omega)) ?_ | refine p_call lives ?_ | refine p_call (v3_ok (by omega)) ?_ | refine p_call (v3_no (by omega)) ?_ | refine p_call (cellCheck_ok (by omega)) ?_ | refine p_call (cellCheck_no (by omega)) ?_))
        · by_cases hl : -4096 ≤ y - x ∧ y - x ≤ 4096
          · first | (exfalso; omega) | (repeat (first | simp (disch := omega) only [↓qxs, ↓qxc, ↓qxa, ↓qxb] | refine p_call (cline22 (by omega)) ?_ | refine p_call (clinel22 (by omega)) ?_ | refine p_call (ccorn2 (by omega)) ?_ | refine p_call (rcorn2 (by omega)) ?_ | refine p_call (rline22 (by omega)) ?_ | refine p_call (v1_ok (by omega)) ?_ | refine p_call (v1_no (by omega)) ?_ | refine p_call lives ?_ | refine p_call (v3_ok (by omega)) ?_ | refine p_call (v3_no (by omega)) ?_ | refine p_call (cellCheck_ok (by omega)) ?_ | refine p_call (cellCheck_no (by omega)) ?_))
          · first | (exfalso; omega) | (repeat (first | simp (disch := omega) only [↓qxs, ↓qxc, ↓qxa, ↓qxb] | refine p_call (cline22 (by omega)) ?_ | refine p_call (clinel22 (by omega)) ?_ | refine p_call (ccorn2 (by omega)) ?_ | refine p_call (rcorn2 (by omega)) ?_ | refine p_call (rline22 (by omega)) ?_ | refine p_call (v1_ok (by omega)) ?_ | refine p_call (v1_no (by omega)) ?_ | refine p_call lives ?_ | refine p_call (v3_ok (by omega)) ?_ | refine p_call (v3_no (by omega)) ?_ | refine p_call (cellCheck_ok (by omega)) ?_ | refine p_call (cellCheck_no (by omega)) ?_))
    · by_cases he : 2 < e
      · first | (exfalso; omega) | (repeat (first | simp (disch := omega) only [↓qxs, ↓qxc, ↓qxa, ↓qxb] | refine p_call (cline_no (by omega)) ?_ | refine p_call (ccorn3 (by omega)) ?_ | refine p_call (rcorn3 (by omega)) ?_ | refine p_call lives ?_ | refine p_call (v3_ok (by omega)) ?_ | refine p_call (v3_no (by omega)) ?_ | refine p_call (cellCheck_ok (by omega)) ?_ | refine p_call (cellCheck_no (by omega)) ?_))
      · obtain rfl | rfl | rfl : e = 0 ∨ e = 1 ∨ e = 2 := by omega
        · by_cases hl : -4096 ≤ x ∧ x ≤ 4096
          · first | (exfalso; omega) | (repeat (first | simp (disch := omega) only [↓qxs, ↓qxc, ↓qxa, ↓qxb] | refine p_call (cline30 (by omega)) ?_ | refine p_call (clinel30 (by omega)) ?_ | refine p_call (ccorn3 (by omega)) ?_ | refine p_call (rcorn3 (by omega)) ?_ | refine p_call (rline30 (by omega)) ?_ | refine p_call (v1_ok (by omega)) ?_ | refine p_call (v1_no (by omega)) ?_ | refine p_call lives ?_ | refine p_call (v3_ok (by omega)) ?_ | refine p_call (v3_no (by omega)) ?_ | refine p_call (cellCheck_ok (by omega)) ?_ | refine p_call (cellCheck_no (by omega)) ?_))
          · first | (exfalso; omega) | (repeat (first | simp (disch := omega) only [↓qxs, ↓qxc, ↓qxa, ↓qxb] | refine p_call (cline30 (by omega)) ?_ | refine p_call (clinel30 (by omega)) ?_ | refine p_call (ccorn3 (by omega)) ?_ | refine p_call (rcorn3 (by omega)) ?_ | refine p_call (rline30 (by omega)) ?_ | refine p_call (v1_ok (by omega)) ?_ | refine p_call (v1_no (by omega)) ?_ | refine p_call lives ?_ | refine p_call (v3_ok (by omega)) ?_ | refine p_call (v3_no (by omega)) ?_ | refine p_call (cellCheck_ok (by omega)) ?_ | refine p_call (cellCheck_no (by omega)) ?_))
        · by_cases hl : -4096 ≤ x + y + 1 ∧ x + y + 1 ≤ 4096
          · first | (exfalso; omega) | (repeat (first | simp (disch := omega) only [↓qxs, ↓qxc, ↓qxa, ↓qxb] | refine p_call (cline31 (by omega)) ?_ | refine p_call (clinel31 (by omega)) ?_ | refine p_call (ccorn3 (by omega)) ?_ | refine p_call (rcorn3 (by omega)) ?_ | refine p_call (rline31 (by omega)) ?_ | refine p_call (v1_ok (by omega)) ?_ | refine p_call (v1_no (by omega)) ?_ | refine p_call lives ?_ | refine p_call (v3_ok (by omega)) ?_ | refine p_call (v3_no (by omega)) ?_ | refine p_call (cellCheck_ok (by omega)) ?_ | refine p_call (cellCheck_no (by omega)) ?_))
          · first | (exfalso; omega) | (repeat (first | simp (disch := omega) only [↓qxs, ↓qxc, ↓qxa, ↓qxb] | refine p_call (cline31 (by omega)) ?_ | refine p_call (clinel31 (by omega)) ?_ | refine p_call (ccorn3 (by omega)) ?_ | refine p_call (rcorn3 (by omega)) ?_ | refine p_call (rline31 (by omega)) ?_ | refine p_call (v1_ok (by omega)) ?_ | refine p_call (v1_no (by omega)) ?_ | refine p_call lives ?_ | refine p_call (v3_ok (by omega)) ?_ | refine p_call (v3_no (by omega)) ?_ | refine p_call (cellCheck_ok (by omega)) ?_ | refine p_call (cellCheck_no (by omega)) ?_))
        · by_cases hl : -4096 ≤ y - x ∧ y - x ≤ 4096
          · first | (exfalso; omega) | (repeat (first | simp (disch := omega) only [↓qxs, ↓qxc, ↓qxa, ↓qxb] | refine p_call (cline32 (by omega)) ?_ | refine p_call (clinel32 (by omega)) ?_ | refine p_call (ccorn3 (by omega)) ?_ | refine p_call (rcorn3 (by omega)) ?_ | refine p_call (rline32 (by omega)) ?_ | refine p_call (v1_ok (by omega)) ?_ | refine p_call (v1_no (by omega)) ?_ | refine p_call lives ?_ | refine p_call (v3_ok (by omega)) ?_ | refine p_call (v3_no (by omega)) ?_ | refine p_call (cellCheck_ok (by omega)) ?_ | refine p_call (cellCheck_no (by omega)) ?_))
          · first | (exfalso; omega) | (repeat (first | simp (disch := omega) only [↓qxs, ↓qxc, ↓qxa, ↓qxb] | refine p_call (cline32 (by omega)) ?_ | refine p_call (clinel32 (by omega)) ?_ | refine p_call (ccorn3 (by omega)) ?_ | refine p_call (rcorn3 (by omega)) ?_ | refine p_call (rline32 (by omega)) ?_ | refine p_call (v1_ok (by omega)) ?_ | refine p_call (v1_no (by omega)) ?_ | refine p_call lives ?_ | refine p_call (v3_ok (by omega)) ?_ | refine p_call (v3_no (by omega)) ?_ | refine p_call (cellCheck_ok (by omega)) ?_ | refine p_call (cellCheck_no (by omega)) ?_))
  · first | (exfalso; omega) | (repeat (first | simp (disch := omega) only [↓qxs, ↓qxc, ↓qxa, ↓qxb] | refine p_call (cline_no (by omega)) ?_ | refine p_call (ccorn_no (by omega)) ?_ | refine p_call lives ?_ | refine p_call (v3_ok (by omega)) ?_ | refine p_call (v3_no (by omega)) ?_ | refine p_call (cellCheck_ok (by omega)) ?_ | refine p_call (cellCheck_no (by omega)) ?_))
end Go.Am
/-
  ARGUMENTS WITHOUT ADDRESSES, as the row reads them.
-/
namespace Go.Am
namespace Sx
open Go.ChangeShapes Go.WideShapes Go.ChangeAt Go.WideMaps Go.WideElems Go.RowKit

/-- The cells are of these kinds, in their ranges. -/
def FitC : List LK → List Value → Prop
  | [], [] => True
  | .i k :: ks, v :: vs => (∃ n, v = .int k n ∧ (Lit.int k n).wf = true) ∧ FitC ks vs
  | .b :: ks, v :: vs => (∃ t, v = .bool t) ∧ FitC ks vs
  | _, _ => False
/-- The leaves are of these kinds, in their ranges. -/
def FitL : List LK → List Lf → Prop
  | [], [] => True
  | .i k :: ks, .i n :: ls => (Lit.int k n).wf = true ∧ FitL ks ls
  | .b :: ks, .b _ :: ls => FitL ks ls
  | _, _ => False

theorem FitC.len : ∀ {ks : List LK} {vs : List Value}, FitC ks vs → vs.length = ks.length
  | [], [], _ => rfl
  | .i k :: ks, v :: vs, h => by simp [FitC.len h.2]
  | .b :: ks, v :: vs, h => by simp [FitC.len h.2]
  | .v :: _, _, h => by cases h
  | [], _ :: _, h => by cases h
  | .i _ :: _, [], h => by cases h
  | .b :: _, [], h => by cases h
theorem FitC.app : ∀ {ks ks' : List LK} {vs vs' : List Value}, FitC ks vs → FitC ks' vs' → FitC (ks ++ ks') (vs ++ vs')
  | [], _, [], _, _, h => h
  | .i k :: ks, _, v :: vs, _, h, h' => ⟨h.1, FitC.app h.2 h'⟩
  | .b :: ks, _, v :: vs, _, h, h' => ⟨h.1, FitC.app h.2 h'⟩
  | .v :: _, _, _, _, h, _ => by cases h
  | [], _, _ :: _, _, h, _ => by cases h
  | .i _ :: _, _, [], _, h, _ => by cases h
  | .b :: _, _, [], _, h, _ => by cases h
theorem FitL.app : ∀ {ks ks' : List LK} {vs vs' : List Lf}, FitL ks vs → FitL ks' vs' → FitL (ks ++ ks') (vs ++ vs')
  | [], _, [], _, _, h => h
  | .i k :: ks, _, .i v :: vs, _, h, h' => ⟨h.1, FitL.app h.2 h'⟩
  | .b :: ks, _, .b v :: vs, _, h, h' => FitL.app (ks := ks) h h'
  | .v :: _, _, _, _, h, _ => by cases h
  | [], _, _ :: _, _, h, _ => by cases h
  | .i _ :: _, _, [], _, h, _ => by cases h
  | .b :: _, _, [], _, h, _ => by cases h
  | .i _ :: _, _, .b _ :: _, _, h, _ => by cases h
  | .i _ :: _, _, .v _ :: _, _, h, _ => by cases h
  | .b :: _, _, .i _ :: _, _, h, _ => by cases h
  | .b :: _, _, .v _ :: _, _, h, _ => by cases h
/-- Cells as leaves. -/
theorem FitC.sl : ∀ {ks : List LK} {vs : List Value}, FitC ks vs → ∃ xs : List SL, xs.map SL.val = vs ∧ allIs xs ks = true ∧ (∀ x ∈ xs, x.good) ∧ FitL ks (xs.map SL.lf)
  | [], [], _ => ⟨[], rfl, rfl, fun _ h => (by cases h), trivial⟩
  | .i k :: ks, v :: vs, h => by
    obtain ⟨⟨n, rfl, hw⟩, h2⟩ := h
    obtain ⟨xs, a, b, c, d⟩ := FitC.sl h2
    exact ⟨.i k n :: xs, by simp [a, SL.val], by simp [allIs, b, SL.is, kSame_self], fun x hx => by
      rcases List.mem_cons.1 hx with rfl | hx
      · trivial
      · exact c x hx, hw, d⟩
  | .b :: ks, v :: vs, h => by
    obtain ⟨⟨n, rfl⟩, h2⟩ := h
    obtain ⟨xs, a, b, c, d⟩ := FitC.sl h2
    exact ⟨.b n :: xs, by simp [a, SL.val], by simp [allIs, b, SL.is], fun x hx => by
      rcases List.mem_cons.1 hx with rfl | hx
      · trivial
      · exact c x hx, d⟩
  | .v :: _, _, h => by cases h
  | [], _ :: _, h => by cases h
  | .i _ :: _, [], h => by cases h
  | .b :: _, [], h => by cases h

/-- The kinds of the cells of a type of numbers, truth values and structs. -/
def flatF (F : TypeId → Option (List LK)) : List Field → Nat → Option (List LK)
  | [], _ => some []
  | f :: fs, off => match Nat.beq f.offset off, F f.type with
    | true, some ks => (flatF F fs (off + ks.length)).map (ks ++ ·)
    | _, _ => none
def flatT (P : Program) : Nat → TypeId → Option (List LK)
  | 0, _ => none
  | d + 1, t => match P.underlying t with
    | some (.int k) => some [.i k]
    | some .bool => some [.b]
    | some (.struct fs) => match flatF (flatT P d) fs.toList 0 with
      | some ks => match Nat.beq ks.length (P.cellsOf t) with
        | true => some ks
        | false => none
      | none => none
    | _ => none
def skT (P : Program) (t : TypeId) : Option SK :=
  match P.underlying t with
  | some (.int k) => some (.leaf (.i k))
  | some .bool => some (.leaf .b)
  | some (.struct _) => (flatT P 20 t).map .agg
  | _ => none

section
variable {H : Type} {enc : TypeId × Value → H} {P : Program}

theorem take_take_len {α : Type} (l : List α) (c : Nat) : l.take (l.take c).length = l.take c := by
  rw [List.length_take]
  rcases Nat.le_total c l.length with h | h
  · rw [Nat.min_eq_left h]
  · rw [Nat.min_eq_right h, List.take_of_length_le h, List.take_of_length_le (Nat.le_refl _)]

theorem flatF_ok {F : TypeId → Option (List LK)} {w : World} {base : Nat} {sp : Nat → Bool} {held : Bool} {fuel : Nat}
    (hF : ∀ t ks, F t = some ks → ∀ cs (x : DataW H × List MemPlace), DataW.trod enc P w base sp held fuel t cs = some x → x.2 = [] ∧ FitC ks cs ∧ ∀ w' b' s' h', DataW.trod enc P w' b' s' h' fuel t cs = some x) (cs : List Value) :
    ∀ (fs : List Field) (off : Nat) (ks : List LK) (xs : List (DataW H × List MemPlace)), flatF F fs off = some ks → fs.mapM (fun f => DataW.trod enc P w base sp held fuel f.type ((cs.drop f.offset).take (P.cellsOf f.type))) = some xs →
      xs.flatMap (·.2) = [] ∧ FitC ks ((cs.drop off).take ks.length) ∧ ∀ w' b' s' h', fs.mapM (fun f => DataW.trod enc P w' b' s' h' fuel f.type ((cs.drop f.offset).take (P.cellsOf f.type))) = some xs
  | [], off, ks, xs, h1, h2 => by
    simp only [flatF, Option.some.injEq] at h1
    subst h1
    simp only [List.mapM_nil, Option.pure_def, Option.some.injEq] at h2
    subst h2
    refine ⟨rfl, by simp [FitC], fun _ _ _ _ => by simp⟩
  | f :: fs, off, ks, xs, h1, h2 => by
    simp only [flatF] at h1
    split at h1
    · rename_i k1 e1 e2
      obtain ⟨k2, e3, rfl⟩ := Option.map_eq_some_iff.1 h1
      have e1 := Nat.eq_of_beq_eq_true e1
      rw [List.mapM_cons] at h2
      obtain ⟨x, h3, h2⟩ := Option.bind_eq_some_iff.1 h2
      obtain ⟨ys, h4, h2⟩ := Option.bind_eq_some_iff.1 h2
      cases h2
      obtain ⟨a1, a2, a3⟩ := hF _ _ e2 _ _ h3
      obtain ⟨b1, b2, b3⟩ := flatF_ok hF cs fs _ k2 ys e3 h4
      refine ⟨by simp [a1, b1], ?_, fun w' b' s' h' => ?_⟩
      · rw [List.length_append, List.take_add]
        refine FitC.app ?_ (by rw [List.drop_drop]; exact b2)
        have hl := FitC.len a2
        rw [e1] at a2 hl
        rw [← hl, take_take_len]
        exact a2
      · rw [List.mapM_cons, a3 w' b' s' h', b3 w' b' s' h']
        rfl
    · cases h1

theorem flatT_ok : ∀ (d : Nat) (t : TypeId) (ks : List LK), flatT P d t = some ks → ∀ (w : World) (base : Nat) (sp : Nat → Bool) (held : Bool) (fuel : Nat) (cs : List Value) (x : DataW H × List MemPlace), DataW.trod enc P w base sp held fuel t cs = some x →
    x.2 = [] ∧ FitC ks cs ∧ ∀ w' b' s' h', DataW.trod enc P w' b' s' h' fuel t cs = some x
  | 0, _, _, h => by cases h
  | d + 1, t, ks, h => by
    intro w base sp held fuel cs x hx
    simp only [flatT] at h
    split at h
    · rename_i k e
      cases h
      obtain ⟨n, rfl, rfl, hw⟩ := DataW.trod_int e hx
      refine ⟨rfl, ⟨⟨n, rfl, hw⟩, trivial⟩, fun w' b' s' h' => ?_⟩
      cases fuel with
      | zero => simp [DataW.trod] at hx
      | succ m => simp [DataW.trod, e, hw]
    · rename_i e
      cases h
      obtain ⟨n, rfl, rfl⟩ := DataW.trod_bool e hx
      refine ⟨rfl, ⟨⟨n, rfl⟩, trivial⟩, fun w' b' s' h' => ?_⟩
      cases fuel with
      | zero => simp [DataW.trod] at hx
      | succ m => simp [DataW.trod, e]
    · rename_i fs e
      split at h
      · rename_i k2 e2
        split at h
        · rename_i e3
          cases h
          have e3 := Nat.eq_of_beq_eq_true e3
          cases fuel with
          | zero => simp [DataW.trod] at hx
          | succ m =>
            simp only [DataW.trod, e] at hx
            split at hx
            · rename_i hl
              obtain ⟨xs, h5, rfl⟩ := Option.map_eq_some_iff.1 hx
              obtain ⟨a1, a2, a3⟩ := flatF_ok (fun t ks h cs x hx => flatT_ok d t ks h w base sp held m cs x hx) cs fs.toList 0 ks xs e2 h5
              rw [List.drop_zero, List.take_of_length_le (by omega)] at a2
              refine ⟨a1, a2, fun w' b' s' h' => ?_⟩
              simp only [DataW.trod, e, hl, if_true]
              rw [a3 w' b' s' h']
              rfl
            · cases hx
        · cases h
      · cases h
    · cases h

theorem open_flat {w : World} {r : Reach} {b0 base : Nat} {sp : Nat → Bool} {held : Bool} {t : TypeId} {sk : SK} {v : Value} {d : DataW H} {ps : List MemPlace} (h : skT P t = some sk) (hval : Value.okWide P w r b0 t v) (hd : DataW.Trod enc P w base sp held t v d ps) :
    ∃ x : S0, v = x.val ∧ x.is sk = true ∧ x.good ∧ FitL (skKs sk) (x.cells.map SL.lf) ∧ ps = [] ∧ ∀ w' b' s' h', DataW.Trod enc P w' b' s' h' t v d [] := by
  unfold skT at h
  split at h
  · rename_i k e
    cases h
    obtain ⟨n, rfl, rfl, rfl, hw⟩ := open_int e hval hd
    refine ⟨.leaf (.i k n), rfl, by simp [S0.is, SL.is, kSame_self], fun x hx => ?_, ⟨hw, trivial⟩, rfl, fun w' b' s' h' => shut_int e hw⟩
    simp only [S0.cells, List.mem_singleton] at hx
    subst hx; trivial
  · rename_i e
    cases h
    obtain ⟨n, rfl, rfl, rfl⟩ := open_bool e hval hd
    refine ⟨.leaf (.b n), rfl, rfl, fun x hx => ?_, trivial, rfl, fun w' b' s' h' => shut_bool e n⟩
    simp only [S0.cells, List.mem_singleton] at hx
    subst hx; trivial
  · rename_i fs e
    obtain ⟨ks, e2, rfl⟩ := Option.map_eq_some_iff.1 h
    obtain ⟨cs, rfl, hc⟩ := okWide_struct e hval
    obtain ⟨fuel, hf⟩ := hd
    obtain ⟨a1, a2, a3⟩ := flatT_ok 20 t ks e2 w base sp held fuel _ _ hf
    obtain ⟨xs, b1, b2, b3, b4⟩ := FitC.sl a2
    have a1 : ps = [] := a1
    subst a1
    refine ⟨.agg xs, ?_, b2, b3, b4, rfl, fun w' b' s' h' => ⟨fuel, a3 w' b' s' h'⟩⟩
    show Value.agg cs = .agg ⟨xs.map SL.val⟩
    rw [b1]
    rfl
  · cases h

def skTs (P : Program) : List TypeId → Option (List SK)
  | [] => some []
  | t :: ts => match skT P t, skTs P ts with
    | some k, some ks => some (k :: ks)
    | _, _ => none

theorem open_args {w : World} {b0 base : Nat} {r : Reach} {sp : Nat → Bool} {held : Bool} : ∀ (ts : List TypeId) (sks : List SK) (vs : List Value) (ds : List (DataW H)) (ps : List MemPlace), skTs P ts = some sks →
    (∀ (j : Nat) t v, ts[j]? = some t → vs[j]? = some v → Value.okWide P w r b0 t v) → DataW.TrodAll enc P w base sp held ts vs ds ps →
    ∃ xs : List S0, vs = valsOf xs ∧ areIs xs sks = true ∧ (∀ x ∈ xs, x.good) ∧ FitL (sks.flatMap skKs) (lfsOf xs) ∧ ps = [] ∧ ∀ w' b' s' h', DataW.TrodAll enc P w' b' s' h' ts vs ds []
  | [], sks, [], [], ps, h, _, ht => by
    cases h
    have ht : ps = [] := ht
    exact ⟨[], rfl, rfl, fun _ h => (by cases h), trivial, ht, fun _ _ _ _ => rfl⟩
  | t :: ts, sks, v :: vs, d :: ds, ps, h, hv, ht => by
    simp only [skTs] at h
    split at h
    · rename_i k ks e1 e2
      cases h
      obtain ⟨p, q, h1, h2, rfl⟩ := ht
      obtain ⟨x, a1, a2, a3, a4, rfl, a6⟩ := open_flat e1 (hv 0 t v rfl rfl) h1
      obtain ⟨xs, b1, b2, b3, b4, rfl, b6⟩ := open_args ts ks vs ds q e2 (fun j t v h1 h2 => hv (j + 1) t v h1 h2) h2
      refine ⟨x :: xs, by rw [a1, b1]; rfl, by simp [areIs, a2, b2], fun y hy => ?_, ?_, rfl, fun w' b' s' h' => ⟨[], [], a6 w' b' s' h', b6 w' b' s' h', rfl⟩⟩
      · rcases List.mem_cons.1 hy with rfl | hy
        · exact a3
        · exact b3 y hy
      · exact FitL.app a4 b4
    · cases h
  | [], _, _ :: _, _, _, _, _, ht => by cases ht
  | [], _, [], _ :: _, _, _, _, ht => by cases ht
  | _ :: _, _, [], _, _, _, _, ht => by cases ht
  | _ :: _, _, _ :: _, [], _, _, _, ht => by cases ht
end

section
variable [Val]
/-- A contract, as a call. -/
theorem callok_of_ct {C : Cfg} {Sg : FuncId → Option Sig} (hm : C.P.follows .mixedOrders = true) {g : FuncId} {sg : Sig} (hs : Sg g = some sg) {ls rs : List Lf} (hc : Ct C Sg g ls rs) {xs ys : List S0} (h1 : areIs xs sg.ps = true) (h2 : lfsOf xs = ls) (h3 : areIs ys sg.rs = true) (h4 : lfsOf ys = rs) (H : List HObj) :
    CallOk C g (valsOf xs) H (packA (valsOf ys)) H := by
  let _ : Kno := KnoC C
  obtain ⟨sg', xs', ys', c1, c2, c3, c4⟩ := hc H
  rw [hs] at c1
  cases c1
  obtain ⟨w1, _⟩ := areIs_val c2.1 h1 (c2.2.1.trans h2.symm)
  obtain ⟨w2, _⟩ := areIs_val c3.1 h3 (c3.2.1.trans h4.symm)
  rw [w1, w2] at c4
  exact uCallC_ok hm c4
end
end Sx
end Go.Am
namespace Go.Am
namespace Sx
theorem FitL.i {k : IntKind} {ks : List LK} {ls : List Lf} (h : FitL (.i k :: ks) ls) : ∃ n r, ls = .i n :: r ∧ (Lit.int k n).wf = true ∧ FitL ks r := by
  match ls, h with
  | .i n :: r, h => exact ⟨n, r, rfl, h.1, h.2⟩
theorem FitL.b {ks : List LK} {ls : List Lf} (h : FitL (.b :: ks) ls) : ∃ n r, ls = .b n :: r ∧ FitL ks r := by
  match ls, h with
  | .b n :: r, h => exact ⟨n, r, rfl, h⟩
theorem FitL.nil {ls : List Lf} (h : FitL [] ls) : ls = [] := by
  match ls, h with
  | [], _ => rfl
theorem wf_i64 {n : Int} (h : (Lit.int .i64 n).wf = true) : -9223372036854775808 ≤ n ∧ n ≤ 9223372036854775807 := by
  simp only [Lit.wf, Bool.and_eq_true, decide_eq_true_eq] at h
  exact h
theorem wf_u8 {n : Int} (h : (Lit.int .u8 n).wf = true) : 0 ≤ n ∧ n ≤ 255 := by
  simp only [Lit.wf, Bool.and_eq_true, decide_eq_true_eq] at h
  exact h
theorem wf_i8 {n : Int} (h : (Lit.int .i8 n).wf = true) : -128 ≤ n ∧ n ≤ 127 := by
  simp only [Lit.wf, Bool.and_eq_true, decide_eq_true_eq] at h
  exact h
theorem trodAll_len {H : Type} {enc : TypeId × Value → H} {P : Program} {w : World} {base : Nat} {sp : Nat → Bool} {held : Bool} : ∀ {ts : List TypeId} {vs : List Value} {ds : List (DataW H)} {ps : List MemPlace}, DataW.TrodAll enc P w base sp held ts vs ds ps → ds.length = ts.length
  | [], [], [], _, _ => rfl
  | _ :: _, _ :: _, _ :: _, _, h => by
    obtain ⟨p, q, _, h2, _⟩ := h
    simp [trodAll_len h2]
  | [], _ :: _, _, _, h => by cases h
  | [], [], _ :: _, _, h => by cases h
  | _ :: _, [], _, _, h => by cases h
  | _ :: _, _ :: _, [], _, h => by cases h
end Sx
end Go.Am

/-
  WHAT THE ROW SAYS OF THE LISTED VARIABLES: both tables.
-/
set_option maxRecDepth 100000
namespace Go.Proofs.YtdngmncaohgacaaDoor
open Go Go.Am Go.Am.Sx
open Go.ChangeShapes Go.WideShapes Go.ChangeAt Go.WideMaps Go.WideElems Go.RowKit

abbrev laidC : List (String × DataW Unit) := [("crimp/moves.turns", Rows.laid_crimp_moves_turns), ("crimp/cells.quarters", Rows.laid_crimp_cells_quarters)]
theorem name0 : Tryd.prog.globalNamed "crimp/cells.quarters" = some 0 := by kernel_rfl
theorem name1 : Tryd.prog.globalNamed "crimp/moves.turns" = some 1 := by kernel_rfl
/-- What the list gives. -/
theorem of_laid {W : World} (h : laidMetH Tryd.prog laidC W) (g : Nat) (vs : List Value) (hg : cc.G g = some vs) :
    g < W.heap.size ∧ vs.all cellOk = true ∧ vs.all flat = true ∧ ∃ c e fr, W.heap[g]? = some (.cells c e fr) ∧ c.toList = vs := by
  rw [MakeChecks.laidMetH_plain _ _ _ (by kernel_rfl)] at h
  obtain ⟨ps, h, _, _⟩ := h
  have main : ∃ c e fr, W.heap[g]? = some (.cells c e fr) ∧ c.toList = vs := by
    unfold cc at hg
    simp only at hg
    split at hg
    · cases hg
      exact laid_cells h "crimp/cells.quarters" Rows.laid_crimp_cells_quarters (List.mem_cons_of_mem _ List.mem_cons_self) 0 137 8 gl0 name0 (by kernel_rfl) (by kernel_rfl)
    · cases hg
      exact laid_cells h "crimp/moves.turns" Rows.laid_crimp_moves_turns List.mem_cons_self 1 154 8 gl1 name1 (by kernel_rfl) (by kernel_rfl)
    · cases hg
  refine ⟨?_, gl_cell g vs hg, gl_flat g vs hg, main⟩
  obtain ⟨c, e, fr, h1, _⟩ := main
  rcases Nat.lt_or_ge g W.heap.size with h | h
  · exact h
  · rw [Array.getElem?_eq_none h] at h1; cases h1
theorem own : ownKnob Tryd.prog.godebug = none := by kernel_rfl
theorem door_met (os : Os) (args : Array Value) : laidMetH Tryd.prog laidC ((World.doorLaid Tryd.prog 400 os).forCall (fun _ _ => 0) ⟨#[], args, []⟩).memory :=
  laidMetH_of_parts3 (fuel := 8) (laidMet_of_run' 8 (by kernel_rfl) (by kernel_rfl)) (by kernel_rfl) (by kernel_rfl)
end Go.Proofs.YtdngmncaohgacaaDoor

