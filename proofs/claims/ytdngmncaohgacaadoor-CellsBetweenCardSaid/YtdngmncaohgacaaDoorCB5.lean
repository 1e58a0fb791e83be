/-
  PART 5 OF THE PROOF: Sx12 Sx13 Px1 Px2 Pq Gp C1 C2 C3 C6 C7 C8 (no conditions).
-/
import Derived.Test.YtdngmncaohgacaaDoorCB4
import Derived.Calls
import Derived.LaidMore
import Derived.MakeChecks
import Derived.OpenShut
import Derived.ProofKit
import Derived.Stop.Joined
import Derived.Test.YtdngmncaohgacaaDoorRows
import GoSem.ClaimJoined
set_option linter.unusedSectionVars false
set_option linter.unusedSimpArgs false
set_option linter.unusedVariables false
set_option linter.constructorNameAsVariable false
set_option linter.defProp false
/-
  WHAT THE PACKAGE-LEVEL VARIABLES HOLD, read off the row's list; a call as the row sees it.
-/
namespace Go.Am
namespace Sx

/-- The cells of a datum of numbers, truth values, structs and arrays. -/
def unL (P : Program) (un : TypeId → DataW Unit → Option (List Value)) : List (Nat × TypeId) → List (DataW Unit) → Nat → Option (List Value)
  | [], [], _ => some []
  | (o, t) :: l, d :: ds, off => match Nat.beq o off, un t d with
    | true, some v => match Nat.beq v.length (P.cellsOf t), unL P un l ds (off + v.length) with
      | true, some vs => some (v ++ vs)
      | _, _ => none
    | _, _ => none
  | _, _, _ => none
def unD (P : Program) : Nat → TypeId → DataW Unit → Option (List Value)
  | 0, _, _ => none
  | fu + 1, t, d => match P.underlying t, d with
    | some .bool, .lit (.bool b) => some [.bool b]
    | some (.int k), .lit (.int _ n) => some [.int k n]
    | some (.struct fs), .agg ds => match unL P (unD P fu) (fs.toList.map fun f => (f.offset, f.type)) ds 0 with
      | some vs => if vs.length = P.cellsOf t then some vs else none
      | none => none
    | some (.array n e), .agg ds => match unL P (unD P fu) ((List.range n).map fun i => (i * P.cellsOf e, e)) ds 0 with
      | some vs => if vs.length = P.cellsOf t then some vs else none
      | none => none
    | _, _ => none

section
variable {P : Program} {w : World} {base : Nat} {spare : Nat → Bool} {held : Bool} {enc : TypeId × Value → Unit}

theorem seg_ok {un : TypeId → DataW Unit → Option (List Value)} {fuel : Nat} (hun : ∀ t d vs, un t d = some vs → ∀ cs p, DataW.trod enc P w base spare held fuel t cs = some (d, p) → cs = vs) {α : Type} (o : α → Nat) (ty : α → TypeId) (cs : List Value) :
    ∀ (l : List α) (xs : List (DataW Unit × List MemPlace)) (off : Nat) (vs : List Value), l.mapM (fun a => DataW.trod enc P w base spare held fuel (ty a) ((cs.drop (o a)).take (P.cellsOf (ty a)))) = some xs →
      unL P un (l.map fun a => (o a, ty a)) (xs.map (·.1)) off = some vs → (cs.drop off).take vs.length = vs
  | [], xs, off, vs, h1, h2 => by
    simp only [List.mapM_nil, Option.pure_def, Option.some.injEq] at h1
    subst h1
    simp only [List.map_nil, unL, Option.some.injEq] at h2
    subst h2
    simp
  | a :: l, xs, off, vs, h1, h2 => by
    rw [List.mapM_cons] at h1
    obtain ⟨x, h3, h1⟩ := Option.bind_eq_some_iff.1 h1
    obtain ⟨ys, h4, h1⟩ := Option.bind_eq_some_iff.1 h1
    cases h1
    simp only [List.map_cons, unL] at h2
    split at h2
    · rename_i v e1 e2
      split at h2
      · rename_i ws e3 e4
        cases h2
        have e1 := Nat.eq_of_beq_eq_true e1
        have e3 := Nat.eq_of_beq_eq_true e3
        have hv := hun _ _ _ e2 _ _ h3
        have ih := seg_ok hun o ty cs l ys _ _ h4 e4
        rw [e1, ← e3] at hv
        rw [List.length_append, List.take_add, hv, List.drop_drop]
        rw [ih]
      · cases h2
    · cases h2

theorem unD_ok : ∀ (fu : Nat) (t : TypeId) (d : DataW Unit) (vs : List Value), unD P fu t d = some vs → ∀ (fuel : Nat) (cs : List Value) (p : List MemPlace), DataW.trod enc P w base spare held fuel t cs = some (d, p) → cs = vs
  | 0, _, _, _, h => by cases h
  | fu + 1, t, d, vs, h => by
    intro fuel cs p hp
    cases fuel with
    | zero => simp [DataW.trod] at hp
    | succ fuel =>
      have hun : ∀ t d vs, unD P fu t d = some vs → ∀ cs p, DataW.trod enc P w base spare held fuel t cs = some (d, p) → cs = vs := fun t d vs h cs p => unD_ok fu t d vs h fuel cs p
      simp only [unD] at h
      split at h
      · rename_i b e
        cases h
        simp only [DataW.trod, e] at hp
        split at hp <;> simp_all
      · rename_i k k' n e
        cases h
        simp only [DataW.trod, e] at hp
        split at hp <;> first | cases hp | skip
        all_goals first
          | (split at hp
             · rename_i hh; simp at hp; obtain ⟨⟨rfl, rfl⟩, _⟩ := hp; rw [hh.1]
             · cases hp)
          | simp_all
      · rename_i fs ds e
        split at h
        · rename_i ws e2
          split at h
          · rename_i e3
            cases h
            simp only [DataW.trod, e] at hp
            split at hp
            · rename_i e4
              obtain ⟨xs, h5, h6⟩ := Option.map_eq_some_iff.1 hp
              simp only [Prod.mk.injEq, DataW.agg.injEq] at h6
              rw [← h6.1] at e2
              have := seg_ok hun (fun f : Field => f.offset) (fun f : Field => f.type) cs _ xs 0 _ h5 e2
              rw [List.drop_zero, List.take_of_length_le (by omega)] at this
              exact this
            · cases hp
          · cases h
        · cases h
      · rename_i n el ds e
        split at h
        · rename_i ws e2
          split at h
          · rename_i e3
            cases h
            simp only [DataW.trod, e] at hp
            split at hp
            · rename_i e4
              obtain ⟨xs, h5, h6⟩ := Option.map_eq_some_iff.1 hp
              simp only [Prod.mk.injEq, DataW.agg.injEq] at h6
              rw [← h6.1] at e2
              have := seg_ok hun (fun i => i * P.cellsOf el) (fun _ => el) cs _ xs 0 _ h5 e2
              rw [List.drop_zero, List.take_of_length_le (by omega)] at this
              exact this
            · cases hp
          · cases h
        · cases h
      · cases h

end

section
variable [Val]

/-- A call, as the row sees it. -/
theorem calls_of_ok {C : Cfg} {f : FuncId} {args : List Value} {r : Value} {H' : List HObj} (h : CallOk C f args [] r H') {args' : Array Value} {W : World} (ha : args.all flat = true) (hargs : args'.toList = args) (hr : flat r = true)
    (hG : ∀ g vs, C.G g = some vs → g < W.heap.size ∧ vs.all cellOk = true ∧ vs.all flat = true ∧ ∃ c e fr, W.heap[g]? = some (.cells c e fr) ∧ c.toList = vs) :
    Calls C.P f args' W fun e W' => e = .returned r ∧ W'.os = W.os ∧ W'.output = W.output ∧ W'.tape = W.tape ∧ ∀ b, b < W.heap.size → W'.heap[b]? = W.heap[b]? := by
  have hW0 : WR C W.heap.size (fun _ => none) [] W := by
    refine ⟨fun id o h => by simp at h, fun i j oi oj pi pj h => by simp at h, fun i o p h => by simp at h, fun i o p h => by simp at h, fun _ _ => rfl, fun g vs hg => ?_⟩
    obtain ⟨h1, h2, h3, c, e, fr, h4, h5⟩ := hG g vs hg
    refine ⟨h1, h2, c, e, fr, h4, ?_⟩
    rw [h5]
    exact ⟨rfl, fun i x y hx hy => by rw [hx] at hy; cases hy; exact .of_flat (List.all_eq_true.1 h3 x (List.mem_of_getElem? hx))⟩
  have hV : VRs noL (fun _ => none) args args'.toList := by
    rw [hargs]
    exact ⟨rfl, fun i x y hx hy => by rw [hx] at hy; cases hy; exact .of_flat (List.all_eq_true.1 ha x (List.mem_of_getElem? hx))⟩
  obtain ⟨v, mu', w', a1, a2, a3, _, a5⟩ := h W.heap.size (fun _ => none) W args' (Nat.le_refl _) hV hW0
  rw [flat_eq hr a1] at a5
  intro cs
  obtain ⟨fr, b1, b2, b3⟩ := a5 cs
  exact ⟨.returned r, w', fr, ⟨rfl, a3.os, a3.output, a3.tape, fun b hb => a3.keep b hb no_own⟩, b1, b2, b3⟩

end
end Sx
end Go.Am

/-
  FROM A CALL TO THE ROW: arguments without addresses.
-/
namespace Go.Am
namespace Sx
open Go.ChangeShapes Go.WideShapes Go.ChangeAt Go.WideMaps Go.WideElems Go.RowKit

theorem kept_of {W W' : World} (h1 : W'.os = W.os) (h2 : W'.output = W.output) (h3 : ∀ b, b < W.heap.size → W'.heap[b]? = W.heap[b]?) (may : MemPlace → Prop) : W.keptBut W' may := by
  refine ⟨h1, h2, fun i hi => ?_⟩
  rw [h3 i hi]
  exact (World.keptBut_refl W may).2.2 i hi

theorem post_flat {H : Type} {enc : TypeId × Value → H} {P : Program} {f : Func} {s : ChangeSpec} {apart fresh handsOn again : Bool} {W W' : World} {args : Array Value} {v : Value} {ds gs : List (DataW H)}
    (hW : DataW.Whole enc P f.params.toList s.vars apart W args.toList ds gs [])
    (hres : ∀ (b : Nat) (sp : Nat → Bool) (hd : Bool), DataW.TrodAll enc P W' b sp hd f.resultTypes.toList (v.resultList f.resultTypes.size) (s.fn H (ds ++ gs)).results [])
    (hargs : ∀ sp : Nat → Bool, DataW.TrodAll enc P W' 0 sp true f.params.toList args.toList (s.fn H (ds ++ gs)).args [])
    (hvars : ∀ sp : Nat → Bool, DataW.TrodVars enc P W' sp s.vars (s.fn H (ds ++ gs)).vars [])
    (h1 : W'.os = W.os) (h2 : W'.output = W.output) (h3 : ∀ b, b < W.heap.size → W'.heap[b]? = W.heap[b]?)
    (hok : ∀ (j : Nat) (t : TypeId) (r : Value), f.resultTypes[j]? = some t → (v.resultList f.resultTypes.size)[j]? = some r → Value.okWide P W' .any 0 t r) :
    s.post enc P f apart fresh handsOn again W args v W' := by
  refine ⟨ds, gs, [], [], [], [], hW, hres _ _ _, hargs _, hvars _, kept_of h1 h2 h3 _, fun _ => ?_⟩
  refine ⟨hok, _, _, [], ⟨[], [], trodAll_append (hargs _) (hres _ _ _), hvars _, rfl, ?_, ?_⟩, ?_⟩
  · intro b off hp; cases hp
  · intro _; exact List.nodup_nil
  · intro p hp; cases hp

/-- A variable that is listed. -/
theorem laid_cells {P : Program} {w : World} {laid : List (String × DataW Unit)} {ps : List MemPlace} (h : DataW.LaidVars P w laid ps) : ∀ n d, (n, d) ∈ laid → ∀ g t fu vs, P.globalNamed n = some g → (P.globals[g]?).map (·.type) = some t → unD P fu t d = some vs →
    ∃ c e fr, w.heap[g]? = some (.cells c e fr) ∧ c.toList = vs := by
  induction laid generalizing ps with
  | nil => intro n d h; cases h
  | cons x l ih =>
    obtain ⟨n0, d0⟩ := x
    obtain ⟨g0, t0, cs, fuel, p, q, a1, a2, a3, a4, a5, a6⟩ := h
    intro n d hm g t fu vs b1 b2 b3
    rcases List.mem_cons.1 hm with e | hm
    · cases e
      rw [a1] at b1; cases b1
      rw [a2] at b2; cases b2
      have hc := unD_ok fu _ _ vs b3 _ _ _ a4
      unfold World.var? at a3
      rw [a1] at a3
      simp only [Option.bind_some] at a3
      split at a3
      · rename_i c ty fr e
        cases a3
        exact ⟨_, _, _, e, hc⟩
      · cases a3
    · exact ih a5 n d hm g t fu vs b1 b2 b3

section
variable [Val] [Kno]
/-- A closed function that says true. -/
theorem closed_true {C : Cfg} {Sg : FuncId → Option Sig} {T : Nat → Site} {call : CallB} (hc : CallBOk C Sg T call) {g : FuncId} (hs : Sg g = some ⟨[], [.leaf .b]⟩) (h : call (.f g) [] [] (fun l _ => match l with | [.b t] => t | _ => false) = true) :
    ∃ H', uCall C g [] [] (.bool true) H' := by
  obtain ⟨rs, h', ⟨sg, xs, ys, c1, c2, c3, c4⟩, hk⟩ := hc.f g [] [] _ (fun _ h => by cases h) h
  rw [hs] at c1
  cases c1
  have hx : xs = [] := by
    have := c2.1
    cases xs with
    | nil => rfl
    | cons x l => cases this
  subst hx
  obtain ⟨d1, d2, _⟩ := c3
  obtain ⟨y, rfl⟩ : ∃ y, ys = [y] := List.length_eq_one_iff.1 (areIs_length d1)
  · simp only [areIs, Bool.and_true] at d1
    cases y with
    | agg _ => cases d1
    | leaf l =>
      cases l with
      | b t =>
        simp only [lfsOf, S0.cells, List.map_cons, SL.lf, List.map_nil, List.append_nil] at d2
        subst d2
        have hk : t = true := hk
        subst hk
        exact ⟨_, c4⟩
      | l t =>
        simp only [lfsOf, S0.cells, List.map_cons, SL.lf, List.map_nil, List.append_nil] at d2
        subst d2
        have hk : t = true := hk
        subst hk
        exact ⟨_, c4⟩
      | i _ _ => cases d1
      | v _ => cases d1
end
end Sx
end Go.Am

/-
  THE ALGEBRA OF PROPOSITIONS: what must hold, that code does as it is told to do.
-/
namespace Go.Am
def LK.plain : LK → Bool
  | .v => false
  | _ => true
def SK.plain : SK → Bool
  | .leaf k => k.plain
  | .agg ks => ks.all LK.plain
def Sig.plain (s : Sig) : Bool := s.ps.all SK.plain && s.rs.all SK.plain
namespace Sx

section
variable [Val] [Kno]

abbrev HO' := List HObj
def condP (b : Bool) (x y : Prop) : Prop := (b = true → x) ∧ (b = false → y)
def ariP (op : BinOp) (k : IntKind) (a b : Int) (K : Int → Prop) : Prop :=
  match op with
  | .add => K (k.wrap (a + b))
  | .sub => K (k.wrap (a - b))
  | .mul => K (k.wrap (a * b))
  | .quo => b ≠ 0 ∧ K (k.wrap (a.tdiv b))
  | .rem => b ≠ 0 ∧ K (a.tmod b)
  | .and => (b = 1 ∧ K (a % 2)) ∨ (b ≠ 1 ∧ ∃ n, ArRun .and k a b n ∧ K n)
  | op => ∃ n, ArRun op k a b n ∧ K n
def cmpP (op : BinOp) (a b : Int) (K : Bool → Prop) : Prop :=
  match op with
  | .eql => K (a == b)
  | .neq => K (a != b)
  | .lss => K (decide (a < b))
  | .leq => K (decide (a ≤ b))
  | .gtr => K (decide (a > b))
  | .geq => K (decide (a ≥ b))
  | _ => False
def optP {α : Type} (o : Option α) (K : α → Prop) : Prop := ∃ x, o = some x ∧ K x
def unIP (ls : List Lf) (K : Int → List Lf → Prop) : Prop := match ls with | .i n :: r => K n r | _ => False
def unBP (ls : List Lf) (K : Bool → List Lf → Prop) : Prop := match ls with | .b n :: r => K n r | _ => False
def unVP (ls : List Lf) (K : Value → List Lf → Prop) : Prop := match ls with | .v n :: r => K n r | _ => False
def un0P (ls : List Lf) (K : Prop) : Prop := match ls with | [] => K | _ => False
def ucIP (k : IntKind) (ls : List Value) (K : Int → List Value → Prop) : Prop := match ls with | .int k' n :: r => k = k' ∧ K n r | _ => False
def ucBP (ls : List Value) (K : Bool → List Value → Prop) : Prop := match ls with | .bool n :: r => K n r | _ => False
def ucVP (ls : List Value) (K : Value → List Value → Prop) : Prop := match ls with | n :: r => K n r | _ => False
def uc0P (ls : List Value) (K : Prop) : Prop := match ls with | [] => K | _ => False
def getL (h : List HObj) : Getter := fun i => h[i]?
def peekP (f : Getter → Option (List Value)) (h : List HObj) (K : List Value → Prop) : Prop := ∃ cs, f (getL h) = some cs ∧ K cs
def heapP (f : Getter → Nat → Option (List Act1 × List Value)) (h : List HObj) (K : List Value → List HObj → Prop) : Prop := ∃ acts cs, f (getL h) h.length = some (acts, cs) ∧ K cs (actsOn h acts)
def callP (C : Cfg) (Sg : FuncId → Option Sig) (g : FuncId) (ls : List Lf) (h : List HObj) (K : List Lf → List HObj → Prop) : Prop := ∃ rs h', CallL C Sg g ls h rs h' ∧ K rs h'
def callvP (C : Cfg) (v : Value) (args : List Value) (hs : List SK) (h : List HObj) (K : List Lf → List HObj → Prop) : Prop := ∃ rs h', CallV C v args hs h rs h' ∧ K rs h'
def itP (F : (List Lf → List HObj → Prop) → List Lf → List HObj → Prop) (n : Nat) : List Lf → List HObj → Prop :=
  match n with
  | 0 => fun _ _ => False
  | n + 1 => F (itP F n)
def loopP (F : (List Lf → List HObj → Prop) → List Lf → List HObj → Prop) (ls : List Lf) (h : List HObj) : Prop := ∃ n, itP F n ls h
def rfunP (C : Cfg) (T : Nat → Site) (κ : Nat) (v : Value) (vals : List Value) (h : List HObj) (K : Option Code → List HObj → Prop) : Prop :=
  ∃ g first cap r H1 lp, v = .func (.func g) first cap ∧
    uCall C g (first.toList ++ [.func (.yield h.length) #[] #[]] ++ cap.toList) (h ++ [.loop (lpOf (T κ) κ vals)]) r H1 ∧
    hloop H1 h.length = some lp ∧ lp.state ≠ .busy ∧ K lp.pending (H1.set h.length (.loop { lp with state := .exhausted }))
def pendP (pd : Option Code) (kn kr : Prop) (ks : List (Nat × Prop)) : Prop :=
  match pd with
  | none => kn
  | some .ret => kr
  | some (.exit id) => ∃ x, (id, x) ∈ ks ∧ x
  | _ => False
def lp1P (l : Nat) (h : List HObj) (K : List HObj → Prop) : Prop := ∃ lp, hloop h l = some lp ∧ lp.state = .ready ∧ K (h.set l (.loop { lp with state := .busy }))
def lp2P (l : Nat) (j : Option Code) (h : List HObj) (K : List HObj → Prop) : Prop := ∃ lp, hloop h l = some lp ∧ K (h.set l (.loop { lp with state := if j.isNone then .ready else .done, pending := j }))

def PA (C : Cfg) (Sg : FuncId → Option Sig) (T : Nat → Site) : Alg Prop (List HObj) where
  fail := False
  cond := condP
  ari := ariP
  shf := fun op k a k' b K => ∃ n, ShRun op k a k' b n ∧ K n
  cmp := cmpP
  eqs := fun l K => K (eqAll l)
  conv := fun k a K => K (k.wrap a)
  sel := fun t a b K => K (if t then a else b)
  opt := optP
  chk := fun v K => goodV v = true ∧ K
  unI := unIP
  unB := unBP
  unV := unVP
  un0 := un0P
  ucI := ucIP
  ucB := ucBP
  ucV := ucVP
  uc0 := uc0P
  peek := peekP
  heap := heapP
  new := fun o h K => K h.length (h ++ [o])
  call := callP C Sg
  callv := callvP C
  join := fun b m => m b
  loop := loopP
  rfun := rfunP C T
  pend := pendP
  lp1 := lp1P
  lp2 := lp2P

theorem PA_ok (C : Cfg) (Sg : FuncId → Option Sig) (T : Nat → Site) : AlgOk (PA C Sg T) C Sg T id id where
  fail := fun h => h
  cond := by
    intro b x y h
    cases b
    · exact .inr ⟨rfl, h.2 rfl⟩
    · exact .inl ⟨rfl, h.1 rfl⟩
  ari := by
    intro op k a b K h
    have h : ariP op k a b K := h
    cases op <;> simp only [ariP] at h
    · exact ⟨_, fun P t w => by simp [binOp, Op.intArith], h⟩
    · exact ⟨_, fun P t w => by simp [binOp, Op.intArith], h⟩
    · exact ⟨_, fun P t w => by simp [binOp, Op.intArith], h⟩
    · obtain ⟨hb, h⟩ := h
      exact ⟨_, fun P t w => by simp [binOp, Op.intDiv, hb], h⟩
    · obtain ⟨hb, h⟩ := h
      exact ⟨_, fun P t w => by simp [binOp, Op.intDiv, hb], h⟩
    · rcases h with ⟨rfl, h'⟩ | ⟨_, n, h1, h2⟩
      · exact ⟨_, run_and_one rfl, h'⟩
      · exact ⟨n, h1, h2⟩
    all_goals exact h
  shf := fun op k a k' b K h => h
  cmp := by
    intro op a b K h
    have h : cmpP op a b K := h
    cases op <;> simp only [cmpP] at h <;> exact ⟨_, rfl, h⟩
  eqs := fun l K h => h
  conv := fun k a K h => h
  sel := fun t a b K h => h
  opt := fun o K h => h
  chk := fun v K h => h
  unI := by
    intro ls K h
    match ls, h with
    | .i n :: r, h => exact ⟨n, r, rfl, h⟩
  unB := by
    intro ls K h
    match ls, h with
    | .b n :: r, h => exact ⟨n, r, rfl, h⟩
  unV := by
    intro ls K h
    match ls, h with
    | .v n :: r, h => exact ⟨n, r, rfl, h⟩
  un0 := by
    intro ls K h
    match ls, h with
    | [], h => exact ⟨rfl, h⟩
  ucI := by
    intro k ls K h
    match ls, h with
    | .int k' n :: r, h =>
      obtain ⟨rfl, h⟩ : k = k' ∧ K n r := h
      exact ⟨n, r, rfl, h⟩
  ucB := by
    intro ls K h
    match ls, h with
    | .bool n :: r, h => exact ⟨n, r, rfl, h⟩
  ucV := by
    intro ls K h
    match ls, h with
    | n :: r, h => exact ⟨n, r, rfl, h⟩
  uc0 := by
    intro ls K h
    match ls, h with
    | [], h => exact ⟨rfl, h⟩
  peek := fun f h K hk => hk
  heap := by
    intro f h K hk
    obtain ⟨acts, cs, h1, h2⟩ := hk
    exact ⟨acts, cs, _, h1, rfl, h2⟩
  new := fun o h K hk => ⟨_, rfl, hk⟩
  call := fun g ls h K hk => hk
  callv := fun v args hs h K hk => hk
  join := fun b m h => h
  loop := by
    intro F ls h hk
    obtain ⟨n, hk⟩ := hk
    exact ⟨itP F, fun ls h => (id : False → False), fun n ls h => rfl, n, hk⟩
  rfun := by
    intro κ v vals h K hk
    obtain ⟨g, first, cap, r, H1, lp, h1, h2, h3, h4, h5⟩ := hk
    exact ⟨g, first, cap, r, H1, lp, _, h1, h2, h3, h4, rfl, h5⟩
  pend := by
    intro pd kn kr ks h
    have h : pendP pd kn kr ks := h
    unfold pendP at h
    split at h
    · exact .inl ⟨rfl, h⟩
    · exact .inr (.inl ⟨rfl, h⟩)
    · obtain ⟨x, h1, h2⟩ := h
      exact .inr (.inr ⟨_, x, rfl, h1, h2⟩)
    · exact h.elim
  lp1 := by
    intro l h K hk
    obtain ⟨lp, h1, h2, h3⟩ := hk
    exact ⟨lp, _, h1, h2, rfl, h3⟩
  lp2 := by
    intro l j h K hk
    obtain ⟨lp, h1, h2⟩ := hk
    exact ⟨lp, _, h1, rfl, h2⟩

/-! ### Calls that leave nothing behind -/


theorem SL.plain_scalar {l : SL} {k : LK} (h : l.is k = true) (hk : k.plain = true) : scalar l.val = true := by
  cases l <;> cases k <;> first | (cases hk; done) | (cases h; done) | rfl
theorem allIs_scalar : ∀ {cs : List SL} {ks : List LK}, allIs cs ks = true → ks.all LK.plain = true → (cs.map SL.val).all scalar = true
  | [], [], _, _ => rfl
  | c :: cs, k :: ks, h, hk => by
    simp only [allIs, Bool.and_eq_true] at h
    simp only [List.all_cons, Bool.and_eq_true] at hk
    simp only [List.map_cons, List.all_cons, Bool.and_eq_true]
    exact ⟨SL.plain_scalar h.1 hk.1, allIs_scalar h.2 hk.2⟩
  | [], _ :: _, h, _ => by cases h
  | _ :: _, [], h, _ => by cases h
theorem S0.plain_flat1 {x : S0} {k : SK} (h : x.is k = true) (hk : k.plain = true) : flat1 x.val = true := by
  cases x with
  | leaf l =>
    cases k with
    | leaf k =>
      have := SL.plain_scalar h hk
      show flat1 l.val = true
      cases hv : l.val <;> rw [hv] at this <;> first | exact this | cases this
    | agg _ => cases h
  | agg cs =>
    cases k with
    | leaf k => cases h
    | agg ks => exact allIs_scalar h hk
theorem flat_of_flat1 {v : Value} (h : flat1 v = true) : flat v = true := by
  cases v <;> first | exact h | cases h
theorem areIs_flat1 : ∀ {xs : List S0} {sks : List SK}, areIs xs sks = true → sks.all SK.plain = true → (valsOf xs).all flat1 = true
  | [], [], _, _ => rfl
  | x :: xs, k :: ks, h, hk => by
    simp only [areIs, Bool.and_eq_true] at h
    simp only [List.all_cons, Bool.and_eq_true] at hk
    simp only [valsOf, List.map_cons, List.all_cons, Bool.and_eq_true]
    exact ⟨S0.plain_flat1 h.1 hk.1, areIs_flat1 h.2 hk.2⟩
  | [], _ :: _, h, _ => by cases h
  | _ :: _, [], h, _ => by cases h
theorem areIs_flat {xs : List S0} {sks : List SK} (h : areIs xs sks = true) (hk : sks.all SK.plain = true) : (valsOf xs).all flat = true := by
  have := areIs_flat1 h hk
  rw [List.all_eq_true] at this ⊢
  exact fun v hv => flat_of_flat1 (this v hv)
theorem packA_flat {vs : List Value} (h : vs.all flat1 = true) : flat (packA vs) = true := by
  match vs, h with
  | [], _ => rfl
  | [v], h =>
    simp only [List.all_cons, List.all_nil, Bool.and_true] at h
    exact flat_of_flat1 h
  | a :: b :: l, h =>
    show flat (.tuple (a :: b :: l).toArray) = true
    simp only [flat, Bool.and_eq_true]
    exact ⟨by simp, h⟩

end

/-- What is known: whatever has been shown of calls that leave nothing behind. -/
@[reducible] def KnoC (C : Cfg) [Val] : Kno := ⟨fun f args r => ∀ H, CallOk C f args H r H⟩

section
variable [Val]
/-- THE CONTRACT: the function answers so, and leaves nothing behind. -/
def Ct (C : Cfg) (Sg : FuncId → Option Sig) (g : FuncId) (ls rs : List Lf) : Prop := let _ : Kno := KnoC C; ∀ H, CallL C Sg g ls H rs H

theorem uCallC_ok {C : Cfg} (hm : C.P.follows .mixedOrders = true) {f : FuncId} {args : List Value} {H : List HObj} {r : Value} {H' : List HObj} (h : let _ : Kno := KnoC C; uCall C f args H r H') : CallOk C f args H r H' :=
  @uCall_ok _ _ (KnoC C) hm (fun _ _ _ h => h) _ _ _ _ _ h

theorem ct_of {C : Cfg} {Sg : FuncId → Option Sig} (hm : C.P.follows .mixedOrders = true) (hG : ∀ g vs, C.G g = some vs → vs.all flat = true) {g : FuncId} {sg : Sig} (hs : Sg g = some sg) (hp : sg.plain = true) {ls rs : List Lf} {H' : List HObj}
    (h : let _ : Kno := KnoC C; CallL C Sg g ls [] rs H') : Ct C Sg g ls rs := by
  let _ : Kno := KnoC C
  obtain ⟨sg', xs, ys, c1, c2, c3, c4⟩ := h
  rw [hs] at c1
  cases c1
  simp only [Sig.plain, Bool.and_eq_true] at hp
  have ha := areIs_flat c2.1 hp.1
  have hr := packA_flat (areIs_flat1 c3.1 hp.2)
  intro H
  exact ⟨sg, xs, ys, hs, c2, c3, ⟨0, fun H => frame_ok hG (uCallC_ok hm c4) ha hr H, rfl⟩⟩

theorem call_ct {C : Cfg} {Sg : FuncId → Option Sig} {g : FuncId} {ls rs : List Lf} {h : List HObj} {K : List Lf → List HObj → Prop} (hc : Ct C Sg g ls rs) (hk : K rs h) : let _ : Kno := KnoC C; callP C Sg g ls h K :=
  ⟨rs, h, hc h, hk⟩
end

section
variable [Val] [Kno]
theorem it_rule {F : (List Lf → List HObj → Prop) → List Lf → List HObj → Prop} (Inv : Nat → List Lf → List HObj → Prop)
    (step : ∀ m ls h, Inv m ls h → ∀ self : List Lf → List HObj → Prop, (∀ m' ls h, m' < m → Inv m' ls h → self ls h) → F self ls h) : ∀ n m ls h, m < n → Inv m ls h → itP F n ls h
  | 0, _, _, _, hm, _ => absurd hm (Nat.not_lt_zero _)
  | n + 1, m, ls, h, hm, hi => step m ls h hi (itP F n) fun m' ls h h' hi' => it_rule Inv step n m' ls h (by omega) hi'
/-- A loop: a measure and what holds. -/
theorem loop_rule {F : (List Lf → List HObj → Prop) → List Lf → List HObj → Prop} (Inv : Nat → List Lf → List HObj → Prop) {m : Nat} {ls : List Lf} {h : List HObj} (hi : Inv m ls h)
    (step : ∀ m ls h, Inv m ls h → ∀ self : List Lf → List HObj → Prop, (∀ m' ls h, m' < m → Inv m' ls h → self ls h) → F self ls h) : loopP F ls h :=
  ⟨m + 1, it_rule Inv step (m + 1) m ls h (Nat.lt_succ_self m) hi⟩

/-- Numbers that fit are as they are. -/
theorem wrap_i64 {n : Int} (h1 : -9223372036854775808 ≤ n) (h2 : n ≤ 9223372036854775807) : IntKind.wrap .i64 n = n := by
  simp only [IntKind.wrap, IntKind.bits, IntKind.signed, Bool.true_and, ge_iff_le, decide_eq_true_eq]
  split <;> omega
theorem wrap_u8 {n : Int} (h1 : 0 ≤ n) (h2 : n ≤ 255) : IntKind.wrap .u8 n = n := by
  simp only [IntKind.wrap, IntKind.bits, IntKind.signed, Bool.false_and, Bool.false_eq_true, if_false]
  omega
end
end Sx
end Go.Am

/-
  THE ALGEBRA OF PROPOSITIONS, its rules as equations: a step each.
-/
namespace Go.Am
namespace Sx

/-- What comes behind, put away: no step looks into it. -/
class Bx (α : Sort _) where
  v : α
def hid {α : Sort _} [b : Bx α] : α := b.v
section
variable [Val] [Kno] {C : Cfg} {Sg : FuncId → Option Sig} {T : Nat → Site}

theorem b_unI {n : Int} {r : List Lf} {K : Int → List Lf → Prop} : (PA C Sg T).unI (.i n :: r) K = K n r := rfl
theorem b_unB {n : Bool} {r : List Lf} {K : Bool → List Lf → Prop} : (PA C Sg T).unB (.b n :: r) K = K n r := rfl
theorem b_unV {n : Value} {r : List Lf} {K : Value → List Lf → Prop} : (PA C Sg T).unV (.v n :: r) K = K n r := rfl
theorem b_un0 {K : Prop} : (PA C Sg T).un0 [] K = K := rfl
theorem b_ucI {k : IntKind} {n : Int} {r : List Value} {K : Int → List Value → Prop} : (PA C Sg T).ucI k (.int k n :: r) K = K n r := by
  show (k = k ∧ K n r) = K n r
  simp
theorem b_ucB {n : Bool} {r : List Value} {K : Bool → List Value → Prop} : (PA C Sg T).ucB (.bool n :: r) K = K n r := rfl
theorem b_ucV {n : Value} {r : List Value} {K : Value → List Value → Prop} : (PA C Sg T).ucV (n :: r) K = K n r := rfl
theorem b_uc0 {K : Prop} : (PA C Sg T).uc0 [] K = K := rfl
theorem p_chk {v : Value} {K : Prop} (h : goodV v = true) : (PA C Sg T).chk v K = K := by
  show (goodV v = true ∧ K) = K
  simp [h]
theorem b_cond_t {X Y : Prop} : (PA C Sg T).cond true X Y = X := by
  show ((true = true → X) ∧ (true = false → Y)) = X
  simp
theorem b_cond_f {X Y : Prop} : (PA C Sg T).cond false X Y = Y := by
  show ((false = true → X) ∧ (false = false → Y)) = Y
  simp
theorem b_lss_t {a b : Int} {K : Bool → Prop} (h : a < b) : (PA C Sg T).cmp .lss a b K = K true := by
  show K (decide (a < b)) = _; rw [decide_eq_true h]
theorem b_lss_f {a b : Int} {K : Bool → Prop} (h : b ≤ a) : (PA C Sg T).cmp .lss a b K = K false := by
  show K (decide (a < b)) = _; rw [decide_eq_false (by omega)]
theorem b_leq_t {a b : Int} {K : Bool → Prop} (h : a ≤ b) : (PA C Sg T).cmp .leq a b K = K true := by
  show K (decide (a ≤ b)) = _; rw [decide_eq_true h]
theorem b_leq_f {a b : Int} {K : Bool → Prop} (h : b < a) : (PA C Sg T).cmp .leq a b K = K false := by
  show K (decide (a ≤ b)) = _; rw [decide_eq_false (by omega)]
theorem b_gtr_t {a b : Int} {K : Bool → Prop} (h : b < a) : (PA C Sg T).cmp .gtr a b K = K true := by
  show K (decide (a > b)) = _; rw [decide_eq_true h]
theorem b_gtr_f {a b : Int} {K : Bool → Prop} (h : a ≤ b) : (PA C Sg T).cmp .gtr a b K = K false := by
  show K (decide (a > b)) = _; rw [decide_eq_false (by omega)]
theorem b_geq_t {a b : Int} {K : Bool → Prop} (h : b ≤ a) : (PA C Sg T).cmp .geq a b K = K true := by
  show K (decide (a ≥ b)) = _; rw [decide_eq_true h]
theorem b_geq_f {a b : Int} {K : Bool → Prop} (h : a < b) : (PA C Sg T).cmp .geq a b K = K false := by
  show K (decide (a ≥ b)) = _; rw [decide_eq_false (by omega)]
theorem b_eql_t {a b : Int} {K : Bool → Prop} (h : a = b) : (PA C Sg T).cmp .eql a b K = K true := by
  show K (a == b) = _; rw [beq_iff_eq.2 h]
theorem b_eql_f {a b : Int} {K : Bool → Prop} (h : a ≠ b) : (PA C Sg T).cmp .eql a b K = K false := by
  show K (a == b) = _; rw [beq_false_of_ne h]
theorem b_neq_t {a b : Int} {K : Bool → Prop} (h : a ≠ b) : (PA C Sg T).cmp .neq a b K = K true := by
  show K (a != b) = _; rw [bne_iff_ne.2 h]
theorem b_neq_f {a b : Int} {K : Bool → Prop} (h : a = b) : (PA C Sg T).cmp .neq a b K = K false := by
  show K (a != b) = _; subst h; simp
theorem b_add {a b : Int} {K : Int → Prop} (h1 : -9223372036854775808 ≤ a + b) (h2 : a + b ≤ 9223372036854775807) : (PA C Sg T).ari .add .i64 a b K = K (a + b) := by
  show K (IntKind.wrap .i64 (a + b)) = _; rw [wrap_i64 h1 h2]
theorem b_sub {a b : Int} {K : Int → Prop} (h1 : -9223372036854775808 ≤ a - b) (h2 : a - b ≤ 9223372036854775807) : (PA C Sg T).ari .sub .i64 a b K = K (a - b) := by
  show K (IntKind.wrap .i64 (a - b)) = _; rw [wrap_i64 h1 h2]
theorem b_mul {a b : Int} {K : Int → Prop} (h1 : -9223372036854775808 ≤ a * b) (h2 : a * b ≤ 9223372036854775807) : (PA C Sg T).ari .mul .i64 a b K = K (a * b) := by
  show K (IntKind.wrap .i64 (a * b)) = _; rw [wrap_i64 h1 h2]
theorem b_add8 {a b : Int} {K : Int → Prop} (h1 : 0 ≤ a + b) (h2 : a + b ≤ 255) : (PA C Sg T).ari .add .u8 a b K = K (a + b) := by
  show K (IntKind.wrap .u8 (a + b)) = _; rw [wrap_u8 h1 h2]
theorem b_sub8 {a b : Int} {K : Int → Prop} (h1 : 0 ≤ a - b) (h2 : a - b ≤ 255) : (PA C Sg T).ari .sub .u8 a b K = K (a - b) := by
  show K (IntKind.wrap .u8 (a - b)) = _; rw [wrap_u8 h1 h2]
theorem b_mul8 {a b : Int} {K : Int → Prop} (h1 : 0 ≤ a * b) (h2 : a * b ≤ 255) : (PA C Sg T).ari .mul .u8 a b K = K (a * b) := by
  show K (IntKind.wrap .u8 (a * b)) = _; rw [wrap_u8 h1 h2]
theorem tdiv_nn {a b : Int} (h : 0 ≤ a) : a.tdiv b = a / b := Int.tdiv_eq_ediv_of_nonneg h
theorem b_quo_nn {a b : Int} {K : Int → Prop} (h : 0 ≤ a) (hb : 0 < b) (h2 : a ≤ 9223372036854775807) : (PA C Sg T).ari .quo .i64 a b K = K (a / b) := by
  show (b ≠ 0 ∧ K (IntKind.wrap .i64 (a.tdiv b))) = _
  have h3 : a / b ≤ a := Int.ediv_le_self b h
  have h4 : 0 ≤ a / b := Int.ediv_nonneg h (by omega)
  rw [tdiv_nn h, wrap_i64 (by omega) (by omega)]
  simp; intro _ h; omega
theorem b_quo_ev {a : Int} {K : Int → Prop} (h : a % 2 = 0) (h1 : -9223372036854775808 ≤ a) (h2 : a ≤ 9223372036854775807) : (PA C Sg T).ari .quo .i64 a 2 K = K (a / 2) := by
  show ((2 : Int) ≠ 0 ∧ K (IntKind.wrap .i64 (a.tdiv 2))) = _
  rw [Int.tdiv_eq_ediv_of_dvd (Int.dvd_of_emod_eq_zero h), wrap_i64 (by omega) (by omega)]
  simp
theorem b_quo_dv {a b : Int} {K : Int → Prop} (h : a % b = 0) (hb : 0 < b) (h1 : -9223372036854775808 ≤ a) (h2 : a ≤ 9223372036854775807) : (PA C Sg T).ari .quo .i64 a b K = K (a / b) := by
  show (b ≠ 0 ∧ K (IntKind.wrap .i64 (a.tdiv b))) = _
  obtain ⟨q, rfl⟩ := Int.dvd_of_emod_eq_zero h
  rw [Int.mul_tdiv_cancel_left q (by omega), Int.mul_ediv_cancel_left q (by omega)]
  have hq : -9223372036854775808 ≤ q ∧ q ≤ 9223372036854775807 := by
    rcases Int.le_total 0 q with hs | hs
    · have := Int.mul_le_mul_of_nonneg_right (show (1 : Int) ≤ b by omega) hs
      omega
    · have := Int.mul_le_mul_of_nonneg_right (show (1 : Int) ≤ b by omega) (show 0 ≤ -q by omega)
      rw [Int.mul_neg b q] at this
      omega
  rw [wrap_i64 hq.1 hq.2]
  simp; intro _ h; omega
theorem b_rem_nn {k : IntKind} {a b : Int} {K : Int → Prop} (h : 0 ≤ a) (hb : 0 < b) : (PA C Sg T).ari .rem k a b K = K (a % b) := by
  show (b ≠ 0 ∧ K (a.tmod b)) = _
  rw [Int.tmod_eq_emod_of_nonneg h]
  simp; intro _ h; omega
theorem b_rem_np {k : IntKind} {a b : Int} {K : Int → Prop} (h : a ≤ 0) (hb : 0 < b) : (PA C Sg T).ari .rem k a b K = K (-((-a) % b)) := by
  show (b ≠ 0 ∧ K (a.tmod b)) = _
  have : a.tmod b = -((-a) % b) := by
    have h1 := Int.neg_tmod a b
    rw [Int.tmod_eq_emod_of_nonneg (a := -a) (by omega)] at h1
    omega
  rw [this]
  simp; intro _ h; omega
theorem b_and1 {a : Int} {K : Int → Prop} : (PA C Sg T).ari .and .i64 a 1 K = K (a % 2) := by
  show (((1 : Int) = 1 ∧ K (a % 2)) ∨ ((1 : Int) ≠ 1 ∧ ∃ n, ArRun .and .i64 a 1 n ∧ K n)) = K (a % 2)
  simp
theorem b_conv {a : Int} {K : Int → Prop} (h1 : -9223372036854775808 ≤ a) (h2 : a ≤ 9223372036854775807) : (PA C Sg T).conv .i64 a K = K a := by
  show K (IntKind.wrap .i64 a) = _; rw [wrap_i64 h1 h2]
theorem b_conv8 {a : Int} {K : Int → Prop} (h1 : 0 ≤ a) (h2 : a ≤ 255) : (PA C Sg T).conv .u8 a K = K a := by
  show K (IntKind.wrap .u8 a) = _; rw [wrap_u8 h1 h2]
theorem b_sel_t {a b : Int} {K : Int → Prop} : (PA C Sg T).sel true a b K = K a := rfl
theorem b_sel_f {a b : Int} {K : Int → Prop} : (PA C Sg T).sel false a b K = K b := rfl
theorem b_opt {α : Type} {x : α} {K : α → Prop} : (PA C Sg T).opt (some x) K = K x := by
  show (∃ y, some x = some y ∧ K y) = K x
  simp
theorem b_inB {n : Nat} {i : Int} {K : Unit → Prop} (h1 : 0 ≤ i) (h2 : i < (n : Int)) : (PA C Sg T).opt (inB n i) K = K () := by
  rw [show inB n i = some () from if_pos ⟨h1, h2⟩, b_opt]
theorem p_opt_eq {α : Type} {o : Option α} {x : α} {K : α → Prop} (h : o = some x) : (PA C Sg T).opt o K = K x := by
  rw [h, b_opt]
theorem b_join {b : List Lf → List HObj → Prop} {m : (List Lf → List HObj → Prop) → Prop} : (PA C Sg T).join b m = m b := rfl
theorem b_eqs0 {K : Bool → Prop} : (PA C Sg T).eqs [] K = K true := rfl
theorem b_eqs_t {a b : Int} {l : List (Lf × Lf)} {K : Bool → Prop} (h : a = b) : (PA C Sg T).eqs ((.i a, .i b) :: l) K = (PA C Sg T).eqs l K := by
  show K (eqAll _) = K (eqAll l)
  subst h
  simp [eqAll, eqLfD]
theorem b_eqs_f {a b : Int} {l : List (Lf × Lf)} {K : Bool → Prop} (h : a ≠ b) : (PA C Sg T).eqs ((.i a, .i b) :: l) K = K false := by
  show K (eqAll _) = K false
  have : (a == b) = false := beq_false_of_ne h
  simp [eqAll, eqLfD, this]
theorem p_loop {F : (List Lf → List HObj → Prop) → List Lf → List HObj → Prop} {ls : List Lf} {h : List HObj} (n : Nat) (hn : itP F n ls h) : (PA C Sg T).loop F ls h := ⟨n, hn⟩
theorem b_it {F : (List Lf → List HObj → Prop) → List Lf → List HObj → Prop} {n : Nat} {ls : List Lf} {h : List HObj} : itP F (n + 1) ls h = F (itP F n) ls h := rfl
theorem p_call {g : FuncId} {ls rs : List Lf} {h : List HObj} {K : List Lf → List HObj → Prop} (hc : ∀ H, CallL C Sg g ls H rs H) (hk : K rs h) : (PA C Sg T).call g ls h (@hid _ ⟨K⟩) := ⟨rs, h, hc h, hk⟩
theorem p_cond {b : Bool} {X Y : Prop} (h1 : b = true → X) (h2 : b = false → Y) : (PA C Sg T).cond b (@hid _ ⟨X⟩) (@hid _ ⟨Y⟩) := ⟨h1, h2⟩
/-- Truth values compared. -/
theorem b_eqsb_t {a b : Bool} {l : List (Lf × Lf)} {K : Bool → Prop} (h : a = b) : (PA C Sg T).eqs ((.b a, .b b) :: l) K = (PA C Sg T).eqs l K := by
  show K (eqAll _) = K (eqAll l)
  subst h
  simp [eqAll, eqLfD]
theorem b_eqsb_tf {l : List (Lf × Lf)} {K : Bool → Prop} : (PA C Sg T).eqs ((.b true, .b false) :: l) K = K false := rfl
theorem b_eqsb_ft {l : List (Lf × Lf)} {K : Bool → Prop} : (PA C Sg T).eqs ((.b false, .b true) :: l) K = K false := rfl
theorem b_mul_1 {b : Int} {K : Int → Prop} (h1 : -9223372036854775808 ≤ b) (h2 : b ≤ 9223372036854775807) : (PA C Sg T).ari .mul .i64 1 b K = K b := by
  show K (IntKind.wrap .i64 (1 * b)) = _; rw [Int.one_mul, wrap_i64 h1 h2]
theorem b_mul_0 {b : Int} {K : Int → Prop} : (PA C Sg T).ari .mul .i64 0 b K = K 0 := by
  show K (IntKind.wrap .i64 (0 * b)) = _; rw [Int.zero_mul]; rfl
theorem b_mul_m {b : Int} {K : Int → Prop} (h1 : -9223372036854775808 ≤ -b) (h2 : -b ≤ 9223372036854775807) : (PA C Sg T).ari .mul .i64 (-1) b K = K (-b) := by
  show K (IntKind.wrap .i64 (-1 * b)) = _
  have : (-1 * b : Int) = -b := by omega
  rw [this, wrap_i64 h1 h2]
theorem b_mul_r1 {b : Int} {K : Int → Prop} (h1 : -9223372036854775808 ≤ b) (h2 : b ≤ 9223372036854775807) : (PA C Sg T).ari .mul .i64 b 1 K = K b := by
  show K (IntKind.wrap .i64 (b * 1)) = _; rw [Int.mul_one, wrap_i64 h1 h2]
theorem b_mul_r0 {b : Int} {K : Int → Prop} : (PA C Sg T).ari .mul .i64 b 0 K = K 0 := by
  show K (IntKind.wrap .i64 (b * 0)) = _; rw [Int.mul_zero]; rfl
theorem b_mul_rm {b : Int} {K : Int → Prop} (h1 : -9223372036854775808 ≤ -b) (h2 : -b ≤ 9223372036854775807) : (PA C Sg T).ari .mul .i64 b (-1) K = K (-b) := by
  show K (IntKind.wrap .i64 (b * -1)) = _
  have : (b * -1 : Int) = -b := by omega
  rw [this, wrap_i64 h1 h2]
theorem b_add_0 {b : Int} {K : Int → Prop} (h1 : -9223372036854775808 ≤ b) (h2 : b ≤ 9223372036854775807) : (PA C Sg T).ari .add .i64 0 b K = K b := by
  show K (IntKind.wrap .i64 (0 + b)) = _; rw [Int.zero_add, wrap_i64 h1 h2]
theorem b_add_r0 {b : Int} {K : Int → Prop} (h1 : -9223372036854775808 ≤ b) (h2 : b ≤ 9223372036854775807) : (PA C Sg T).ari .add .i64 b 0 K = K b := by
  show K (IntKind.wrap .i64 (b + 0)) = _; rw [Int.add_zero, wrap_i64 h1 h2]
theorem b_add_11 {K : Int → Prop} : (PA C Sg T).ari .add .i64 1 1 K = K 2 := by
  show K (IntKind.wrap .i64 (1 + 1)) = _; rfl
theorem b_quo_1 {a : Int} {K : Int → Prop} (h1 : -9223372036854775808 ≤ a) (h2 : a ≤ 9223372036854775807) : (PA C Sg T).ari .quo .i64 a 1 K = K a := by
  show ((1 : Int) ≠ 0 ∧ K (IntKind.wrap .i64 (a.tdiv 1))) = _
  rw [Int.tdiv_one, wrap_i64 h1 h2]; simp
theorem p_ari_2 {op : BinOp} {k : IntKind} {a b b' : Int} {K : Int → Prop} (hb : b = b') (h : (PA C Sg T).ari op k a b' K) : (PA C Sg T).ari op k a b K := by rw [hb]; exact h
theorem p_opt_r {α : Type} {o : Option α} {x : α} {K : α → Prop} (h : o = some x) (hk : K x) : (PA C Sg T).opt o (@hid _ ⟨K⟩) := ⟨x, h, hk⟩
theorem pvx {vs : List Value} {base sz n : Nat} {i j : Int} {o : Option (List Value)} (h2 : pickV vs base [(j, sz)] n = o) (h : i = j) : pickV vs base [(i, sz)] n = o := by rw [h]; exact h2
theorem pvx2 {vs : List Value} {base sz sz' n : Nat} {i j i' j' : Int} {o : Option (List Value)} (h2 : pickV vs base [(j, sz), (j', sz')] n = o) (h : i = j) (h' : i' = j') : pickV vs base [(i, sz), (i', sz')] n = o := by rw [h, h']; exact h2
theorem plx {ls : List Lf} {base sz n : Nat} {i : Int} {o : Option (List Lf)} (j : Int) (h : i = j) (h2 : pickL ls base [(j, sz)] n = o) : pickL ls base [(i, sz)] n = o := by rw [h]; exact h2
theorem ptx {ls new : List Lf} {base sz : Nat} {i : Int} {o : Option (List Lf)} (j : Int) (h : i = j) (h2 : putL ls base [(j, sz)] new = o) : putL ls base [(i, sz)] new = o := by rw [h]; exact h2
/-! ### The same, with what comes behind put away -/
theorem p_unI {n : Int} {r : List Lf} {K : Int → List Lf → Prop} : (PA C Sg T).unI (.i n :: r) (@hid _ ⟨K⟩) = K n r := b_unI
theorem p_unB {n : Bool} {r : List Lf} {K : Bool → List Lf → Prop} : (PA C Sg T).unB (.b n :: r) (@hid _ ⟨K⟩) = K n r := b_unB
theorem p_unV {n : Value} {r : List Lf} {K : Value → List Lf → Prop} : (PA C Sg T).unV (.v n :: r) (@hid _ ⟨K⟩) = K n r := b_unV
theorem p_un0 {K : Prop} : (PA C Sg T).un0 [] (@hid _ ⟨K⟩) = K := b_un0
theorem p_ucI {k : IntKind} {n : Int} {r : List Value} {K : Int → List Value → Prop} : (PA C Sg T).ucI k (.int k n :: r) (@hid _ ⟨K⟩) = K n r := b_ucI
theorem p_ucB {n : Bool} {r : List Value} {K : Bool → List Value → Prop} : (PA C Sg T).ucB (.bool n :: r) (@hid _ ⟨K⟩) = K n r := b_ucB
theorem p_ucV {n : Value} {r : List Value} {K : Value → List Value → Prop} : (PA C Sg T).ucV (n :: r) (@hid _ ⟨K⟩) = K n r := b_ucV
theorem p_uc0 {K : Prop} : (PA C Sg T).uc0 [] (@hid _ ⟨K⟩) = K := b_uc0
theorem p_cond_t {X Y : Prop} : (PA C Sg T).cond true (@hid _ ⟨X⟩) Y = X := b_cond_t
theorem p_cond_f {X Y : Prop} : (PA C Sg T).cond false X (@hid _ ⟨Y⟩) = Y := b_cond_f
theorem p_lss_t {a b : Int} {K : Bool → Prop} (h : a < b) : (PA C Sg T).cmp .lss a b (@hid _ ⟨K⟩) = K true := b_lss_t h
theorem p_lss_f {a b : Int} {K : Bool → Prop} (h : b ≤ a) : (PA C Sg T).cmp .lss a b (@hid _ ⟨K⟩) = K false := b_lss_f h
theorem p_leq_t {a b : Int} {K : Bool → Prop} (h : a ≤ b) : (PA C Sg T).cmp .leq a b (@hid _ ⟨K⟩) = K true := b_leq_t h
theorem p_leq_f {a b : Int} {K : Bool → Prop} (h : b < a) : (PA C Sg T).cmp .leq a b (@hid _ ⟨K⟩) = K false := b_leq_f h
theorem p_gtr_t {a b : Int} {K : Bool → Prop} (h : b < a) : (PA C Sg T).cmp .gtr a b (@hid _ ⟨K⟩) = K true := b_gtr_t h
theorem p_gtr_f {a b : Int} {K : Bool → Prop} (h : a ≤ b) : (PA C Sg T).cmp .gtr a b (@hid _ ⟨K⟩) = K false := b_gtr_f h
theorem p_geq_t {a b : Int} {K : Bool → Prop} (h : b ≤ a) : (PA C Sg T).cmp .geq a b (@hid _ ⟨K⟩) = K true := b_geq_t h
theorem p_geq_f {a b : Int} {K : Bool → Prop} (h : a < b) : (PA C Sg T).cmp .geq a b (@hid _ ⟨K⟩) = K false := b_geq_f h
theorem p_eql_t {a b : Int} {K : Bool → Prop} (h : a = b) : (PA C Sg T).cmp .eql a b (@hid _ ⟨K⟩) = K true := b_eql_t h
theorem p_eql_f {a b : Int} {K : Bool → Prop} (h : a ≠ b) : (PA C Sg T).cmp .eql a b (@hid _ ⟨K⟩) = K false := b_eql_f h
theorem p_neq_t {a b : Int} {K : Bool → Prop} (h : a ≠ b) : (PA C Sg T).cmp .neq a b (@hid _ ⟨K⟩) = K true := b_neq_t h
theorem p_neq_f {a b : Int} {K : Bool → Prop} (h : a = b) : (PA C Sg T).cmp .neq a b (@hid _ ⟨K⟩) = K false := b_neq_f h
theorem p_add {a b : Int} {K : Int → Prop} (h1 : -9223372036854775808 ≤ a + b) (h2 : a + b ≤ 9223372036854775807) : (PA C Sg T).ari .add .i64 a b (@hid _ ⟨K⟩) = K (a + b) := b_add h1 h2
theorem p_sub {a b : Int} {K : Int → Prop} (h1 : -9223372036854775808 ≤ a - b) (h2 : a - b ≤ 9223372036854775807) : (PA C Sg T).ari .sub .i64 a b (@hid _ ⟨K⟩) = K (a - b) := b_sub h1 h2
theorem p_mul {a b : Int} {K : Int → Prop} (h1 : -9223372036854775808 ≤ a * b) (h2 : a * b ≤ 9223372036854775807) : (PA C Sg T).ari .mul .i64 a b (@hid _ ⟨K⟩) = K (a * b) := b_mul h1 h2
theorem p_add8 {a b : Int} {K : Int → Prop} (h1 : 0 ≤ a + b) (h2 : a + b ≤ 255) : (PA C Sg T).ari .add .u8 a b (@hid _ ⟨K⟩) = K (a + b) := b_add8 h1 h2
theorem p_sub8 {a b : Int} {K : Int → Prop} (h1 : 0 ≤ a - b) (h2 : a - b ≤ 255) : (PA C Sg T).ari .sub .u8 a b (@hid _ ⟨K⟩) = K (a - b) := b_sub8 h1 h2
theorem p_mul8 {a b : Int} {K : Int → Prop} (h1 : 0 ≤ a * b) (h2 : a * b ≤ 255) : (PA C Sg T).ari .mul .u8 a b (@hid _ ⟨K⟩) = K (a * b) := b_mul8 h1 h2
theorem p_quo_nn {a b : Int} {K : Int → Prop} (h : 0 ≤ a) (hb : 0 < b) (h2 : a ≤ 9223372036854775807) : (PA C Sg T).ari .quo .i64 a b (@hid _ ⟨K⟩) = K (a / b) := b_quo_nn h hb h2
theorem p_quo_ev {a : Int} {K : Int → Prop} (h : a % 2 = 0) (h1 : -9223372036854775808 ≤ a) (h2 : a ≤ 9223372036854775807) : (PA C Sg T).ari .quo .i64 a 2 (@hid _ ⟨K⟩) = K (a / 2) := b_quo_ev h h1 h2
theorem p_quo_dv {a b : Int} {K : Int → Prop} (h : a % b = 0) (hb : 0 < b) (h1 : -9223372036854775808 ≤ a) (h2 : a ≤ 9223372036854775807) : (PA C Sg T).ari .quo .i64 a b (@hid _ ⟨K⟩) = K (a / b) := b_quo_dv h hb h1 h2
theorem p_rem_nn {k : IntKind} {a b : Int} {K : Int → Prop} (h : 0 ≤ a) (hb : 0 < b) : (PA C Sg T).ari .rem k a b (@hid _ ⟨K⟩) = K (a % b) := b_rem_nn h hb
theorem p_rem_np {k : IntKind} {a b : Int} {K : Int → Prop} (h : a ≤ 0) (hb : 0 < b) : (PA C Sg T).ari .rem k a b (@hid _ ⟨K⟩) = K (-((-a) % b)) := b_rem_np h hb
theorem p_and1 {a : Int} {K : Int → Prop} : (PA C Sg T).ari .and .i64 a 1 (@hid _ ⟨K⟩) = K (a % 2) := b_and1
theorem p_conv {a : Int} {K : Int → Prop} (h1 : -9223372036854775808 ≤ a) (h2 : a ≤ 9223372036854775807) : (PA C Sg T).conv .i64 a (@hid _ ⟨K⟩) = K a := b_conv h1 h2
theorem p_conv8 {a : Int} {K : Int → Prop} (h1 : 0 ≤ a) (h2 : a ≤ 255) : (PA C Sg T).conv .u8 a (@hid _ ⟨K⟩) = K a := b_conv8 h1 h2
theorem p_sel_t {a b : Int} {K : Int → Prop} : (PA C Sg T).sel true a b (@hid _ ⟨K⟩) = K a := b_sel_t
theorem p_sel_f {a b : Int} {K : Int → Prop} : (PA C Sg T).sel false a b (@hid _ ⟨K⟩) = K b := b_sel_f
theorem p_opt {α : Type} {x : α} {K : α → Prop} : (PA C Sg T).opt (some x) (@hid _ ⟨K⟩) = K x := b_opt
theorem p_inB {n : Nat} {i : Int} {K : Unit → Prop} (h1 : 0 ≤ i) (h2 : i < (n : Int)) : (PA C Sg T).opt (inB n i) (@hid _ ⟨K⟩) = K () := b_inB h1 h2
theorem p_join {b : List Lf → List HObj → Prop} {m : (List Lf → List HObj → Prop) → Prop} : (PA C Sg T).join (@hid _ ⟨b⟩) (@hid _ ⟨m⟩) = m (@hid _ ⟨b⟩) := b_join
theorem p_eqs0 {K : Bool → Prop} : (PA C Sg T).eqs [] (@hid _ ⟨K⟩) = K true := b_eqs0
theorem p_eqs_t {a b : Int} {l : List (Lf × Lf)} {K : Bool → Prop} (h : a = b) : (PA C Sg T).eqs ((.i a, .i b) :: l) (@hid _ ⟨K⟩) = (PA C Sg T).eqs l (@hid _ ⟨K⟩) := b_eqs_t h
theorem p_eqs_f {a b : Int} {l : List (Lf × Lf)} {K : Bool → Prop} (h : a ≠ b) : (PA C Sg T).eqs ((.i a, .i b) :: l) (@hid _ ⟨K⟩) = K false := b_eqs_f h
theorem p_it {F : (List Lf → List HObj → Prop) → List Lf → List HObj → Prop} {n : Nat} {ls : List Lf} {h : List HObj} : itP (@hid _ ⟨F⟩) (n + 1) ls h = F (itP (@hid _ ⟨F⟩) n) ls h := b_it
theorem p_eqsb_t {a b : Bool} {l : List (Lf × Lf)} {K : Bool → Prop} (h : a = b) : (PA C Sg T).eqs ((.b a, .b b) :: l) (@hid _ ⟨K⟩) = (PA C Sg T).eqs l (@hid _ ⟨K⟩) := b_eqsb_t h
theorem p_eqsb_tf {l : List (Lf × Lf)} {K : Bool → Prop} : (PA C Sg T).eqs ((.b true, .b false) :: l) (@hid _ ⟨K⟩) = K false := b_eqsb_tf
theorem p_eqsb_ft {l : List (Lf × Lf)} {K : Bool → Prop} : (PA C Sg T).eqs ((.b false, .b true) :: l) (@hid _ ⟨K⟩) = K false := b_eqsb_ft
theorem p_mul_1 {b : Int} {K : Int → Prop} (h1 : -9223372036854775808 ≤ b) (h2 : b ≤ 9223372036854775807) : (PA C Sg T).ari .mul .i64 1 b (@hid _ ⟨K⟩) = K b := b_mul_1 h1 h2
theorem p_mul_0 {b : Int} {K : Int → Prop} : (PA C Sg T).ari .mul .i64 0 b (@hid _ ⟨K⟩) = K 0 := b_mul_0
theorem p_mul_m {b : Int} {K : Int → Prop} (h1 : -9223372036854775808 ≤ -b) (h2 : -b ≤ 9223372036854775807) : (PA C Sg T).ari .mul .i64 (-1) b (@hid _ ⟨K⟩) = K (-b) := b_mul_m h1 h2
theorem p_mul_r1 {b : Int} {K : Int → Prop} (h1 : -9223372036854775808 ≤ b) (h2 : b ≤ 9223372036854775807) : (PA C Sg T).ari .mul .i64 b 1 (@hid _ ⟨K⟩) = K b := b_mul_r1 h1 h2
theorem p_mul_r0 {b : Int} {K : Int → Prop} : (PA C Sg T).ari .mul .i64 b 0 (@hid _ ⟨K⟩) = K 0 := b_mul_r0
theorem p_mul_rm {b : Int} {K : Int → Prop} (h1 : -9223372036854775808 ≤ -b) (h2 : -b ≤ 9223372036854775807) : (PA C Sg T).ari .mul .i64 b (-1) (@hid _ ⟨K⟩) = K (-b) := b_mul_rm h1 h2
theorem p_add_0 {b : Int} {K : Int → Prop} (h1 : -9223372036854775808 ≤ b) (h2 : b ≤ 9223372036854775807) : (PA C Sg T).ari .add .i64 0 b (@hid _ ⟨K⟩) = K b := b_add_0 h1 h2
theorem p_add_r0 {b : Int} {K : Int → Prop} (h1 : -9223372036854775808 ≤ b) (h2 : b ≤ 9223372036854775807) : (PA C Sg T).ari .add .i64 b 0 (@hid _ ⟨K⟩) = K b := b_add_r0 h1 h2
theorem p_add_11 {K : Int → Prop} : (PA C Sg T).ari .add .i64 1 1 (@hid _ ⟨K⟩) = K 2 := b_add_11
theorem p_quo_1 {a : Int} {K : Int → Prop} (h1 : -9223372036854775808 ≤ a) (h2 : a ≤ 9223372036854775807) : (PA C Sg T).ari .quo .i64 a 1 (@hid _ ⟨K⟩) = K a := b_quo_1 h1 h2
theorem p_hid2 {f : List Lf → List HObj → Prop} {a : List Lf} {b : List HObj} : @hid _ ⟨f⟩ a b = f a b := rfl
theorem p_eqs2_f {a b c d : Int} {K : Bool → Prop} (h : ¬ (a = c ∧ b = d)) : (PA C Sg T).eqs [(.i a, .i c), (.i b, .i d)] (@hid _ ⟨K⟩) = K false := by
  show K (eqAll _) = K false
  have : eqAll [(.i a, .i c), (.i b, .i d)] = false := by
    rw [Bool.eq_false_iff]
    simpa [eqAll, eqLfD] using h
  rw [this]
theorem p_eqs3_f {a b c d e f : Int} {K : Bool → Prop} (h : ¬ (a = d ∧ b = e ∧ c = f)) : (PA C Sg T).eqs [(.i a, .i d), (.i b, .i e), (.i c, .i f)] (@hid _ ⟨K⟩) = K false := by
  show K (eqAll _) = K false
  have : eqAll [(.i a, .i d), (.i b, .i e), (.i c, .i f)] = false := by
    rw [Bool.eq_false_iff]
    simpa [eqAll, eqLfD] using h
  rw [this]
theorem p_callH {g : FuncId} {ls rs : List Lf} {h h' : List HObj} {K : List Lf → List HObj → Prop} (hc : CallL C Sg g ls h rs h') (hk : K rs h') : (PA C Sg T).call g ls h (@hid _ ⟨K⟩) := ⟨rs, h', hc, hk⟩
theorem p_callE {g : FuncId} {ls : List Lf} {h : List HObj} {P : Int → Prop} {K : List Lf → List HObj → Prop} (hc : ∃ r, P r ∧ ∀ H, CallL C Sg g ls H [.i r] H) (hk : ∀ r, P r → K [.i r] h) : (PA C Sg T).call g ls h (@hid _ ⟨K⟩) := by
  obtain ⟨r, h1, h2⟩ := hc
  exact ⟨_, h, h2 h, hk r h1⟩
theorem callv_ct {g : FuncId} {sg : Sig} {ls rs : List Lf} {H H' : List HObj} (hc : CallL C Sg g ls H rs H') (hs : Sg g = some sg) (xs : List S0) (h1 : areIs xs sg.ps = true) (h2 : lfsOf xs = ls) :
    CallV C (.func (.func g) #[] #[]) (valsOf xs) sg.rs H rs H' := by
  obtain ⟨sg', xs', ys, c1, c2, c3, c4⟩ := hc
  rw [hs] at c1
  cases c1
  obtain ⟨w1, _⟩ := areIs_val c2.1 h1 (c2.2.1.trans h2.symm)
  rw [w1] at c4
  exact ⟨ys, c3, .inl ⟨g, #[], #[], rfl, by simpa using c4⟩⟩
theorem p_callv {v : Value} {args : List Value} {hs : List SK} {rs : List Lf} {h h' : List HObj} {K : List Lf → List HObj → Prop} (hc : CallV C v args hs h rs h') (hk : K rs h') : (PA C Sg T).callv v args hs h (@hid _ ⟨K⟩) := ⟨rs, h', hc, hk⟩
theorem p_new {o : HObj} {h : List HObj} {K : Nat → List HObj → Prop} : (PA C Sg T).new o h (@hid _ ⟨K⟩) = K h.length (h ++ [o]) := rfl
theorem p_chk_r {v : Value} {K : Prop} (h : goodV v = true) (hk : K) : (PA C Sg T).chk v (@hid _ ⟨K⟩) := ⟨h, hk⟩
theorem p_heap_r {f : Getter → Nat → Option (List Act1 × List Value)} {h : List HObj} {K : List Value → List HObj → Prop} {acts : List Act1} {cs : List Value} (e : f (getL h) h.length = some (acts, cs)) (hk : K cs (actsOn h acts)) : (PA C Sg T).heap f h (@hid _ ⟨K⟩) := ⟨acts, cs, e, hk⟩
theorem p_peek_r {f : Getter → Option (List Value)} {h : List HObj} {K : List Value → Prop} {cs : List Value} (e : f (getL h) = some cs) (hk : K cs) : (PA C Sg T).peek f h (@hid _ ⟨K⟩) := ⟨cs, e, hk⟩
/-- Rules in one. -/
def pxs (C : Cfg) (Sg : FuncId → Option Sig) (T : Nat → Site) := And.intro @p_hid2 (And.intro (@p_new _ _ C Sg T) (And.intro (@p_unI _ _ C Sg T) (And.intro (@p_unB _ _ C Sg T) (And.intro (@p_unV _ _ C Sg T) (And.intro (@p_un0 _ _ C Sg T) (And.intro (@p_ucI _ _ C Sg T) (And.intro (@p_ucB _ _ C Sg T) (And.intro (@p_ucV _ _ C Sg T) (And.intro (@p_uc0 _ _ C Sg T) (And.intro (@p_cond_t _ _ C Sg T) (And.intro (@p_cond_f _ _ C Sg T) (And.intro (@p_opt _ _ C Sg T) (And.intro (@p_inB _ _ C Sg T) (And.intro (@p_join _ _ C Sg T) (And.intro (@p_sel_t _ _ C Sg T) (And.intro (@p_sel_f _ _ C Sg T) ((@p_it))))))))))))))))))
/-- Rules in one. -/
def pxc (C : Cfg) (Sg : FuncId → Option Sig) (T : Nat → Site) := And.intro (@p_lss_t _ _ C Sg T) (And.intro (@p_lss_f _ _ C Sg T) (And.intro (@p_leq_t _ _ C Sg T) (And.intro (@p_leq_f _ _ C Sg T) (And.intro (@p_gtr_t _ _ C Sg T) (And.intro (@p_gtr_f _ _ C Sg T) (And.intro (@p_geq_t _ _ C Sg T) (And.intro (@p_geq_f _ _ C Sg T) (And.intro (@p_eql_t _ _ C Sg T) (And.intro (@p_eql_f _ _ C Sg T) (And.intro (@p_neq_t _ _ C Sg T) (And.intro (@p_neq_f _ _ C Sg T) (And.intro (@p_eqs0 _ _ C Sg T) (And.intro (@p_eqs_t _ _ C Sg T) (And.intro (@p_eqs_f _ _ C Sg T) (And.intro (@p_eqs2_f _ _ C Sg T) (And.intro (@p_eqs3_f _ _ C Sg T) (And.intro (@p_eqsb_t _ _ C Sg T) (And.intro (@p_eqsb_tf _ _ C Sg T) ((@p_eqsb_ft _ _ C Sg T))))))))))))))))))))
/-- Rules in one. -/
def pxa (C : Cfg) (Sg : FuncId → Option Sig) (T : Nat → Site) := And.intro (@p_mul_1 _ _ C Sg T) (And.intro (@p_mul_0 _ _ C Sg T) (And.intro (@p_mul_m _ _ C Sg T) (And.intro (@p_mul_r1 _ _ C Sg T) (And.intro (@p_mul_r0 _ _ C Sg T) (And.intro (@p_mul_rm _ _ C Sg T) (And.intro (@p_add_0 _ _ C Sg T) (And.intro (@p_add_r0 _ _ C Sg T) (And.intro (@p_add_11 _ _ C Sg T) (And.intro (@p_quo_1 _ _ C Sg T) (And.intro (@p_add _ _ C Sg T) (And.intro (@p_sub _ _ C Sg T) (And.intro (@p_mul _ _ C Sg T) (And.intro (@p_add8 _ _ C Sg T) (And.intro (@p_sub8 _ _ C Sg T) (And.intro (@p_mul8 _ _ C Sg T) (And.intro (@p_quo_nn _ _ C Sg T) (And.intro (@p_quo_dv _ _ C Sg T) (And.intro (@p_rem_nn _ _ C Sg T) (And.intro (@p_rem_np _ _ C Sg T) (And.intro (@p_and1 _ _ C Sg T) (And.intro (@p_conv _ _ C Sg T) ((@p_conv8 _ _ C Sg T)))))))))))))))))))))))
end
end Sx
end Go.Am

/-
  THE SEAT'S CALLS: what is known of them, and how it is shown.
-/
set_option maxRecDepth 100000
namespace Go.Am
open Sx Go.Proofs

instance val0 : Val := ⟨fun _ => 0⟩
noncomputable instance kno0 : Kno := KnoC cc
theorem mixed : cc.P.follows .mixedOrders = true := by kernel_rfl
theorem gl_flat (g : Nat) (vs : List Value) (h : cc.G g = some vs) : vs.all flat = true := by
  unfold cc at h
  simp only at h
  split at h <;> first | (cases h; done) | (obtain rfl := Option.some.inj h; kernel_rfl)
theorem gl_cell (g : Nat) (vs : List Value) (h : cc.G g = some vs) : vs.all cellOk = true := by
  unfold cc at h
  simp only at h
  split at h <;> first | (cases h; done) | (obtain rfl := Option.some.inj h; kernel_rfl)
noncomputable abbrev P1 : Alg Prop (List HObj) := PA cc sgTab siteTab
/-- It answers so, and leaves nothing behind. -/
abbrev Cc (g : FuncId) (ls rs : List Lf) : Prop := ∀ H, CallL cc sgTab g ls H rs H

theorem fn_ok {f : FuncId} {fn : Fn1} (hi : FnIs (xc f) sgTab f fn) {ls : List Lf} {H : List HObj} {K : List Lf → List HObj → Prop} (hls : goodLs ls = true)
    (h : execF P1 (xc f) sgTab drN fn ls H K) : ∃ rs H', CallL cc sgTab f ls H rs H' ∧ K rs H' := by
  obtain ⟨rs, h', a1, _, a3⟩ := execF_ok (X := xc f) (holds := id) (abs := id) (PA_ok cc sgTab siteTab) (fun pts ops h n σ σ' hx => dr_ok neuN_ok pts ops h n σ σ' hx) hi (goodLs_ok hls) h
  exact ⟨rs, h', a1, a3⟩
/-- The rules, here. -/
def qxs := pxs cc sgTab siteTab
/-- The rules, here. -/
def qxc := pxc cc sgTab siteTab
/-- The rules, here. -/
def qxa := pxa cc sgTab siteTab
end Go.Am

/-
  THE FUNCTIONS OVER THE ALGEBRA OF PROPOSITIONS, BY PROGRAM.
-/
set_option maxRecDepth 100000
namespace Go.Am
open Sx Go.Proofs

/-- crimp/crimplaw03.CellsBetween -/
def p13 (A : Alg Prop (List HObj)) (ls : List Lf) (h : List HObj) (K : List Lf → List HObj → Prop) : Prop := A.unI ls (@hid _ ⟨fun n6 l7 => A.unI l7 (@hid _ ⟨fun n8 l9 => A.unI l9 (@hid _ ⟨fun n10 l11 => A.unI l11 (@hid _ ⟨fun n12 l13 => A.unI l13 (@hid _ ⟨fun n14 l15 => A.unI l15 (@hid _ ⟨fun n16 l17 => A.un0 l17 (@hid _ ⟨A.call 55 [(.i n6), (.i n8), (.i n10), (.i n12), (.i n14), (.i n16)] h (@hid _ ⟨fun l18 h19 => A.unI l18 (@hid _ ⟨fun n20 l21 => A.unI l21 (@hid _ ⟨fun n22 l23 => A.unI l23 (@hid _ ⟨fun n24 l25 => A.unI l25 (@hid _ ⟨fun n26 l27 => A.un0 l27 (@hid _ ⟨A.call 42 [(.i n6), (.i n8), (.i n10)] h19 (@hid _ ⟨fun l28 h29 => A.unI l28 (@hid _ ⟨fun n30 l31 => A.un0 l31 (@hid _ ⟨A.cmp .eql n30 0 (@hid _ ⟨fun t32 => A.cond t32 (@hid _ ⟨A.join (@hid _ ⟨fun l33 h34 => A.unB l33 (@hid _ ⟨fun t35 l36 => A.un0 l36 (@hid _ ⟨K [(.b t35)] h34⟩)⟩)⟩) (@hid _ ⟨fun j37 => A.cmp .eql n26 1 (@hid _ ⟨fun t38 => A.cond t38 (@hid _ ⟨A.eqs [((.i n20), (.i 0)), ((.i n22), (.i 0)), ((.i n24), (.i 0))] (@hid _ ⟨fun t39 => A.cond t39 (@hid _ ⟨A.call 44 [] h29 (@hid _ ⟨fun l40 h41 => A.unB l40 (@hid _ ⟨fun t42 l43 => A.un0 l43 (@hid _ ⟨j37 [(.b t42)] h41⟩)⟩)⟩)⟩) (@hid _ ⟨j37 [(.b false)] h29⟩)⟩)⟩) (@hid _ ⟨j37 [(.b false)] h29⟩)⟩)⟩)⟩) (@hid _ ⟨A.call 42 [(.i n12), (.i n14), (.i n16)] h29 (@hid _ ⟨fun l44 h45 => A.unI l44 (@hid _ ⟨fun n46 l47 => A.un0 l47 (@hid _ ⟨A.cmp .eql n46 0 (@hid _ ⟨fun t48 => A.cond t48 (@hid _ ⟨A.join (@hid _ ⟨fun l49 h50 => A.unB l49 (@hid _ ⟨fun t51 l52 => A.un0 l52 (@hid _ ⟨K [(.b t51)] h50⟩)⟩)⟩) (@hid _ ⟨fun j53 => A.cmp .eql n26 1 (@hid _ ⟨fun t54 => A.cond t54 (@hid _ ⟨A.eqs [((.i n20), (.i 0)), ((.i n22), (.i 0)), ((.i n24), (.i 0))] (@hid _ ⟨fun t55 => A.cond t55 (@hid _ ⟨A.call 44 [] h45 (@hid _ ⟨fun l56 h57 => A.unB l56 (@hid _ ⟨fun t58 l59 => A.un0 l59 (@hid _ ⟨j53 [(.b t58)] h57⟩)⟩)⟩)⟩) (@hid _ ⟨j53 [(.b false)] h45⟩)⟩)⟩) (@hid _ ⟨j53 [(.b false)] h45⟩)⟩)⟩)⟩) (@hid _ ⟨A.call 56 [(.i n6), (.i n8), (.i n10), (.i n12), (.i n14), (.i n16)] h45 (@hid _ ⟨fun l60 h61 => A.unI l60 (@hid _ ⟨fun n62 l63 => A.unI l63 (@hid _ ⟨fun n64 l65 => A.unI l65 (@hid _ ⟨fun n66 l67 => A.unI l67 (@hid _ ⟨fun n68 l69 => A.un0 l69 (@hid _ ⟨A.call 52 [(.i n20), (.i n22), (.i n24), (.i n6), (.i n8), (.i n10)] h61 (@hid _ ⟨fun l70 h71 => A.unI l70 (@hid _ ⟨fun n72 l73 => A.unI l73 (@hid _ ⟨fun n74 l75 => A.unI l75 (@hid _ ⟨fun n76 l77 => A.unI l77 (@hid _ ⟨fun n78 l79 => A.un0 l79 (@hid _ ⟨A.join (@hid _ ⟨fun l80 h81 => A.unB l80 (@hid _ ⟨fun t82 l83 => A.un0 l83 (@hid _ ⟨K [(.b t82)] h81⟩)⟩)⟩) (@hid _ ⟨fun j84 => A.cmp .eql n26 0 (@hid _ ⟨fun t85 => A.cond t85 (@hid _ ⟨A.cmp .eql n68 1 (@hid _ ⟨fun t86 => A.cond t86 (@hid _ ⟨A.eqs [((.i n20), (.i n62)), ((.i n22), (.i n64)), ((.i n24), (.i n66))] (@hid _ ⟨fun t87 => A.cond t87 (@hid _ ⟨A.cmp .eql n78 0 (@hid _ ⟨fun t88 => A.cond t88 (@hid _ ⟨A.eqs [((.i n72), (.i n12)), ((.i n74), (.i n14)), ((.i n76), (.i n16))] (@hid _ ⟨fun t89 => A.cond t89 (@hid _ ⟨A.call 44 [] h71 (@hid _ ⟨fun l90 h91 => A.unB l90 (@hid _ ⟨fun t92 l93 => A.un0 l93 (@hid _ ⟨j84 [(.b t92)] h91⟩)⟩)⟩)⟩) (@hid _ ⟨j84 [(.b false)] h71⟩)⟩)⟩) (@hid _ ⟨j84 [(.b false)] h71⟩)⟩)⟩) (@hid _ ⟨j84 [(.b false)] h71⟩)⟩)⟩) (@hid _ ⟨j84 [(.b false)] h71⟩)⟩)⟩) (@hid _ ⟨j84 [(.b false)] h71⟩)⟩)⟩)⟩)⟩)⟩)⟩)⟩)⟩)⟩)⟩)⟩)⟩)⟩)⟩)⟩)⟩)⟩)⟩)⟩)⟩)⟩)⟩)⟩)⟩)⟩)⟩)⟩)⟩)⟩)⟩)⟩)⟩)⟩)⟩)⟩)⟩)⟩)
theorem g13 : (fun A : Alg Prop (List HObj) => p13 A) = fun A => f13 A := by kernel_rfl
theorem h13 (ls : List Lf) (H : List HObj) (K : List Lf → List HObj → Prop) : p13 P1 ls H K = execF P1 (xc 13) sgTab drN n13 ls H K :=
  congrFun (congrFun (congrFun ((congrFun g13 P1).trans (congrFun (congrFun (congrFun e13 Prop) (List HObj)) P1)) ls) H) K
theorem u13 {ls : List Lf} {H : List HObj} {K : List Lf → List HObj → Prop} (hls : goodLs ls = true) (h : p13 P1 ls H K) : ∃ rs H', CallL cc sgTab 13 ls H rs H' ∧ K rs H' :=
  fn_ok i13 hls (h13 ls H K ▸ h)
theorem q13 {ls rs : List Lf} (hls : goodLs ls = true) (h : p13 P1 ls [] fun rs' _ => rs' = rs) : Cc 13 ls rs := by
  obtain ⟨_, _, h1, rfl⟩ := u13 hls h
  exact ct_of mixed gl_flat (sg := ⟨[.agg [.i .i64, .i .i64, .i .u8], .agg [.i .i64, .i .i64, .i .u8]], [lb]⟩) rfl (by kernel_rfl) h1
/-- crimp/crimpref03.Valid -/
def p42 (A : Alg Prop (List HObj)) (ls : List Lf) (h : List HObj) (K : List Lf → List HObj → Prop) : Prop := A.unI ls (@hid _ ⟨fun n6 l7 => A.unI l7 (@hid _ ⟨fun n8 l9 => A.unI l9 (@hid _ ⟨fun n10 l11 => A.un0 l11 (@hid _ ⟨A.cmp .lss n6 (-4096) (@hid _ ⟨fun t12 => A.cond t12 (@hid _ ⟨K [(.i 0)] h⟩) (@hid _ ⟨A.cmp .gtr n6 4096 (@hid _ ⟨fun t13 => A.cond t13 (@hid _ ⟨K [(.i 0)] h⟩) (@hid _ ⟨A.cmp .lss n8 (-4096) (@hid _ ⟨fun t14 => A.cond t14 (@hid _ ⟨K [(.i 0)] h⟩) (@hid _ ⟨A.cmp .gtr n8 4096 (@hid _ ⟨fun t15 => A.cond t15 (@hid _ ⟨K [(.i 0)] h⟩) (@hid _ ⟨A.cmp .gtr n10 3 (@hid _ ⟨fun t16 => A.cond t16 (@hid _ ⟨K [(.i 0)] h⟩) (@hid _ ⟨K [(.i 1)] h⟩)⟩)⟩)⟩)⟩)⟩)⟩)⟩)⟩)⟩)⟩)⟩)⟩)⟩)
theorem g42 : (fun A : Alg Prop (List HObj) => p42 A) = fun A => f42 A := by kernel_rfl
theorem h42 (ls : List Lf) (H : List HObj) (K : List Lf → List HObj → Prop) : p42 P1 ls H K = execF P1 (xc 42) sgTab drN n42 ls H K :=
  congrFun (congrFun (congrFun ((congrFun g42 P1).trans (congrFun (congrFun (congrFun e42 Prop) (List HObj)) P1)) ls) H) K
theorem u42 {ls : List Lf} {H : List HObj} {K : List Lf → List HObj → Prop} (hls : goodLs ls = true) (h : p42 P1 ls H K) : ∃ rs H', CallL cc sgTab 42 ls H rs H' ∧ K rs H' :=
  fn_ok i42 hls (h42 ls H K ▸ h)
theorem q42 {ls rs : List Lf} (hls : goodLs ls = true) (h : p42 P1 ls [] fun rs' _ => rs' = rs) : Cc 42 ls rs := by
  obtain ⟨_, _, h1, rfl⟩ := u42 hls h
  exact ct_of mixed gl_flat (sg := ⟨[.agg [.i .i64, .i .i64, .i .u8]], [li]⟩) rfl (by kernel_rfl) h1
/-- crimp/cells.Check -/
def p43 (A : Alg Prop (List HObj)) (ls : List Lf) (h : List HObj) (K : List Lf → List HObj → Prop) : Prop := A.unI ls (@hid _ ⟨fun n6 l7 => A.unI l7 (@hid _ ⟨fun n8 l9 => A.unI l9 (@hid _ ⟨fun n10 l11 => A.un0 l11 (@hid _ ⟨A.cmp .lss n6 (-4096) (@hid _ ⟨fun t12 => A.cond t12 (@hid _ ⟨K [(.i 1)] h⟩) (@hid _ ⟨A.cmp .gtr n6 4096 (@hid _ ⟨fun t13 => A.cond t13 (@hid _ ⟨K [(.i 1)] h⟩) (@hid _ ⟨A.cmp .lss n8 (-4096) (@hid _ ⟨fun t14 => A.cond t14 (@hid _ ⟨K [(.i 1)] h⟩) (@hid _ ⟨A.cmp .gtr n8 4096 (@hid _ ⟨fun t15 => A.cond t15 (@hid _ ⟨K [(.i 1)] h⟩) (@hid _ ⟨A.cmp .gtr n10 3 (@hid _ ⟨fun t16 => A.cond t16 (@hid _ ⟨K [(.i 1)] h⟩) (@hid _ ⟨K [(.i 0)] h⟩)⟩)⟩)⟩)⟩)⟩)⟩)⟩)⟩)⟩)⟩)⟩)⟩)⟩)
theorem g43 : (fun A : Alg Prop (List HObj) => p43 A) = fun A => f43 A := by kernel_rfl
theorem h43 (ls : List Lf) (H : List HObj) (K : List Lf → List HObj → Prop) : p43 P1 ls H K = execF P1 (xc 43) sgTab drN n43 ls H K :=
  congrFun (congrFun (congrFun ((congrFun g43 P1).trans (congrFun (congrFun (congrFun e43 Prop) (List HObj)) P1)) ls) H) K
theorem u43 {ls : List Lf} {H : List HObj} {K : List Lf → List HObj → Prop} (hls : goodLs ls = true) (h : p43 P1 ls H K) : ∃ rs H', CallL cc sgTab 43 ls H rs H' ∧ K rs H' :=
  fn_ok i43 hls (h43 ls H K ▸ h)
theorem q43 {ls rs : List Lf} (hls : goodLs ls = true) (h : p43 P1 ls [] fun rs' _ => rs' = rs) : Cc 43 ls rs := by
  obtain ⟨_, _, h1, rfl⟩ := u43 hls h
  exact ct_of mixed gl_flat (sg := ⟨[.agg [.i .i64, .i .i64, .i .u8]], [li]⟩) rfl (by kernel_rfl) h1
/-- crimp/crimpref03.Corners -/
def p45 (A : Alg Prop (List HObj)) (ls : List Lf) (h : List HObj) (K : List Lf → List HObj → Prop) : Prop := A.unI ls (@hid _ ⟨fun n6 l7 => A.unI l7 (@hid _ ⟨fun n8 l9 => A.unI l9 (@hid _ ⟨fun n10 l11 => A.un0 l11 (@hid _ ⟨A.ari .mul .i64 2 n6 (@hid _ ⟨fun n12 => A.ari .mul .i64 2 n8 (@hid _ ⟨fun n13 => A.ari .add .i64 n12 2 (@hid _ ⟨fun n14 => A.ari .add .i64 n12 2 (@hid _ ⟨fun n15 => A.ari .add .i64 n13 2 (@hid _ ⟨fun n16 => A.ari .add .i64 n13 2 (@hid _ ⟨fun n17 => A.conv .i64 n10 (@hid _ ⟨fun n18 => A.conv .i64 n10 (@hid _ ⟨fun n19 => A.ari .add .i64 n19 1 (@hid _ ⟨fun n20 => A.ari .rem .i64 n20 4 (@hid _ ⟨fun n21 => A.ari .rem .i64 n18 2 (@hid _ ⟨fun n22 => A.cmp .eql n22 1 (@hid _ ⟨fun t23 => A.join (@hid _ ⟨fun l24 h25 => A.unI l24 (@hid _ ⟨fun n26 l27 => A.unI l27 (@hid _ ⟨fun n28 l29 => A.un0 l29 (@hid _ ⟨A.ari .add .i64 n12 1 (@hid _ ⟨fun n30 => A.ari .add .i64 n13 1 (@hid _ ⟨fun n31 => A.opt (inB 4 n26) (@hid _ ⟨fun x32 => A.opt (pickL [(.i n12), (.i n13), (.i n14), (.i n13), (.i n15), (.i n16), (.i n12), (.i n17)] 0 [(n26, 2)] 2) (@hid _ ⟨fun x33 => A.unI x33 (@hid _ ⟨fun n34 l35 => A.unI l35 (@hid _ ⟨fun n36 l37 => A.un0 l37 (@hid _ ⟨A.opt (inB 4 n28) (@hid _ ⟨fun x38 => A.opt (pickL [(.i n12), (.i n13), (.i n14), (.i n13), (.i n15), (.i n16), (.i n12), (.i n17)] 0 [(n28, 2)] 2) (@hid _ ⟨fun x39 => A.unI x39 (@hid _ ⟨fun n40 l41 => A.unI l41 (@hid _ ⟨fun n42 l43 => A.un0 l43 (@hid _ ⟨K [(.i n30), (.i n31), (.i n34), (.i n36), (.i n40), (.i n42)] h25⟩)⟩)⟩)⟩)⟩)⟩)⟩)⟩)⟩)⟩)⟩)⟩)⟩)⟩)⟩)⟩) (@hid _ ⟨fun j44 => A.cond t23 (@hid _ ⟨j44 [(.i n21), (.i n18)] h⟩) (@hid _ ⟨j44 [(.i n18), (.i n21)] h⟩)⟩)⟩)⟩)⟩)⟩)⟩)⟩)⟩)⟩)⟩)⟩)⟩)⟩)⟩)⟩)⟩)⟩)
theorem g45 : (fun A : Alg Prop (List HObj) => p45 A) = fun A => f45 A := by kernel_rfl
theorem h45 (ls : List Lf) (H : List HObj) (K : List Lf → List HObj → Prop) : p45 P1 ls H K = execF P1 (xc 45) sgTab drN n45 ls H K :=
  congrFun (congrFun (congrFun ((congrFun g45 P1).trans (congrFun (congrFun (congrFun e45 Prop) (List HObj)) P1)) ls) H) K
theorem u45 {ls : List Lf} {H : List HObj} {K : List Lf → List HObj → Prop} (hls : goodLs ls = true) (h : p45 P1 ls H K) : ∃ rs H', CallL cc sgTab 45 ls H rs H' ∧ K rs H' :=
  fn_ok i45 hls (h45 ls H K ▸ h)
theorem q45 {ls rs : List Lf} (hls : goodLs ls = true) (h : p45 P1 ls [] fun rs' _ => rs' = rs) : Cc 45 ls rs := by
  obtain ⟨_, _, h1, rfl⟩ := u45 hls h
  exact ct_of mixed gl_flat (sg := ⟨[.agg [.i .i64, .i .i64, .i .u8]], [.agg [.i .i64, .i .i64, .i .i64, .i .i64, .i .i64, .i .i64]]⟩) rfl (by kernel_rfl) h1
/-- crimp/cells.Move -/
def p52 (A : Alg Prop (List HObj)) (ls : List Lf) (h : List HObj) (K : List Lf → List HObj → Prop) : Prop := A.unI ls (@hid _ ⟨fun n6 l7 => A.unI l7 (@hid _ ⟨fun n8 l9 => A.unI l9 (@hid _ ⟨fun n10 l11 => A.unI l11 (@hid _ ⟨fun n12 l13 => A.unI l13 (@hid _ ⟨fun n14 l15 => A.unI l15 (@hid _ ⟨fun n16 l17 => A.un0 l17 (@hid _ ⟨A.call 79 [(.i n6), (.i n8), (.i n10)] h (@hid _ ⟨fun l18 h19 => A.unI l18 (@hid _ ⟨fun n20 l21 => A.un0 l21 (@hid _ ⟨A.cmp .neq n20 0 (@hid _ ⟨fun t22 => A.cond t22 (@hid _ ⟨K [(.i 0), (.i 0), (.i 0), (.i 1)] h19⟩) (@hid _ ⟨A.call 43 [(.i n12), (.i n14), (.i n16)] h19 (@hid _ ⟨fun l23 h24 => A.unI l23 (@hid _ ⟨fun n25 l26 => A.un0 l26 (@hid _ ⟨A.cmp .neq n25 0 (@hid _ ⟨fun t27 => A.cond t27 (@hid _ ⟨K [(.i 0), (.i 0), (.i 0), (.i 1)] h24⟩) (@hid _ ⟨A.call 80 [(.i n6), (.i n8), (.i n10), (.i n12), (.i n14), (.i n16)] h24 (@hid _ ⟨fun l28 h29 => A.unI l28 (@hid _ ⟨fun n30 l31 => A.unI l31 (@hid _ ⟨fun n32 l33 => A.unI l33 (@hid _ ⟨fun n34 l35 => A.un0 l35 (@hid _ ⟨A.call 43 [(.i n30), (.i n32), (.i n34)] h29 (@hid _ ⟨fun l36 h37 => A.unI l36 (@hid _ ⟨fun n38 l39 => A.un0 l39 (@hid _ ⟨A.cmp .neq n38 0 (@hid _ ⟨fun t40 => A.cond t40 (@hid _ ⟨K [(.i 0), (.i 0), (.i 0), (.i 3)] h37⟩) (@hid _ ⟨K [(.i n30), (.i n32), (.i n34), (.i 0)] h37⟩)⟩)⟩)⟩)⟩)⟩)⟩)⟩)⟩)⟩)⟩)⟩)⟩)⟩)⟩)⟩)⟩)⟩)⟩)⟩)⟩)⟩)⟩)⟩)⟩)⟩)⟩)
theorem g52 : (fun A : Alg Prop (List HObj) => p52 A) = fun A => f52 A := by kernel_rfl
theorem h52 (ls : List Lf) (H : List HObj) (K : List Lf → List HObj → Prop) : p52 P1 ls H K = execF P1 (xc 52) sgTab drN n52 ls H K :=
  congrFun (congrFun (congrFun ((congrFun g52 P1).trans (congrFun (congrFun (congrFun e52 Prop) (List HObj)) P1)) ls) H) K
theorem u52 {ls : List Lf} {H : List HObj} {K : List Lf → List HObj → Prop} (hls : goodLs ls = true) (h : p52 P1 ls H K) : ∃ rs H', CallL cc sgTab 52 ls H rs H' ∧ K rs H' :=
  fn_ok i52 hls (h52 ls H K ▸ h)
theorem q52 {ls rs : List Lf} (hls : goodLs ls = true) (h : p52 P1 ls [] fun rs' _ => rs' = rs) : Cc 52 ls rs := by
  obtain ⟨_, _, h1, rfl⟩ := u52 hls h
  exact ct_of mixed gl_flat (sg := ⟨[.agg [.i .u8, .i .i64, .i .i64], .agg [.i .i64, .i .i64, .i .u8]], [.agg [.i .i64, .i .i64, .i .u8], li]⟩) rfl (by kernel_rfl) h1
/-- crimp/crimpref02.Valid -/
def p53 (A : Alg Prop (List HObj)) (ls : List Lf) (h : List HObj) (K : List Lf → List HObj → Prop) : Prop := A.unI ls (@hid _ ⟨fun n6 l7 => A.unI l7 (@hid _ ⟨fun n8 l9 => A.unI l9 (@hid _ ⟨fun n10 l11 => A.un0 l11 (@hid _ ⟨A.cmp .gtr n6 7 (@hid _ ⟨fun t12 => A.cond t12 (@hid _ ⟨K [(.i 0)] h⟩) (@hid _ ⟨A.cmp .lss n8 (-16384) (@hid _ ⟨fun t13 => A.cond t13 (@hid _ ⟨K [(.i 0)] h⟩) (@hid _ ⟨A.cmp .gtr n8 16384 (@hid _ ⟨fun t14 => A.cond t14 (@hid _ ⟨K [(.i 0)] h⟩) (@hid _ ⟨A.cmp .lss n10 (-16384) (@hid _ ⟨fun t15 => A.cond t15 (@hid _ ⟨K [(.i 0)] h⟩) (@hid _ ⟨A.cmp .gtr n10 16384 (@hid _ ⟨fun t16 => A.cond t16 (@hid _ ⟨K [(.i 0)] h⟩) (@hid _ ⟨A.ari .sub .i64 n8 n10 (@hid _ ⟨fun n17 => A.ari .rem .i64 n17 2 (@hid _ ⟨fun n18 => A.cmp .neq n18 0 (@hid _ ⟨fun t19 => A.cond t19 (@hid _ ⟨K [(.i 0)] h⟩) (@hid _ ⟨K [(.i 1)] h⟩)⟩)⟩)⟩)⟩)⟩)⟩)⟩)⟩)⟩)⟩)⟩)⟩)⟩)⟩)⟩)⟩)⟩)
theorem g53 : (fun A : Alg Prop (List HObj) => p53 A) = fun A => f53 A := by kernel_rfl
theorem h53 (ls : List Lf) (H : List HObj) (K : List Lf → List HObj → Prop) : p53 P1 ls H K = execF P1 (xc 53) sgTab drN n53 ls H K :=
  congrFun (congrFun (congrFun ((congrFun g53 P1).trans (congrFun (congrFun (congrFun e53 Prop) (List HObj)) P1)) ls) H) K
theorem u53 {ls : List Lf} {H : List HObj} {K : List Lf → List HObj → Prop} (hls : goodLs ls = true) (h : p53 P1 ls H K) : ∃ rs H', CallL cc sgTab 53 ls H rs H' ∧ K rs H' :=
  fn_ok i53 hls (h53 ls H K ▸ h)
theorem q53 {ls rs : List Lf} (hls : goodLs ls = true) (h : p53 P1 ls [] fun rs' _ => rs' = rs) : Cc 53 ls rs := by
  obtain ⟨_, _, h1, rfl⟩ := u53 hls h
  exact ct_of mixed gl_flat (sg := ⟨[.agg [.i .u8, .i .i64, .i .i64]], [li]⟩) rfl (by kernel_rfl) h1
/-- crimp/crimpref03.Move -/
def p54 (A : Alg Prop (List HObj)) (ls : List Lf) (h : List HObj) (K : List Lf → List HObj → Prop) : Prop := A.unI ls (@hid _ ⟨fun n6 l7 => A.unI l7 (@hid _ ⟨fun n8 l9 => A.unI l9 (@hid _ ⟨fun n10 l11 => A.unI l11 (@hid _ ⟨fun n12 l13 => A.unI l13 (@hid _ ⟨fun n14 l15 => A.unI l15 (@hid _ ⟨fun n16 l17 => A.un0 l17 (@hid _ ⟨A.call 45 [(.i n12), (.i n14), (.i n16)] h (@hid _ ⟨fun l18 h19 => A.unI l18 (@hid _ ⟨fun n20 l21 => A.unI l21 (@hid _ ⟨fun n22 l23 => A.unI l23 (@hid _ ⟨fun n24 l25 => A.unI l25 (@hid _ ⟨fun n26 l27 => A.unI l27 (@hid _ ⟨fun n28 l29 => A.unI l29 (@hid _ ⟨fun n30 l31 => A.un0 l31 (@hid _ ⟨A.loop (@hid _ ⟨fun s32 l33 h34 => A.unI l33 (@hid _ ⟨fun n35 l36 => A.unI l36 (@hid _ ⟨fun n37 l38 => A.unI l38 (@hid _ ⟨fun n39 l40 => A.unI l40 (@hid _ ⟨fun n41 l42 => A.unI l42 (@hid _ ⟨fun n43 l44 => A.unI l44 (@hid _ ⟨fun n45 l46 => A.unI l46 (@hid _ ⟨fun n47 l48 => A.un0 l48 (@hid _ ⟨A.cmp .lss n35 3 (@hid _ ⟨fun t49 => A.cond t49 (@hid _ ⟨A.opt (inB 3 n35) (@hid _ ⟨fun x50 => A.opt (pickL [(.i n37), (.i n39), (.i n41), (.i n43), (.i n45), (.i n47)] 0 [(n35, 2)] 2) (@hid _ ⟨fun x51 => A.unI x51 (@hid _ ⟨fun n52 l53 => A.unI l53 (@hid _ ⟨fun n54 l55 => A.un0 l55 (@hid _ ⟨A.call 81 [(.i n6), (.i n8), (.i n10), (.i n52), (.i n54)] h34 (@hid _ ⟨fun l56 h57 => A.unI l56 (@hid _ ⟨fun n58 l59 => A.unI l59 (@hid _ ⟨fun n60 l61 => A.un0 l61 (@hid _ ⟨A.opt (inB 3 n35) (@hid _ ⟨fun x62 => A.opt (putL [(.i n37), (.i n39), (.i n41), (.i n43), (.i n45), (.i n47)] 0 [(n35, 2)] [(.i n58), (.i n60)]) (@hid _ ⟨fun x63 => A.unI x63 (@hid _ ⟨fun n64 l65 => A.unI l65 (@hid _ ⟨fun n66 l67 => A.unI l67 (@hid _ ⟨fun n68 l69 => A.unI l69 (@hid _ ⟨fun n70 l71 => A.unI l71 (@hid _ ⟨fun n72 l73 => A.unI l73 (@hid _ ⟨fun n74 l75 => A.un0 l75 (@hid _ ⟨A.ari .add .i64 n35 1 (@hid _ ⟨fun n76 => s32 [(.i n76), (.i n64), (.i n66), (.i n68), (.i n70), (.i n72), (.i n74)] h57⟩)⟩)⟩)⟩)⟩)⟩)⟩)⟩)⟩)⟩)⟩)⟩)⟩)⟩)⟩)⟩)⟩)⟩)⟩)⟩) (@hid _ ⟨A.call 77 [(.i n37), (.i n39), (.i n41), (.i n43), (.i n45), (.i n47)] h34 (@hid _ ⟨fun l77 h78 => A.unI l77 (@hid _ ⟨fun n79 l80 => A.unI l80 (@hid _ ⟨fun n81 l82 => A.unI l82 (@hid _ ⟨fun n83 l84 => A.un0 l84 (@hid _ ⟨K [(.i n79), (.i n81), (.i n83)] h78⟩)⟩)⟩)⟩)⟩)⟩)⟩)⟩)⟩)⟩)⟩)⟩)⟩)⟩)⟩)⟩) [(.i 0), (.i n20), (.i n22), (.i n24), (.i n26), (.i n28), (.i n30)] h19⟩)⟩)⟩)⟩)⟩)⟩)⟩)⟩)⟩)⟩)⟩)⟩)⟩)⟩)⟩)
theorem g54 : (fun A : Alg Prop (List HObj) => p54 A) = fun A => f54 A := by kernel_rfl
theorem h54 (ls : List Lf) (H : List HObj) (K : List Lf → List HObj → Prop) : p54 P1 ls H K = execF P1 (xc 54) sgTab drN n54 ls H K :=
  congrFun (congrFun (congrFun ((congrFun g54 P1).trans (congrFun (congrFun (congrFun e54 Prop) (List HObj)) P1)) ls) H) K
theorem u54 {ls : List Lf} {H : List HObj} {K : List Lf → List HObj → Prop} (hls : goodLs ls = true) (h : p54 P1 ls H K) : ∃ rs H', CallL cc sgTab 54 ls H rs H' ∧ K rs H' :=
  fn_ok i54 hls (h54 ls H K ▸ h)
theorem q54 {ls rs : List Lf} (hls : goodLs ls = true) (h : p54 P1 ls [] fun rs' _ => rs' = rs) : Cc 54 ls rs := by
  obtain ⟨_, _, h1, rfl⟩ := u54 hls h
  exact ct_of mixed gl_flat (sg := ⟨[.agg [.i .u8, .i .i64, .i .i64], .agg [.i .i64, .i .i64, .i .u8]], [.agg [.i .i64, .i .i64, .i .u8]]⟩) rfl (by kernel_rfl) h1
/-- crimp/cells.Between -/
def p55 (A : Alg Prop (List HObj)) (ls : List Lf) (h : List HObj) (K : List Lf → List HObj → Prop) : Prop := A.unI ls (@hid _ ⟨fun n6 l7 => A.unI l7 (@hid _ ⟨fun n8 l9 => A.unI l9 (@hid _ ⟨fun n10 l11 => A.unI l11 (@hid _ ⟨fun n12 l13 => A.unI l13 (@hid _ ⟨fun n14 l15 => A.unI l15 (@hid _ ⟨fun n16 l17 => A.un0 l17 (@hid _ ⟨A.call 43 [(.i n6), (.i n8), (.i n10)] h (@hid _ ⟨fun l18 h19 => A.unI l18 (@hid _ ⟨fun n20 l21 => A.un0 l21 (@hid _ ⟨A.cmp .neq n20 0 (@hid _ ⟨fun t22 => A.cond t22 (@hid _ ⟨K [(.i 0), (.i 0), (.i 0), (.i 1)] h19⟩) (@hid _ ⟨A.call 43 [(.i n12), (.i n14), (.i n16)] h19 (@hid _ ⟨fun l23 h24 => A.unI l23 (@hid _ ⟨fun n25 l26 => A.un0 l26 (@hid _ ⟨A.cmp .neq n25 0 (@hid _ ⟨fun t27 => A.cond t27 (@hid _ ⟨K [(.i 0), (.i 0), (.i 0), (.i 1)] h24⟩) (@hid _ ⟨A.call 82 [(.i n12), (.i n14), (.i n16)] h24 (@hid _ ⟨fun l28 h29 => A.unI l28 (@hid _ ⟨fun n30 l31 => A.unI l31 (@hid _ ⟨fun n32 l33 => A.un0 l33 (@hid _ ⟨A.loop (@hid _ ⟨fun s34 l35 h36 => A.unI l35 (@hid _ ⟨fun n37 l38 => A.un0 l38 (@hid _ ⟨A.cmp .lss n37 8 (@hid _ ⟨fun t39 => A.cond t39 (@hid _ ⟨A.call 82 [(.i n6), (.i n8), (.i n10)] h36 (@hid _ ⟨fun l40 h41 => A.unI l40 (@hid _ ⟨fun n42 l43 => A.unI l43 (@hid _ ⟨fun n44 l45 => A.un0 l45 (@hid _ ⟨A.call 83 [(.i n37), (.i 0), (.i 0), (.i n42), (.i n44)] h41 (@hid _ ⟨fun l46 h47 => A.unI l46 (@hid _ ⟨fun n48 l49 => A.unI l49 (@hid _ ⟨fun n50 l51 => A.unI l51 (@hid _ ⟨fun n52 l53 => A.un0 l53 (@hid _ ⟨A.ari .sub .i64 n30 n48 (@hid _ ⟨fun n54 => A.ari .quo .i64 n54 2 (@hid _ ⟨fun n55 => A.ari .sub .i64 n32 n50 (@hid _ ⟨fun n56 => A.ari .quo .i64 n56 2 (@hid _ ⟨fun n57 => A.call 79 [(.i n37), (.i n55), (.i n57)] h47 (@hid _ ⟨fun l58 h59 => A.unI l58 (@hid _ ⟨fun n60 l61 => A.un0 l61 (@hid _ ⟨A.cmp .eql n60 0 (@hid _ ⟨fun t62 => A.cond t62 (@hid _ ⟨A.call 80 [(.i n37), (.i n55), (.i n57), (.i n6), (.i n8), (.i n10)] h59 (@hid _ ⟨fun l63 h64 => A.unI l63 (@hid _ ⟨fun n65 l66 => A.unI l66 (@hid _ ⟨fun n67 l68 => A.unI l68 (@hid _ ⟨fun n69 l70 => A.un0 l70 (@hid _ ⟨A.eqs [((.i n65), (.i n12)), ((.i n67), (.i n14)), ((.i n69), (.i n16))] (@hid _ ⟨fun t71 => A.cond t71 (@hid _ ⟨K [(.i n37), (.i n55), (.i n57), (.i 0)] h64⟩) (@hid _ ⟨A.ari .add .u8 n37 1 (@hid _ ⟨fun n72 => s34 [(.i n72)] h64⟩)⟩)⟩)⟩)⟩)⟩)⟩)⟩)⟩) (@hid _ ⟨A.ari .add .u8 n37 1 (@hid _ ⟨fun n73 => s34 [(.i n73)] h59⟩)⟩)⟩)⟩)⟩)⟩)⟩)⟩)⟩)⟩)⟩)⟩)⟩)⟩)⟩)⟩)⟩)⟩)⟩)⟩) (@hid _ ⟨K [(.i 0), (.i 0), (.i 0), (.i 7)] h36⟩)⟩)⟩)⟩)⟩) [(.i 0)] h29⟩)⟩)⟩)⟩)⟩)⟩)⟩)⟩)⟩)⟩)⟩)⟩)⟩)⟩)⟩)⟩)⟩)⟩)⟩)⟩)⟩)
theorem g55 : (fun A : Alg Prop (List HObj) => p55 A) = fun A => f55 A := by kernel_rfl
theorem h55 (ls : List Lf) (H : List HObj) (K : List Lf → List HObj → Prop) : p55 P1 ls H K = execF P1 (xc 55) sgTab drN n55 ls H K :=
  congrFun (congrFun (congrFun ((congrFun g55 P1).trans (congrFun (congrFun (congrFun e55 Prop) (List HObj)) P1)) ls) H) K
theorem u55 {ls : List Lf} {H : List HObj} {K : List Lf → List HObj → Prop} (hls : goodLs ls = true) (h : p55 P1 ls H K) : ∃ rs H', CallL cc sgTab 55 ls H rs H' ∧ K rs H' :=
  fn_ok i55 hls (h55 ls H K ▸ h)
theorem q55 {ls rs : List Lf} (hls : goodLs ls = true) (h : p55 P1 ls [] fun rs' _ => rs' = rs) : Cc 55 ls rs := by
  obtain ⟨_, _, h1, rfl⟩ := u55 hls h
  exact ct_of mixed gl_flat (sg := ⟨[.agg [.i .i64, .i .i64, .i .u8], .agg [.i .i64, .i .i64, .i .u8]], [.agg [.i .u8, .i .i64, .i .i64], li]⟩) rfl (by kernel_rfl) h1
/-- crimp/crimpref03.Between -/
def p56 (A : Alg Prop (List HObj)) (ls : List Lf) (h : List HObj) (K : List Lf → List HObj → Prop) : Prop := A.unI ls (@hid _ ⟨fun n6 l7 => A.unI l7 (@hid _ ⟨fun n8 l9 => A.unI l9 (@hid _ ⟨fun n10 l11 => A.unI l11 (@hid _ ⟨fun n12 l13 => A.unI l13 (@hid _ ⟨fun n14 l15 => A.unI l15 (@hid _ ⟨fun n16 l17 => A.un0 l17 (@hid _ ⟨A.call 45 [(.i n12), (.i n14), (.i n16)] h (@hid _ ⟨fun l18 h19 => A.unI l18 (@hid _ ⟨fun n20 l21 => A.unI l21 (@hid _ ⟨fun n22 l23 => A.unI l23 (@hid _ ⟨fun n24 l25 => A.unI l25 (@hid _ ⟨fun n26 l27 => A.unI l27 (@hid _ ⟨fun n28 l29 => A.unI l29 (@hid _ ⟨fun n30 l31 => A.un0 l31 (@hid _ ⟨A.opt (inB 3 0) (@hid _ ⟨fun x32 => A.opt (pickL [(.i n20), (.i n22), (.i n24), (.i n26), (.i n28), (.i n30)] 0 [(0, 2)] 2) (@hid _ ⟨fun x33 => A.unI x33 (@hid _ ⟨fun n34 l35 => A.unI l35 (@hid _ ⟨fun n36 l37 => A.un0 l37 (@hid _ ⟨A.loop (@hid _ ⟨fun s38 l39 h40 => A.unI l39 (@hid _ ⟨fun n41 l42 => A.unI l42 (@hid _ ⟨fun n43 l44 => A.unI l44 (@hid _ ⟨fun n45 l46 => A.unI l46 (@hid _ ⟨fun n47 l48 => A.unI l48 (@hid _ ⟨fun n49 l50 => A.un0 l50 (@hid _ ⟨A.cmp .lss n43 8 (@hid _ ⟨fun t51 => A.cond t51 (@hid _ ⟨A.call 45 [(.i n6), (.i n8), (.i n10)] h40 (@hid _ ⟨fun l52 h53 => A.unI l52 (@hid _ ⟨fun n54 l55 => A.unI l55 (@hid _ ⟨fun n56 l57 => A.unI l57 (@hid _ ⟨fun n58 l59 => A.unI l59 (@hid _ ⟨fun n60 l61 => A.unI l61 (@hid _ ⟨fun n62 l63 => A.unI l63 (@hid _ ⟨fun n64 l65 => A.un0 l65 (@hid _ ⟨A.opt (inB 3 0) (@hid _ ⟨fun x66 => A.opt (pickL [(.i n54), (.i n56), (.i n58), (.i n60), (.i n62), (.i n64)] 0 [(0, 2)] 2) (@hid _ ⟨fun x67 => A.unI x67 (@hid _ ⟨fun n68 l69 => A.unI l69 (@hid _ ⟨fun n70 l71 => A.un0 l71 (@hid _ ⟨A.call 81 [(.i n43), (.i 0), (.i 0), (.i n68), (.i n70)] h53 (@hid _ ⟨fun l72 h73 => A.unI l72 (@hid _ ⟨fun n74 l75 => A.unI l75 (@hid _ ⟨fun n76 l77 => A.un0 l77 (@hid _ ⟨A.ari .sub .i64 n34 n74 (@hid _ ⟨fun n78 => A.ari .quo .i64 n78 2 (@hid _ ⟨fun n79 => A.ari .sub .i64 n36 n76 (@hid _ ⟨fun n80 => A.ari .quo .i64 n80 2 (@hid _ ⟨fun n81 => A.call 53 [(.i n43), (.i n79), (.i n81)] h73 (@hid _ ⟨fun l82 h83 => A.unI l82 (@hid _ ⟨fun n84 l85 => A.un0 l85 (@hid _ ⟨A.cmp .eql n84 1 (@hid _ ⟨fun t86 => A.cond t86 (@hid _ ⟨A.call 54 [(.i n43), (.i n79), (.i n81), (.i n6), (.i n8), (.i n10)] h83 (@hid _ ⟨fun l87 h88 => A.unI l87 (@hid _ ⟨fun n89 l90 => A.unI l90 (@hid _ ⟨fun n91 l92 => A.unI l92 (@hid _ ⟨fun n93 l94 => A.un0 l94 (@hid _ ⟨A.eqs [((.i n89), (.i n12)), ((.i n91), (.i n14)), ((.i n93), (.i n16))] (@hid _ ⟨fun t95 => A.join (@hid _ ⟨fun l96 h97 => A.unI l96 (@hid _ ⟨fun n98 l99 => A.unI l99 (@hid _ ⟨fun n100 l101 => A.unI l101 (@hid _ ⟨fun n102 l103 => A.unI l103 (@hid _ ⟨fun n104 l105 => A.un0 l105 (@hid _ ⟨A.ari .add .u8 n43 1 (@hid _ ⟨fun n106 => s38 [(.i n98), (.i n106), (.i n100), (.i n102), (.i n104)] h97⟩)⟩)⟩)⟩)⟩)⟩)⟩) (@hid _ ⟨fun j107 => A.cond t95 (@hid _ ⟨A.ari .add .i64 n41 1 (@hid _ ⟨fun n108 => j107 [(.i n108), (.i n43), (.i n79), (.i n81)] h88⟩)⟩) (@hid _ ⟨j107 [(.i n41), (.i n45), (.i n47), (.i n49)] h88⟩)⟩)⟩)⟩)⟩)⟩)⟩)⟩)⟩) (@hid _ ⟨A.ari .add .u8 n43 1 (@hid _ ⟨fun n109 => s38 [(.i n41), (.i n109), (.i n45), (.i n47), (.i n49)] h83⟩)⟩)⟩)⟩)⟩)⟩)⟩)⟩)⟩)⟩)⟩)⟩)⟩)⟩)⟩)⟩)⟩)⟩)⟩)⟩)⟩)⟩)⟩)⟩)⟩)⟩)⟩)⟩) (@hid _ ⟨K [(.i n45), (.i n47), (.i n49), (.i n41)] h40⟩)⟩)⟩)⟩)⟩)⟩)⟩)⟩)⟩) [(.i 0), (.i 0), (.i 0), (.i 0), (.i 0)] h19⟩)⟩)⟩)⟩)⟩)⟩)⟩)⟩)⟩)⟩)⟩)⟩)⟩)⟩)⟩)⟩)⟩)⟩)⟩)⟩)
theorem g56 : (fun A : Alg Prop (List HObj) => p56 A) = fun A => f56 A := by kernel_rfl
theorem h56 (ls : List Lf) (H : List HObj) (K : List Lf → List HObj → Prop) : p56 P1 ls H K = execF P1 (xc 56) sgTab drN n56 ls H K :=
  congrFun (congrFun (congrFun ((congrFun g56 P1).trans (congrFun (congrFun (congrFun e56 Prop) (List HObj)) P1)) ls) H) K
theorem u56 {ls : List Lf} {H : List HObj} {K : List Lf → List HObj → Prop} (hls : goodLs ls = true) (h : p56 P1 ls H K) : ∃ rs H', CallL cc sgTab 56 ls H rs H' ∧ K rs H' :=
  fn_ok i56 hls (h56 ls H K ▸ h)
theorem q56 {ls rs : List Lf} (hls : goodLs ls = true) (h : p56 P1 ls [] fun rs' _ => rs' = rs) : Cc 56 ls rs := by
  obtain ⟨_, _, h1, rfl⟩ := u56 hls h
  exact ct_of mixed gl_flat (sg := ⟨[.agg [.i .i64, .i .i64, .i .u8], .agg [.i .i64, .i .i64, .i .u8]], [.agg [.i .u8, .i .i64, .i .i64], li]⟩) rfl (by kernel_rfl) h1
/-- crimp/crimpref03.With -/
def p77 (A : Alg Prop (List HObj)) (ls : List Lf) (h : List HObj) (K : List Lf → List HObj → Prop) : Prop := A.unI ls (@hid _ ⟨fun n6 l7 => A.unI l7 (@hid _ ⟨fun n8 l9 => A.unI l9 (@hid _ ⟨fun n10 l11 => A.unI l11 (@hid _ ⟨fun n12 l13 => A.unI l13 (@hid _ ⟨fun n14 l15 => A.unI l15 (@hid _ ⟨fun n16 l17 => A.un0 l17 (@hid _ ⟨A.loop (@hid _ ⟨fun s18 l19 h20 => A.unI l19 (@hid _ ⟨fun n21 l22 => A.un0 l22 (@hid _ ⟨A.cmp .lss n21 3 (@hid _ ⟨fun t23 => A.cond t23 (@hid _ ⟨A.join (@hid _ ⟨fun l24 h25 => A.un0 l24 (@hid _ ⟨A.ari .add .i64 n21 1 (@hid _ ⟨fun n26 => s18 [(.i n26)] h25⟩)⟩)⟩) (@hid _ ⟨fun j27 => A.opt (inB 3 n21) (@hid _ ⟨fun x28 => A.opt (pickL [(.i n6), (.i n8), (.i n10), (.i n12), (.i n14), (.i n16)] 0 [(n21, 2)] 2) (@hid _ ⟨fun x29 => A.unI x29 (@hid _ ⟨fun n30 l31 => A.unI l31 (@hid _ ⟨fun n32 l33 => A.un0 l33 (@hid _ ⟨A.ari .add .i64 n21 1 (@hid _ ⟨fun n34 => A.ari .rem .i64 n34 3 (@hid _ ⟨fun n35 => A.opt (inB 3 n35) (@hid _ ⟨fun x36 => A.opt (pickL [(.i n6), (.i n8), (.i n10), (.i n12), (.i n14), (.i n16)] 0 [(n35, 2)] 2) (@hid _ ⟨fun x37 => A.unI x37 (@hid _ ⟨fun n38 l39 => A.unI l39 (@hid _ ⟨fun n40 l41 => A.un0 l41 (@hid _ ⟨A.ari .add .i64 n21 2 (@hid _ ⟨fun n42 => A.ari .rem .i64 n42 3 (@hid _ ⟨fun n43 => A.opt (inB 3 n43) (@hid _ ⟨fun x44 => A.opt (pickL [(.i n6), (.i n8), (.i n10), (.i n12), (.i n14), (.i n16)] 0 [(n43, 2)] 2) (@hid _ ⟨fun x45 => A.unI x45 (@hid _ ⟨fun n46 l47 => A.unI l47 (@hid _ ⟨fun n48 l49 => A.un0 l49 (@hid _ ⟨A.ari .rem .i64 n30 2 (@hid _ ⟨fun n50 => A.cmp .eql n50 0 (@hid _ ⟨fun t51 => A.cond t51 (@hid _ ⟨j27 [] h20⟩) (@hid _ ⟨A.ari .rem .i64 n32 2 (@hid _ ⟨fun n52 => A.cmp .eql n52 0 (@hid _ ⟨fun t53 => A.cond t53 (@hid _ ⟨j27 [] h20⟩) (@hid _ ⟨A.loop (@hid _ ⟨fun s54 l55 h56 => A.unI l55 (@hid _ ⟨fun n57 l58 => A.un0 l58 (@hid _ ⟨A.cmp .lss n57 4 (@hid _ ⟨fun t59 => A.cond t59 (@hid _ ⟨A.ari .sub .i64 n30 1 (@hid _ ⟨fun n60 => A.ari .quo .i64 n60 2 (@hid _ ⟨fun n61 => A.ari .sub .i64 n32 1 (@hid _ ⟨fun n62 => A.ari .quo .i64 n62 2 (@hid _ ⟨fun n63 => A.call 45 [(.i n61), (.i n63), (.i n57)] h56 (@hid _ ⟨fun l64 h65 => A.unI l64 (@hid _ ⟨fun n66 l67 => A.unI l67 (@hid _ ⟨fun n68 l69 => A.unI l69 (@hid _ ⟨fun n70 l71 => A.unI l71 (@hid _ ⟨fun n72 l73 => A.unI l73 (@hid _ ⟨fun n74 l75 => A.unI l75 (@hid _ ⟨fun n76 l77 => A.un0 l77 (@hid _ ⟨A.eqs [((.i n70), (.i n38)), ((.i n72), (.i n40))] (@hid _ ⟨fun t78 => A.cond t78 (@hid _ ⟨A.eqs [((.i n74), (.i n46)), ((.i n76), (.i n48))] (@hid _ ⟨fun t79 => A.cond t79 (@hid _ ⟨K [(.i n61), (.i n63), (.i n57)] h65⟩) (@hid _ ⟨A.eqs [((.i n70), (.i n46)), ((.i n72), (.i n48))] (@hid _ ⟨fun t80 => A.cond t80 (@hid _ ⟨A.eqs [((.i n74), (.i n38)), ((.i n76), (.i n40))] (@hid _ ⟨fun t81 => A.cond t81 (@hid _ ⟨K [(.i n61), (.i n63), (.i n57)] h65⟩) (@hid _ ⟨A.ari .add .u8 n57 1 (@hid _ ⟨fun n82 => s54 [(.i n82)] h65⟩)⟩)⟩)⟩) (@hid _ ⟨A.ari .add .u8 n57 1 (@hid _ ⟨fun n83 => s54 [(.i n83)] h65⟩)⟩)⟩)⟩)⟩)⟩) (@hid _ ⟨A.eqs [((.i n70), (.i n46)), ((.i n72), (.i n48))] (@hid _ ⟨fun t84 => A.cond t84 (@hid _ ⟨A.eqs [((.i n74), (.i n38)), ((.i n76), (.i n40))] (@hid _ ⟨fun t85 => A.cond t85 (@hid _ ⟨K [(.i n61), (.i n63), (.i n57)] h65⟩) (@hid _ ⟨A.ari .add .u8 n57 1 (@hid _ ⟨fun n86 => s54 [(.i n86)] h65⟩)⟩)⟩)⟩) (@hid _ ⟨A.ari .add .u8 n57 1 (@hid _ ⟨fun n87 => s54 [(.i n87)] h65⟩)⟩)⟩)⟩)⟩)⟩)⟩)⟩)⟩)⟩)⟩)⟩)⟩)⟩)⟩)⟩)⟩)⟩) (@hid _ ⟨j27 [] h56⟩)⟩)⟩)⟩)⟩) [(.i 0)] h20⟩)⟩)⟩)⟩)⟩)⟩)⟩)⟩)⟩)⟩)⟩)⟩)⟩)⟩)⟩)⟩)⟩)⟩)⟩)⟩)⟩)⟩)⟩)⟩)⟩)⟩)⟩) (@hid _ ⟨K [(.i 0), (.i 0), (.i 4)] h20⟩)⟩)⟩)⟩)⟩) [(.i 0)] h⟩)⟩)⟩)⟩)⟩)⟩)⟩)
theorem g77 : (fun A : Alg Prop (List HObj) => p77 A) = fun A => f77 A := by kernel_rfl
theorem h77 (ls : List Lf) (H : List HObj) (K : List Lf → List HObj → Prop) : p77 P1 ls H K = execF P1 (xc 77) sgTab drN n77 ls H K :=
  congrFun (congrFun (congrFun ((congrFun g77 P1).trans (congrFun (congrFun (congrFun e77 Prop) (List HObj)) P1)) ls) H) K
theorem u77 {ls : List Lf} {H : List HObj} {K : List Lf → List HObj → Prop} (hls : goodLs ls = true) (h : p77 P1 ls H K) : ∃ rs H', CallL cc sgTab 77 ls H rs H' ∧ K rs H' :=
  fn_ok i77 hls (h77 ls H K ▸ h)
theorem q77 {ls rs : List Lf} (hls : goodLs ls = true) (h : p77 P1 ls [] fun rs' _ => rs' = rs) : Cc 77 ls rs := by
  obtain ⟨_, _, h1, rfl⟩ := u77 hls h
  exact ct_of mixed gl_flat (sg := ⟨[.agg [.i .i64, .i .i64, .i .i64, .i .i64, .i .i64, .i .i64]], [.agg [.i .i64, .i .i64, .i .u8]]⟩) rfl (by kernel_rfl) h1
/-- crimp/moves.Check -/
def p79 (A : Alg Prop (List HObj)) (ls : List Lf) (h : List HObj) (K : List Lf → List HObj → Prop) : Prop := A.unI ls (@hid _ ⟨fun n6 l7 => A.unI l7 (@hid _ ⟨fun n8 l9 => A.unI l9 (@hid _ ⟨fun n10 l11 => A.un0 l11 (@hid _ ⟨A.conv .i64 n6 (@hid _ ⟨fun n12 => A.cmp .geq n12 8 (@hid _ ⟨fun t13 => A.cond t13 (@hid _ ⟨K [(.i 1)] h⟩) (@hid _ ⟨A.call 92 [(.i n8)] h (@hid _ ⟨fun l14 h15 => A.unB l14 (@hid _ ⟨fun t16 l17 => A.un0 l17 (@hid _ ⟨A.cond t16 (@hid _ ⟨K [(.i 1)] h15⟩) (@hid _ ⟨A.call 92 [(.i n10)] h15 (@hid _ ⟨fun l18 h19 => A.unB l18 (@hid _ ⟨fun t20 l21 => A.un0 l21 (@hid _ ⟨A.cond t20 (@hid _ ⟨K [(.i 1)] h19⟩) (@hid _ ⟨A.ari .add .i64 n8 n10 (@hid _ ⟨fun n22 => A.ari .rem .i64 n22 2 (@hid _ ⟨fun n23 => A.cmp .neq n23 0 (@hid _ ⟨fun t24 => A.cond t24 (@hid _ ⟨K [(.i 1)] h19⟩) (@hid _ ⟨K [(.i 0)] h19⟩)⟩)⟩)⟩)⟩)⟩)⟩)⟩)⟩)⟩)⟩)⟩)⟩)⟩)⟩)⟩)⟩)⟩)⟩)
theorem g79 : (fun A : Alg Prop (List HObj) => p79 A) = fun A => f79 A := by kernel_rfl
theorem h79 (ls : List Lf) (H : List HObj) (K : List Lf → List HObj → Prop) : p79 P1 ls H K = execF P1 (xc 79) sgTab drN n79 ls H K :=
  congrFun (congrFun (congrFun ((congrFun g79 P1).trans (congrFun (congrFun (congrFun e79 Prop) (List HObj)) P1)) ls) H) K
theorem u79 {ls : List Lf} {H : List HObj} {K : List Lf → List HObj → Prop} (hls : goodLs ls = true) (h : p79 P1 ls H K) : ∃ rs H', CallL cc sgTab 79 ls H rs H' ∧ K rs H' :=
  fn_ok i79 hls (h79 ls H K ▸ h)
theorem q79 {ls rs : List Lf} (hls : goodLs ls = true) (h : p79 P1 ls [] fun rs' _ => rs' = rs) : Cc 79 ls rs := by
  obtain ⟨_, _, h1, rfl⟩ := u79 hls h
  exact ct_of mixed gl_flat (sg := ⟨[.agg [.i .u8, .i .i64, .i .i64]], [li]⟩) rfl (by kernel_rfl) h1
/-- crimp/cells.moved -/
def p80 (A : Alg Prop (List HObj)) (ls : List Lf) (h : List HObj) (K : List Lf → List HObj → Prop) : Prop := A.unI ls (@hid _ ⟨fun n6 l7 => A.unI l7 (@hid _ ⟨fun n8 l9 => A.unI l9 (@hid _ ⟨fun n10 l11 => A.unI l11 (@hid _ ⟨fun n12 l13 => A.unI l13 (@hid _ ⟨fun n14 l15 => A.unI l15 (@hid _ ⟨fun n16 l17 => A.un0 l17 (@hid _ ⟨A.call 82 [(.i n12), (.i n14), (.i n16)] h (@hid _ ⟨fun l18 h19 => A.unI l18 (@hid _ ⟨fun n20 l21 => A.unI l21 (@hid _ ⟨fun n22 l23 => A.un0 l23 (@hid _ ⟨A.opt (inB 4 n16) (@hid _ ⟨fun x24 => A.opt (pickV gl0 0 [(n16, 17)] 2) (@hid _ ⟨fun x25 => A.ucI .i64 x25 (@hid _ ⟨fun n26 l27 => A.ucI .i64 l27 (@hid _ ⟨fun n28 l29 => A.uc0 l29 (@hid _ ⟨A.call 83 [(.i n6), (.i n8), (.i n10), (.i n20), (.i n22)] h19 (@hid _ ⟨fun l30 h31 => A.unI l30 (@hid _ ⟨fun n32 l33 => A.unI l33 (@hid _ ⟨fun n34 l35 => A.unI l35 (@hid _ ⟨fun n36 l37 => A.un0 l37 (@hid _ ⟨A.call 83 [(.i n6), (.i 0), (.i 0), (.i n26), (.i n28)] h31 (@hid _ ⟨fun l38 h39 => A.unI l38 (@hid _ ⟨fun n40 l41 => A.unI l41 (@hid _ ⟨fun n42 l43 => A.unI l43 (@hid _ ⟨fun n44 l45 => A.un0 l45 (@hid _ ⟨A.ari .and .i64 n32 1 (@hid _ ⟨fun n46 => A.ari .sub .i64 n32 n46 (@hid _ ⟨fun n47 => A.ari .quo .i64 n47 2 (@hid _ ⟨fun n48 => A.ari .and .i64 n34 1 (@hid _ ⟨fun n49 => A.ari .sub .i64 n34 n49 (@hid _ ⟨fun n50 => A.ari .quo .i64 n50 2 (@hid _ ⟨fun n51 => A.loop (@hid _ ⟨fun s52 l53 h54 => A.unI l53 (@hid _ ⟨fun n55 l56 => A.unI l56 (@hid _ ⟨fun n57 l58 => A.unI l58 (@hid _ ⟨fun n59 l60 => A.unI l60 (@hid _ ⟨fun n61 l62 => A.un0 l62 (@hid _ ⟨A.cmp .lss n55 4 (@hid _ ⟨fun t63 => A.cond t63 (@hid _ ⟨A.opt (inB 4 n55) (@hid _ ⟨fun x64 => A.opt (pickL [(.i 0), (.i (-1)), (.i 2), (.i 0), (.i 0), (.i (-1)), (.i 2), (.i 0), (.i 0), (.i 1), (.i 0), (.i 0), (.i 3), (.i 0), (.i 0), (.i 2), (.i 0), (.i 1), (.i 0), (.i 1), (.i 1), (.i 1), (.i 0), (.i 3), (.i 0), (.i 0), (.i 0), (.i 0), (.i 0), (.i 2), (.i 2), (.i 2), (.i 2), (.i 0), (.i 0), (.i 1), (.i 2), (.i 1), (.i 0), (.i 1), (.i 0), (.i 0), (.i 0), (.i 3), (.i 0), (.i 0), (.i 1), (.i 2), (.i 2), (.i 0), (.i 2), (.i (-1)), (.i 0), (.i 1), (.i 0), (.i (-1)), (.i 0), (.i 1), (.i 0), (.i 0), (.i 2), (.i 0), (.i 0), (.i 0), (.i 0), (.i 0), (.i 0), (.i 2)] 0 [(n55, 17)] 17) (@hid _ ⟨fun x65 => A.unI x65 (@hid _ ⟨fun n66 l67 => A.unI l67 (@hid _ ⟨fun n68 l69 => A.unI l69 (@hid _ ⟨fun n70 l71 => A.unI l71 (@hid _ ⟨fun n72 l73 => A.unI l73 (@hid _ ⟨fun n74 l75 => A.unI l75 (@hid _ ⟨fun n76 l77 => A.unI l77 (@hid _ ⟨fun n78 l79 => A.unI l79 (@hid _ ⟨fun n80 l81 => A.unI l81 (@hid _ ⟨fun n82 l83 => A.unI l83 (@hid _ ⟨fun n84 l85 => A.unI l85 (@hid _ ⟨fun n86 l87 => A.unI l87 (@hid _ ⟨fun n88 l89 => A.unI l89 (@hid _ ⟨fun n90 l91 => A.unI l91 (@hid _ ⟨fun n92 l93 => A.unI l93 (@hid _ ⟨fun n94 l95 => A.unI l95 (@hid _ ⟨fun n96 l97 => A.unI l97 (@hid _ ⟨fun n98 l99 => A.un0 l99 (@hid _ ⟨A.eqs [((.i n66), (.i n40)), ((.i n68), (.i n42))] (@hid _ ⟨fun t100 => A.join (@hid _ ⟨fun l101 h102 => A.unI l101 (@hid _ ⟨fun n103 l104 => A.unI l104 (@hid _ ⟨fun n105 l106 => A.unI l106 (@hid _ ⟨fun n107 l108 => A.un0 l108 (@hid _ ⟨A.ari .add .i64 n55 1 (@hid _ ⟨fun n109 => s52 [(.i n109), (.i n103), (.i n105), (.i n107)] h102⟩)⟩)⟩)⟩)⟩)⟩) (@hid _ ⟨fun j110 => A.cond t100 (@hid _ ⟨A.conv .u8 n55 (@hid _ ⟨fun n111 => j110 [(.i n57), (.i n59), (.i n111)] h54⟩)⟩) (@hid _ ⟨j110 [(.i n57), (.i n59), (.i n61)] h54⟩)⟩)⟩)⟩)⟩)⟩)⟩)⟩)⟩)⟩)⟩)⟩)⟩)⟩)⟩)⟩)⟩)⟩)⟩)⟩)⟩)⟩)⟩)⟩) (@hid _ ⟨K [(.i n57), (.i n59), (.i n61)] h54⟩)⟩)⟩)⟩)⟩)⟩)⟩)⟩) [(.i 0), (.i n48), (.i n51), (.i 0)] h39⟩)⟩)⟩)⟩)⟩)⟩)⟩)⟩)⟩)⟩)⟩)⟩)⟩)⟩)⟩)⟩)⟩)⟩)⟩)⟩)⟩)⟩)⟩)⟩)⟩)⟩)⟩)⟩)⟩)⟩)⟩)⟩)
theorem g80 : (fun A : Alg Prop (List HObj) => p80 A) = fun A => f80 A := by kernel_rfl
theorem h80 (ls : List Lf) (H : List HObj) (K : List Lf → List HObj → Prop) : p80 P1 ls H K = execF P1 (xc 80) sgTab drN n80 ls H K :=
  congrFun (congrFun (congrFun ((congrFun g80 P1).trans (congrFun (congrFun (congrFun e80 Prop) (List HObj)) P1)) ls) H) K
theorem u80 {ls : List Lf} {H : List HObj} {K : List Lf → List HObj → Prop} (hls : goodLs ls = true) (h : p80 P1 ls H K) : ∃ rs H', CallL cc sgTab 80 ls H rs H' ∧ K rs H' :=
  fn_ok i80 hls (h80 ls H K ▸ h)
theorem q80 {ls rs : List Lf} (hls : goodLs ls = true) (h : p80 P1 ls [] fun rs' _ => rs' = rs) : Cc 80 ls rs := by
  obtain ⟨_, _, h1, rfl⟩ := u80 hls h
  exact ct_of mixed gl_flat (sg := ⟨[.agg [.i .u8, .i .i64, .i .i64], .agg [.i .i64, .i .i64, .i .u8]], [.agg [.i .i64, .i .i64, .i .u8]]⟩) rfl (by kernel_rfl) h1
/-- crimp/crimpref02.Point -/
def p81 (A : Alg Prop (List HObj)) (ls : List Lf) (h : List HObj) (K : List Lf → List HObj → Prop) : Prop := A.unI ls (@hid _ ⟨fun n6 l7 => A.unI l7 (@hid _ ⟨fun n8 l9 => A.unI l9 (@hid _ ⟨fun n10 l11 => A.unI l11 (@hid _ ⟨fun n12 l13 => A.unI l13 (@hid _ ⟨fun n14 l15 => A.un0 l15 (@hid _ ⟨A.cmp .eql n6 1 (@hid _ ⟨fun t16 => A.join (@hid _ ⟨fun l17 h18 => A.unI l17 (@hid _ ⟨fun n19 l20 => A.unI l20 (@hid _ ⟨fun n21 l22 => A.un0 l22 (@hid _ ⟨A.cmp .eql n6 2 (@hid _ ⟨fun t23 => A.join (@hid _ ⟨fun l24 h25 => A.unI l24 (@hid _ ⟨fun n26 l27 => A.unI l27 (@hid _ ⟨fun n28 l29 => A.un0 l29 (@hid _ ⟨A.cmp .eql n6 3 (@hid _ ⟨fun t30 => A.join (@hid _ ⟨fun l31 h32 => A.unI l31 (@hid _ ⟨fun n33 l34 => A.unI l34 (@hid _ ⟨fun n35 l36 => A.un0 l36 (@hid _ ⟨A.cmp .eql n6 4 (@hid _ ⟨fun t37 => A.join (@hid _ ⟨fun l38 h39 => A.unI l38 (@hid _ ⟨fun n40 l41 => A.unI l41 (@hid _ ⟨fun n42 l43 => A.un0 l43 (@hid _ ⟨A.cmp .eql n6 5 (@hid _ ⟨fun t44 => A.join (@hid _ ⟨fun l45 h46 => A.unI l45 (@hid _ ⟨fun n47 l48 => A.unI l48 (@hid _ ⟨fun n49 l50 => A.un0 l50 (@hid _ ⟨A.cmp .eql n6 6 (@hid _ ⟨fun t51 => A.join (@hid _ ⟨fun l52 h53 => A.unI l52 (@hid _ ⟨fun n54 l55 => A.unI l55 (@hid _ ⟨fun n56 l57 => A.un0 l57 (@hid _ ⟨A.cmp .eql n6 7 (@hid _ ⟨fun t58 => A.join (@hid _ ⟨fun l59 h60 => A.unI l59 (@hid _ ⟨fun n61 l62 => A.unI l62 (@hid _ ⟨fun n63 l64 => A.un0 l64 (@hid _ ⟨A.ari .mul .i64 2 n8 (@hid _ ⟨fun n65 => A.ari .add .i64 n61 n65 (@hid _ ⟨fun n66 => A.ari .mul .i64 2 n10 (@hid _ ⟨fun n67 => A.ari .add .i64 n63 n67 (@hid _ ⟨fun n68 => K [(.i n66), (.i n68)] h60⟩)⟩)⟩)⟩)⟩)⟩)⟩)⟩) (@hid _ ⟨fun j69 => A.cond t58 (@hid _ ⟨j69 [(.i n14), (.i n12)] h53⟩) (@hid _ ⟨j69 [(.i n54), (.i n56)] h53⟩)⟩)⟩)⟩)⟩)⟩)⟩) (@hid _ ⟨fun j70 => A.cond t51 (@hid _ ⟨A.ari .sub .i64 0 n14 (@hid _ ⟨fun n71 => j70 [(.i n12), (.i n71)] h46⟩)⟩) (@hid _ ⟨j70 [(.i n47), (.i n49)] h46⟩)⟩)⟩)⟩)⟩)⟩)⟩) (@hid _ ⟨fun j72 => A.cond t44 (@hid _ ⟨A.ari .sub .i64 0 n14 (@hid _ ⟨fun n73 => A.ari .sub .i64 0 n12 (@hid _ ⟨fun n74 => j72 [(.i n73), (.i n74)] h39⟩)⟩)⟩) (@hid _ ⟨j72 [(.i n40), (.i n42)] h39⟩)⟩)⟩)⟩)⟩)⟩)⟩) (@hid _ ⟨fun j75 => A.cond t37 (@hid _ ⟨A.ari .sub .i64 0 n12 (@hid _ ⟨fun n76 => j75 [(.i n76), (.i n14)] h32⟩)⟩) (@hid _ ⟨j75 [(.i n33), (.i n35)] h32⟩)⟩)⟩)⟩)⟩)⟩)⟩) (@hid _ ⟨fun j77 => A.cond t30 (@hid _ ⟨A.ari .sub .i64 0 n12 (@hid _ ⟨fun n78 => j77 [(.i n14), (.i n78)] h25⟩)⟩) (@hid _ ⟨j77 [(.i n26), (.i n28)] h25⟩)⟩)⟩)⟩)⟩)⟩)⟩) (@hid _ ⟨fun j79 => A.cond t23 (@hid _ ⟨A.ari .sub .i64 0 n12 (@hid _ ⟨fun n80 => A.ari .sub .i64 0 n14 (@hid _ ⟨fun n81 => j79 [(.i n80), (.i n81)] h18⟩)⟩)⟩) (@hid _ ⟨j79 [(.i n19), (.i n21)] h18⟩)⟩)⟩)⟩)⟩)⟩)⟩) (@hid _ ⟨fun j82 => A.cond t16 (@hid _ ⟨A.ari .sub .i64 0 n14 (@hid _ ⟨fun n83 => j82 [(.i n83), (.i n12)] h⟩)⟩) (@hid _ ⟨j82 [(.i n12), (.i n14)] h⟩)⟩)⟩)⟩)⟩)⟩)⟩)⟩)⟩)
theorem g81 : (fun A : Alg Prop (List HObj) => p81 A) = fun A => f81 A := by kernel_rfl
theorem h81 (ls : List Lf) (H : List HObj) (K : List Lf → List HObj → Prop) : p81 P1 ls H K = execF P1 (xc 81) sgTab drN n81 ls H K :=
  congrFun (congrFun (congrFun ((congrFun g81 P1).trans (congrFun (congrFun (congrFun e81 Prop) (List HObj)) P1)) ls) H) K
theorem u81 {ls : List Lf} {H : List HObj} {K : List Lf → List HObj → Prop} (hls : goodLs ls = true) (h : p81 P1 ls H K) : ∃ rs H', CallL cc sgTab 81 ls H rs H' ∧ K rs H' :=
  fn_ok i81 hls (h81 ls H K ▸ h)
theorem q81 {ls rs : List Lf} (hls : goodLs ls = true) (h : p81 P1 ls [] fun rs' _ => rs' = rs) : Cc 81 ls rs := by
  obtain ⟨_, _, h1, rfl⟩ := u81 hls h
  exact ct_of mixed gl_flat (sg := ⟨[.agg [.i .u8, .i .i64, .i .i64], .agg [.i .i64, .i .i64]], [.agg [.i .i64, .i .i64]]⟩) rfl (by kernel_rfl) h1
/-- crimp/cells.middle -/
def p82 (A : Alg Prop (List HObj)) (ls : List Lf) (h : List HObj) (K : List Lf → List HObj → Prop) : Prop := A.unI ls (@hid _ ⟨fun n6 l7 => A.unI l7 (@hid _ ⟨fun n8 l9 => A.unI l9 (@hid _ ⟨fun n10 l11 => A.un0 l11 (@hid _ ⟨A.ari .mul .i64 2 n6 (@hid _ ⟨fun n12 => A.ari .add .i64 n12 1 (@hid _ ⟨fun n13 => A.ari .mul .i64 2 n8 (@hid _ ⟨fun n14 => A.ari .add .i64 n14 1 (@hid _ ⟨fun n15 => K [(.i n13), (.i n15)] h⟩)⟩)⟩)⟩)⟩)⟩)⟩)⟩)
theorem g82 : (fun A : Alg Prop (List HObj) => p82 A) = fun A => f82 A := by kernel_rfl
theorem h82 (ls : List Lf) (H : List HObj) (K : List Lf → List HObj → Prop) : p82 P1 ls H K = execF P1 (xc 82) sgTab drN n82 ls H K :=
  congrFun (congrFun (congrFun ((congrFun g82 P1).trans (congrFun (congrFun (congrFun e82 Prop) (List HObj)) P1)) ls) H) K
theorem u82 {ls : List Lf} {H : List HObj} {K : List Lf → List HObj → Prop} (hls : goodLs ls = true) (h : p82 P1 ls H K) : ∃ rs H', CallL cc sgTab 82 ls H rs H' ∧ K rs H' :=
  fn_ok i82 hls (h82 ls H K ▸ h)
theorem q82 {ls rs : List Lf} (hls : goodLs ls = true) (h : p82 P1 ls [] fun rs' _ => rs' = rs) : Cc 82 ls rs := by
  obtain ⟨_, _, h1, rfl⟩ := u82 hls h
  exact ct_of mixed gl_flat (sg := ⟨[.agg [.i .i64, .i .i64, .i .u8]], [.agg [.i .i64, .i .i64]]⟩) rfl (by kernel_rfl) h1
/-- crimp/moves.Point -/
def p83 (A : Alg Prop (List HObj)) (ls : List Lf) (h : List HObj) (K : List Lf → List HObj → Prop) : Prop := A.unI ls (@hid _ ⟨fun n6 l7 => A.unI l7 (@hid _ ⟨fun n8 l9 => A.unI l9 (@hid _ ⟨fun n10 l11 => A.unI l11 (@hid _ ⟨fun n12 l13 => A.unI l13 (@hid _ ⟨fun n14 l15 => A.un0 l15 (@hid _ ⟨A.call 79 [(.i n6), (.i n8), (.i n10)] h (@hid _ ⟨fun l16 h17 => A.unI l16 (@hid _ ⟨fun n18 l19 => A.un0 l19 (@hid _ ⟨A.cmp .neq n18 0 (@hid _ ⟨fun t20 => A.cond t20 (@hid _ ⟨K [(.i 0), (.i 0), (.i 1)] h17⟩) (@hid _ ⟨A.call 90 [(.i n12), (.i n14)] h17 (@hid _ ⟨fun l21 h22 => A.unI l21 (@hid _ ⟨fun n23 l24 => A.un0 l24 (@hid _ ⟨A.cmp .neq n23 0 (@hid _ ⟨fun t25 => A.cond t25 (@hid _ ⟨K [(.i 0), (.i 0), (.i 1)] h22⟩) (@hid _ ⟨A.opt (inB 8 n6) (@hid _ ⟨fun x26 => A.opt (pickV gl1 0 [(n6, 4)] 4) (@hid _ ⟨fun x27 => A.ucI .i64 x27 (@hid _ ⟨fun n28 l29 => A.ucI .i64 l29 (@hid _ ⟨fun n30 l31 => A.ucI .i64 l31 (@hid _ ⟨fun n32 l33 => A.ucI .i64 l33 (@hid _ ⟨fun n34 l35 => A.uc0 l35 (@hid _ ⟨A.call 85 [(.i n28), (.i n30), (.i n32), (.i n34), (.i n12), (.i n14)] h22 (@hid _ ⟨fun l36 h37 => A.unI l36 (@hid _ ⟨fun n38 l39 => A.unI l39 (@hid _ ⟨fun n40 l41 => A.un0 l41 (@hid _ ⟨A.ari .mul .i64 2 n8 (@hid _ ⟨fun n42 => A.ari .add .i64 n38 n42 (@hid _ ⟨fun n43 => A.ari .mul .i64 2 n10 (@hid _ ⟨fun n44 => A.ari .add .i64 n40 n44 (@hid _ ⟨fun n45 => A.call 90 [(.i n43), (.i n45)] h37 (@hid _ ⟨fun l46 h47 => A.unI l46 (@hid _ ⟨fun n48 l49 => A.un0 l49 (@hid _ ⟨A.cmp .neq n48 0 (@hid _ ⟨fun t50 => A.cond t50 (@hid _ ⟨K [(.i 0), (.i 0), (.i 3)] h47⟩) (@hid _ ⟨K [(.i n43), (.i n45), (.i 0)] h47⟩)⟩)⟩)⟩)⟩)⟩)⟩)⟩)⟩)⟩)⟩)⟩)⟩)⟩)⟩)⟩)⟩)⟩)⟩)⟩)⟩)⟩)⟩)⟩)⟩)⟩)⟩)⟩)⟩)⟩)⟩)⟩)⟩)⟩)⟩)⟩)
theorem g83 : (fun A : Alg Prop (List HObj) => p83 A) = fun A => f83 A := by kernel_rfl
theorem h83 (ls : List Lf) (H : List HObj) (K : List Lf → List HObj → Prop) : p83 P1 ls H K = execF P1 (xc 83) sgTab drN n83 ls H K :=
  congrFun (congrFun (congrFun ((congrFun g83 P1).trans (congrFun (congrFun (congrFun e83 Prop) (List HObj)) P1)) ls) H) K
theorem u83 {ls : List Lf} {H : List HObj} {K : List Lf → List HObj → Prop} (hls : goodLs ls = true) (h : p83 P1 ls H K) : ∃ rs H', CallL cc sgTab 83 ls H rs H' ∧ K rs H' :=
  fn_ok i83 hls (h83 ls H K ▸ h)
theorem q83 {ls rs : List Lf} (hls : goodLs ls = true) (h : p83 P1 ls [] fun rs' _ => rs' = rs) : Cc 83 ls rs := by
  obtain ⟨_, _, h1, rfl⟩ := u83 hls h
  exact ct_of mixed gl_flat (sg := ⟨[.agg [.i .u8, .i .i64, .i .i64], .agg [.i .i64, .i .i64]], [.agg [.i .i64, .i .i64], li]⟩) rfl (by kernel_rfl) h1
/-- (crimp/moves.matrix).of -/
def p85 (A : Alg Prop (List HObj)) (ls : List Lf) (h : List HObj) (K : List Lf → List HObj → Prop) : Prop := A.unI ls (@hid _ ⟨fun n6 l7 => A.unI l7 (@hid _ ⟨fun n8 l9 => A.unI l9 (@hid _ ⟨fun n10 l11 => A.unI l11 (@hid _ ⟨fun n12 l13 => A.unI l13 (@hid _ ⟨fun n14 l15 => A.unI l15 (@hid _ ⟨fun n16 l17 => A.un0 l17 (@hid _ ⟨A.ari .mul .i64 n6 n14 (@hid _ ⟨fun n18 => A.ari .mul .i64 n8 n16 (@hid _ ⟨fun n19 => A.ari .add .i64 n18 n19 (@hid _ ⟨fun n20 => A.ari .mul .i64 n10 n14 (@hid _ ⟨fun n21 => A.ari .mul .i64 n12 n16 (@hid _ ⟨fun n22 => A.ari .add .i64 n21 n22 (@hid _ ⟨fun n23 => K [(.i n20), (.i n23)] h⟩)⟩)⟩)⟩)⟩)⟩)⟩)⟩)⟩)⟩)⟩)⟩)⟩)
theorem g85 : (fun A : Alg Prop (List HObj) => p85 A) = fun A => f85 A := by kernel_rfl
theorem h85 (ls : List Lf) (H : List HObj) (K : List Lf → List HObj → Prop) : p85 P1 ls H K = execF P1 (xc 85) sgTab drN n85 ls H K :=
  congrFun (congrFun (congrFun ((congrFun g85 P1).trans (congrFun (congrFun (congrFun e85 Prop) (List HObj)) P1)) ls) H) K
theorem u85 {ls : List Lf} {H : List HObj} {K : List Lf → List HObj → Prop} (hls : goodLs ls = true) (h : p85 P1 ls H K) : ∃ rs H', CallL cc sgTab 85 ls H rs H' ∧ K rs H' :=
  fn_ok i85 hls (h85 ls H K ▸ h)
theorem q85 {ls rs : List Lf} (hls : goodLs ls = true) (h : p85 P1 ls [] fun rs' _ => rs' = rs) : Cc 85 ls rs := by
  obtain ⟨_, _, h1, rfl⟩ := u85 hls h
  exact ct_of mixed gl_flat (sg := ⟨[.agg [.i .i64, .i .i64, .i .i64, .i .i64], li, li], [li, li]⟩) rfl (by kernel_rfl) h1
/-- crimp/lines.CheckPoint -/
def p90 (A : Alg Prop (List HObj)) (ls : List Lf) (h : List HObj) (K : List Lf → List HObj → Prop) : Prop := A.unI ls (@hid _ ⟨fun n6 l7 => A.unI l7 (@hid _ ⟨fun n8 l9 => A.un0 l9 (@hid _ ⟨A.cmp .lss n6 (-65536) (@hid _ ⟨fun t10 => A.cond t10 (@hid _ ⟨K [(.i 1)] h⟩) (@hid _ ⟨A.cmp .gtr n6 65536 (@hid _ ⟨fun t11 => A.cond t11 (@hid _ ⟨K [(.i 1)] h⟩) (@hid _ ⟨A.cmp .lss n8 (-65536) (@hid _ ⟨fun t12 => A.cond t12 (@hid _ ⟨K [(.i 1)] h⟩) (@hid _ ⟨A.cmp .gtr n8 65536 (@hid _ ⟨fun t13 => A.cond t13 (@hid _ ⟨K [(.i 1)] h⟩) (@hid _ ⟨K [(.i 0)] h⟩)⟩)⟩)⟩)⟩)⟩)⟩)⟩)⟩)⟩)⟩)
theorem g90 : (fun A : Alg Prop (List HObj) => p90 A) = fun A => f90 A := by kernel_rfl
theorem h90 (ls : List Lf) (H : List HObj) (K : List Lf → List HObj → Prop) : p90 P1 ls H K = execF P1 (xc 90) sgTab drN n90 ls H K :=
  congrFun (congrFun (congrFun ((congrFun g90 P1).trans (congrFun (congrFun (congrFun e90 Prop) (List HObj)) P1)) ls) H) K
theorem u90 {ls : List Lf} {H : List HObj} {K : List Lf → List HObj → Prop} (hls : goodLs ls = true) (h : p90 P1 ls H K) : ∃ rs H', CallL cc sgTab 90 ls H rs H' ∧ K rs H' :=
  fn_ok i90 hls (h90 ls H K ▸ h)
theorem q90 {ls rs : List Lf} (hls : goodLs ls = true) (h : p90 P1 ls [] fun rs' _ => rs' = rs) : Cc 90 ls rs := by
  obtain ⟨_, _, h1, rfl⟩ := u90 hls h
  exact ct_of mixed gl_flat (sg := ⟨[.agg [.i .i64, .i .i64]], [li]⟩) rfl (by kernel_rfl) h1
/-- crimp/moves.beyond -/
def p92 (A : Alg Prop (List HObj)) (ls : List Lf) (h : List HObj) (K : List Lf → List HObj → Prop) : Prop := A.unI ls (@hid _ ⟨fun n6 l7 => A.un0 l7 (@hid _ ⟨A.join (@hid _ ⟨fun l8 h9 => A.unB l8 (@hid _ ⟨fun t10 l11 => A.un0 l11 (@hid _ ⟨K [(.b t10)] h9⟩)⟩)⟩) (@hid _ ⟨fun j12 => A.cmp .lss n6 (-16384) (@hid _ ⟨fun t13 => A.cond t13 (@hid _ ⟨j12 [(.b true)] h⟩) (@hid _ ⟨A.cmp .gtr n6 16384 (@hid _ ⟨fun t14 => j12 [(.b t14)] h⟩)⟩)⟩)⟩)⟩)⟩)
theorem g92 : (fun A : Alg Prop (List HObj) => p92 A) = fun A => f92 A := by kernel_rfl
theorem h92 (ls : List Lf) (H : List HObj) (K : List Lf → List HObj → Prop) : p92 P1 ls H K = execF P1 (xc 92) sgTab drN n92 ls H K :=
  congrFun (congrFun (congrFun ((congrFun g92 P1).trans (congrFun (congrFun (congrFun e92 Prop) (List HObj)) P1)) ls) H) K
theorem u92 {ls : List Lf} {H : List HObj} {K : List Lf → List HObj → Prop} (hls : goodLs ls = true) (h : p92 P1 ls H K) : ∃ rs H', CallL cc sgTab 92 ls H rs H' ∧ K rs H' :=
  fn_ok i92 hls (h92 ls H K ▸ h)
theorem q92 {ls rs : List Lf} (hls : goodLs ls = true) (h : p92 P1 ls [] fun rs' _ => rs' = rs) : Cc 92 ls rs := by
  obtain ⟨_, _, h1, rfl⟩ := u92 hls h
  exact ct_of mixed gl_flat (sg := ⟨[li], [lb]⟩) rfl (by kernel_rfl) h1
end Go.Am

/-
  CONTRACTS, BY PROGRAM: checks, far, mirror images, corners.
-/
set_option maxRecDepth 100000
namespace Go.Am
open Sx Go.Proofs

theorem cellCheck_ok {x y q : Int} (h : ¬ (x < -4096) ∧ ¬ (4096 < x) ∧ ¬ (y < -4096) ∧ ¬ (4096 < y) ∧ ¬ (3 < q)) : Cc 43 [.i x, .i y, .i q] [.i 0] := by
  refine q43 rfl ?_; unfold p43
  simp (disch := omega) only [↓qxs, ↓qxc, ↓qxa]
theorem cellCheck_no {x y q : Int} (h : ¬ (¬ (x < -4096) ∧ ¬ (4096 < x) ∧ ¬ (y < -4096) ∧ ¬ (4096 < y) ∧ ¬ (3 < q))) : Cc 43 [.i x, .i y, .i q] [.i 1] := by
  refine q43 rfl ?_; unfold p43
  by_cases h0 : x < -4096
  · simp (disch := omega) only [↓qxs, ↓qxc, ↓qxa]
  by_cases h1 : 4096 < x
  · simp (disch := omega) only [↓qxs, ↓qxc, ↓qxa]
  by_cases h2 : y < -4096
  · simp (disch := omega) only [↓qxs, ↓qxc, ↓qxa]
  by_cases h3 : 4096 < y
  · simp (disch := omega) only [↓qxs, ↓qxc, ↓qxa]
  simp (disch := omega) only [↓qxs, ↓qxc, ↓qxa]
theorem pointCheck_ok {x y : Int} (h : ¬ (x < -65536) ∧ ¬ (65536 < x) ∧ ¬ (y < -65536) ∧ ¬ (65536 < y)) : Cc 90 [.i x, .i y] [.i 0] := by
  refine q90 rfl ?_; unfold p90
  simp (disch := omega) only [↓qxs, ↓qxc, ↓qxa]
theorem v3_ok {x y q : Int} (h : ¬ (x < -4096) ∧ ¬ (4096 < x) ∧ ¬ (y < -4096) ∧ ¬ (4096 < y) ∧ ¬ (3 < q)) : Cc 42 [.i x, .i y, .i q] [.i 1] := by
  refine q42 rfl ?_; unfold p42
  simp (disch := omega) only [↓qxs, ↓qxc, ↓qxa]
theorem v3_no {x y q : Int} (h : ¬ (¬ (x < -4096) ∧ ¬ (4096 < x) ∧ ¬ (y < -4096) ∧ ¬ (4096 < y) ∧ ¬ (3 < q))) : Cc 42 [.i x, .i y, .i q] [.i 0] := by
  refine q42 rfl ?_; unfold p42
  by_cases h0 : x < -4096
  · simp (disch := omega) only [↓qxs, ↓qxc, ↓qxa]
  by_cases h1 : 4096 < x
  · simp (disch := omega) only [↓qxs, ↓qxc, ↓qxa]
  by_cases h2 : y < -4096
  · simp (disch := omega) only [↓qxs, ↓qxc, ↓qxa]
  by_cases h3 : 4096 < y
  · simp (disch := omega) only [↓qxs, ↓qxc, ↓qxa]
  simp (disch := omega) only [↓qxs, ↓qxc, ↓qxa]
theorem rcorn0 {x y : Int} (h : -1000000 ≤ x ∧ x ≤ 1000000 ∧ -1000000 ≤ y ∧ y ≤ 1000000) : Cc 45 [.i x, .i y, .i 0] [.i (2 * x + 1), .i (2 * y + 1), .i (2 * x), .i (2 * y), .i (2 * x + 2), .i (2 * y)] := by
  refine q45 rfl ?_; unfold p45
  repeat (first | simp (disch := omega) only [↓qxs, ↓qxc, ↓qxa] | refine p_opt_r (by simp only [pickL, putL, offX, Int.reduceToNat, Int.reduceAdd, Int.reduceMul, Int.reduceMod, Int.reduceSub, Int.reduceNeg, Int.reduceDiv, Nat.reduceAdd, Nat.reduceMul, Nat.reduceLeDiff, List.length_cons, List.length_nil, ↓reduceIte, List.drop_succ_cons, List.drop_zero, List.take_succ_cons, List.take_zero, List.cons_append, List.nil_append, Nat.zero_add, Int.toNat_zero, Nat.zero_mul, Nat.add_zero, Int.zero_add]; exact rfl) ?_)
  (try simp only [List.cons.injEq, Lf.i.injEq, and_true, true_and]); (try omega)
theorem rcorn1 {x y : Int} (h : -1000000 ≤ x ∧ x ≤ 1000000 ∧ -1000000 ≤ y ∧ y ≤ 1000000) : Cc 45 [.i x, .i y, .i 1] [.i (2 * x + 1), .i (2 * y + 1), .i (2 * x + 2), .i (2 * y + 2), .i (2 * x + 2), .i (2 * y)] := by
  refine q45 rfl ?_; unfold p45
  repeat (first | simp (disch := omega) only [↓qxs, ↓qxc, ↓qxa] | refine p_opt_r (by simp only [pickL, putL, offX, Int.reduceToNat, Int.reduceAdd, Int.reduceMul, Int.reduceMod, Int.reduceSub, Int.reduceNeg, Int.reduceDiv, Nat.reduceAdd, Nat.reduceMul, Nat.reduceLeDiff, List.length_cons, List.length_nil, ↓reduceIte, List.drop_succ_cons, List.drop_zero, List.take_succ_cons, List.take_zero, List.cons_append, List.nil_append, Nat.zero_add, Int.toNat_zero, Nat.zero_mul, Nat.add_zero, Int.zero_add]; exact rfl) ?_)
  (try simp only [List.cons.injEq, Lf.i.injEq, and_true, true_and]); (try omega)
theorem rcorn2 {x y : Int} (h : -1000000 ≤ x ∧ x ≤ 1000000 ∧ -1000000 ≤ y ∧ y ≤ 1000000) : Cc 45 [.i x, .i y, .i 2] [.i (2 * x + 1), .i (2 * y + 1), .i (2 * x + 2), .i (2 * y + 2), .i (2 * x), .i (2 * y + 2)] := by
  refine q45 rfl ?_; unfold p45
  repeat (first | simp (disch := omega) only [↓qxs, ↓qxc, ↓qxa] | refine p_opt_r (by simp only [pickL, putL, offX, Int.reduceToNat, Int.reduceAdd, Int.reduceMul, Int.reduceMod, Int.reduceSub, Int.reduceNeg, Int.reduceDiv, Nat.reduceAdd, Nat.reduceMul, Nat.reduceLeDiff, List.length_cons, List.length_nil, ↓reduceIte, List.drop_succ_cons, List.drop_zero, List.take_succ_cons, List.take_zero, List.cons_append, List.nil_append, Nat.zero_add, Int.toNat_zero, Nat.zero_mul, Nat.add_zero, Int.zero_add]; exact rfl) ?_)
  (try simp only [List.cons.injEq, Lf.i.injEq, and_true, true_and]); (try omega)
theorem rcorn3 {x y : Int} (h : -1000000 ≤ x ∧ x ≤ 1000000 ∧ -1000000 ≤ y ∧ y ≤ 1000000) : Cc 45 [.i x, .i y, .i 3] [.i (2 * x + 1), .i (2 * y + 1), .i (2 * x), .i (2 * y), .i (2 * x), .i (2 * y + 2)] := by
  refine q45 rfl ?_; unfold p45
  repeat (first | simp (disch := omega) only [↓qxs, ↓qxc, ↓qxa] | refine p_opt_r (by simp only [pickL, putL, offX, Int.reduceToNat, Int.reduceAdd, Int.reduceMul, Int.reduceMod, Int.reduceSub, Int.reduceNeg, Int.reduceDiv, Nat.reduceAdd, Nat.reduceMul, Nat.reduceLeDiff, List.length_cons, List.length_nil, ↓reduceIte, List.drop_succ_cons, List.drop_zero, List.take_succ_cons, List.take_zero, List.cons_append, List.nil_append, Nat.zero_add, Int.toNat_zero, Nat.zero_mul, Nat.add_zero, Int.zero_add]; exact rfl) ?_)
  (try simp only [List.cons.injEq, Lf.i.injEq, and_true, true_and]); (try omega)
end Go.Am
/-
  CONTRACTS, BY PROGRAM: cells by their corners, the lines of edges.
-/
set_option maxRecDepth 100000
namespace Go.Am
open Sx Go.Proofs

theorem with00 {m n a b c d : Int} (h : m % 2 = 1 ∧ n % 2 = 1 ∧ -1000000 ≤ m ∧ m ≤ 1000000 ∧ -1000000 ≤ n ∧ n ≤ 1000000 ∧ a = m - 1 ∧ b = n - 1 ∧ c = m + 1 ∧ d = n - 1) : Cc 77 [.i m, .i n, .i a, .i b, .i c, .i d] [.i ((m - 1) / 2), .i ((n - 1) / 2), .i 0] := by
  refine q77 rfl ?_; unfold p77
  rcases Int.le_total 0 m with hm | hm <;> rcases Int.le_total 0 n with hn | hn
  all_goals
    (repeat (first | simp (disch := omega) only [↓qxs, ↓qxc, ↓qxa] | refine p_opt_r (by simp only [pickL, putL, offX, Int.reduceToNat, Int.reduceAdd, Int.reduceMul, Int.reduceMod, Int.reduceSub, Int.reduceNeg, Int.reduceDiv, Nat.reduceAdd, Nat.reduceMul, Nat.reduceLeDiff, List.length_cons, List.length_nil, ↓reduceIte, List.drop_succ_cons, List.drop_zero, List.take_succ_cons, List.take_zero, List.cons_append, List.nil_append, Nat.zero_add, Int.toNat_zero, Nat.zero_mul, Nat.add_zero, Int.zero_add]; exact rfl) ?_ | refine p_loop 5 ?_ | refine p_call (rcorn0 (by omega)) ?_ | refine p_call (rcorn1 (by omega)) ?_ | refine p_call (rcorn2 (by omega)) ?_ | refine p_call (rcorn3 (by omega)) ?_); (try simp only [List.cons.injEq, Lf.i.injEq, and_true, true_and]); (try omega))
theorem with01 {m n a b c d : Int} (h : m % 2 = 1 ∧ n % 2 = 1 ∧ -1000000 ≤ m ∧ m ≤ 1000000 ∧ -1000000 ≤ n ∧ n ≤ 1000000 ∧ a = m + 1 ∧ b = n - 1 ∧ c = m - 1 ∧ d = n - 1) : Cc 77 [.i m, .i n, .i a, .i b, .i c, .i d] [.i ((m - 1) / 2), .i ((n - 1) / 2), .i 0] := by
  refine q77 rfl ?_; unfold p77
  rcases Int.le_total 0 m with hm | hm <;> rcases Int.le_total 0 n with hn | hn
  all_goals
    (repeat (first | simp (disch := omega) only [↓qxs, ↓qxc, ↓qxa] | refine p_opt_r (by simp only [pickL, putL, offX, Int.reduceToNat, Int.reduceAdd, Int.reduceMul, Int.reduceMod, Int.reduceSub, Int.reduceNeg, Int.reduceDiv, Nat.reduceAdd, Nat.reduceMul, Nat.reduceLeDiff, List.length_cons, List.length_nil, ↓reduceIte, List.drop_succ_cons, List.drop_zero, List.take_succ_cons, List.take_zero, List.cons_append, List.nil_append, Nat.zero_add, Int.toNat_zero, Nat.zero_mul, Nat.add_zero, Int.zero_add]; exact rfl) ?_ | refine p_loop 5 ?_ | refine p_call (rcorn0 (by omega)) ?_ | refine p_call (rcorn1 (by omega)) ?_ | refine p_call (rcorn2 (by omega)) ?_ | refine p_call (rcorn3 (by omega)) ?_); (try simp only [List.cons.injEq, Lf.i.injEq, and_true, true_and]); (try omega))
theorem with10 {m n a b c d : Int} (h : m % 2 = 1 ∧ n % 2 = 1 ∧ -1000000 ≤ m ∧ m ≤ 1000000 ∧ -1000000 ≤ n ∧ n ≤ 1000000 ∧ a = m + 1 ∧ b = n + 1 ∧ c = m + 1 ∧ d = n - 1) : Cc 77 [.i m, .i n, .i a, .i b, .i c, .i d] [.i ((m - 1) / 2), .i ((n - 1) / 2), .i 1] := by
  refine q77 rfl ?_; unfold p77
  rcases Int.le_total 0 m with hm | hm <;> rcases Int.le_total 0 n with hn | hn
  all_goals
    (repeat (first | simp (disch := omega) only [↓qxs, ↓qxc, ↓qxa] | refine p_opt_r (by simp only [pickL, putL, offX, Int.reduceToNat, Int.reduceAdd, Int.reduceMul, Int.reduceMod, Int.reduceSub, Int.reduceNeg, Int.reduceDiv, Nat.reduceAdd, Nat.reduceMul, Nat.reduceLeDiff, List.length_cons, List.length_nil, ↓reduceIte, List.drop_succ_cons, List.drop_zero, List.take_succ_cons, List.take_zero, List.cons_append, List.nil_append, Nat.zero_add, Int.toNat_zero, Nat.zero_mul, Nat.add_zero, Int.zero_add]; exact rfl) ?_ | refine p_loop 5 ?_ | refine p_call (rcorn0 (by omega)) ?_ | refine p_call (rcorn1 (by omega)) ?_ | refine p_call (rcorn2 (by omega)) ?_ | refine p_call (rcorn3 (by omega)) ?_); (try simp only [List.cons.injEq, Lf.i.injEq, and_true, true_and]); (try omega))
theorem with11 {m n a b c d : Int} (h : m % 2 = 1 ∧ n % 2 = 1 ∧ -1000000 ≤ m ∧ m ≤ 1000000 ∧ -1000000 ≤ n ∧ n ≤ 1000000 ∧ a = m + 1 ∧ b = n - 1 ∧ c = m + 1 ∧ d = n + 1) : Cc 77 [.i m, .i n, .i a, .i b, .i c, .i d] [.i ((m - 1) / 2), .i ((n - 1) / 2), .i 1] := by
  refine q77 rfl ?_; unfold p77
  rcases Int.le_total 0 m with hm | hm <;> rcases Int.le_total 0 n with hn | hn
  all_goals
    (repeat (first | simp (disch := omega) only [↓qxs, ↓qxc, ↓qxa] | refine p_opt_r (by simp only [pickL, putL, offX, Int.reduceToNat, Int.reduceAdd, Int.reduceMul, Int.reduceMod, Int.reduceSub, Int.reduceNeg, Int.reduceDiv, Nat.reduceAdd, Nat.reduceMul, Nat.reduceLeDiff, List.length_cons, List.length_nil, ↓reduceIte, List.drop_succ_cons, List.drop_zero, List.take_succ_cons, List.take_zero, List.cons_append, List.nil_append, Nat.zero_add, Int.toNat_zero, Nat.zero_mul, Nat.add_zero, Int.zero_add]; exact rfl) ?_ | refine p_loop 5 ?_ | refine p_call (rcorn0 (by omega)) ?_ | refine p_call (rcorn1 (by omega)) ?_ | refine p_call (rcorn2 (by omega)) ?_ | refine p_call (rcorn3 (by omega)) ?_); (try simp only [List.cons.injEq, Lf.i.injEq, and_true, true_and]); (try omega))
theorem with20 {m n a b c d : Int} (h : m % 2 = 1 ∧ n % 2 = 1 ∧ -1000000 ≤ m ∧ m ≤ 1000000 ∧ -1000000 ≤ n ∧ n ≤ 1000000 ∧ a = m + 1 ∧ b = n + 1 ∧ c = m - 1 ∧ d = n + 1) : Cc 77 [.i m, .i n, .i a, .i b, .i c, .i d] [.i ((m - 1) / 2), .i ((n - 1) / 2), .i 2] := by
  refine q77 rfl ?_; unfold p77
  rcases Int.le_total 0 m with hm | hm <;> rcases Int.le_total 0 n with hn | hn
  all_goals
    (repeat (first | simp (disch := omega) only [↓qxs, ↓qxc, ↓qxa] | refine p_opt_r (by simp only [pickL, putL, offX, Int.reduceToNat, Int.reduceAdd, Int.reduceMul, Int.reduceMod, Int.reduceSub, Int.reduceNeg, Int.reduceDiv, Nat.reduceAdd, Nat.reduceMul, Nat.reduceLeDiff, List.length_cons, List.length_nil, ↓reduceIte, List.drop_succ_cons, List.drop_zero, List.take_succ_cons, List.take_zero, List.cons_append, List.nil_append, Nat.zero_add, Int.toNat_zero, Nat.zero_mul, Nat.add_zero, Int.zero_add]; exact rfl) ?_ | refine p_loop 5 ?_ | refine p_call (rcorn0 (by omega)) ?_ | refine p_call (rcorn1 (by omega)) ?_ | refine p_call (rcorn2 (by omega)) ?_ | refine p_call (rcorn3 (by omega)) ?_); (try simp only [List.cons.injEq, Lf.i.injEq, and_true, true_and]); (try omega))
theorem with21 {m n a b c d : Int} (h : m % 2 = 1 ∧ n % 2 = 1 ∧ -1000000 ≤ m ∧ m ≤ 1000000 ∧ -1000000 ≤ n ∧ n ≤ 1000000 ∧ a = m - 1 ∧ b = n + 1 ∧ c = m + 1 ∧ d = n + 1) : Cc 77 [.i m, .i n, .i a, .i b, .i c, .i d] [.i ((m - 1) / 2), .i ((n - 1) / 2), .i 2] := by
  refine q77 rfl ?_; unfold p77
  rcases Int.le_total 0 m with hm | hm <;> rcases Int.le_total 0 n with hn | hn
  all_goals
    (repeat (first | simp (disch := omega) only [↓qxs, ↓qxc, ↓qxa] | refine p_opt_r (by simp only [pickL, putL, offX, Int.reduceToNat, Int.reduceAdd, Int.reduceMul, Int.reduceMod, Int.reduceSub, Int.reduceNeg, Int.reduceDiv, Nat.reduceAdd, Nat.reduceMul, Nat.reduceLeDiff, List.length_cons, List.length_nil, ↓reduceIte, List.drop_succ_cons, List.drop_zero, List.take_succ_cons, List.take_zero, List.cons_append, List.nil_append, Nat.zero_add, Int.toNat_zero, Nat.zero_mul, Nat.add_zero, Int.zero_add]; exact rfl) ?_ | refine p_loop 5 ?_ | refine p_call (rcorn0 (by omega)) ?_ | refine p_call (rcorn1 (by omega)) ?_ | refine p_call (rcorn2 (by omega)) ?_ | refine p_call (rcorn3 (by omega)) ?_); (try simp only [List.cons.injEq, Lf.i.injEq, and_true, true_and]); (try omega))
theorem with30 {m n a b c d : Int} (h : m % 2 = 1 ∧ n % 2 = 1 ∧ -1000000 ≤ m ∧ m ≤ 1000000 ∧ -1000000 ≤ n ∧ n ≤ 1000000 ∧ a = m - 1 ∧ b = n - 1 ∧ c = m - 1 ∧ d = n + 1) : Cc 77 [.i m, .i n, .i a, .i b, .i c, .i d] [.i ((m - 1) / 2), .i ((n - 1) / 2), .i 3] := by
  refine q77 rfl ?_; unfold p77
  rcases Int.le_total 0 m with hm | hm <;> rcases Int.le_total 0 n with hn | hn
  all_goals
    (repeat (first | simp (disch := omega) only [↓qxs, ↓qxc, ↓qxa] | refine p_opt_r (by simp only [pickL, putL, offX, Int.reduceToNat, Int.reduceAdd, Int.reduceMul, Int.reduceMod, Int.reduceSub, Int.reduceNeg, Int.reduceDiv, Nat.reduceAdd, Nat.reduceMul, Nat.reduceLeDiff, List.length_cons, List.length_nil, ↓reduceIte, List.drop_succ_cons, List.drop_zero, List.take_succ_cons, List.take_zero, List.cons_append, List.nil_append, Nat.zero_add, Int.toNat_zero, Nat.zero_mul, Nat.add_zero, Int.zero_add]; exact rfl) ?_ | refine p_loop 5 ?_ | refine p_call (rcorn0 (by omega)) ?_ | refine p_call (rcorn1 (by omega)) ?_ | refine p_call (rcorn2 (by omega)) ?_ | refine p_call (rcorn3 (by omega)) ?_); (try simp only [List.cons.injEq, Lf.i.injEq, and_true, true_and]); (try omega))
theorem with31 {m n a b c d : Int} (h : m % 2 = 1 ∧ n % 2 = 1 ∧ -1000000 ≤ m ∧ m ≤ 1000000 ∧ -1000000 ≤ n ∧ n ≤ 1000000 ∧ a = m - 1 ∧ b = n + 1 ∧ c = m - 1 ∧ d = n - 1) : Cc 77 [.i m, .i n, .i a, .i b, .i c, .i d] [.i ((m - 1) / 2), .i ((n - 1) / 2), .i 3] := by
  refine q77 rfl ?_; unfold p77
  rcases Int.le_total 0 m with hm | hm <;> rcases Int.le_total 0 n with hn | hn
  all_goals
    (repeat (first | simp (disch := omega) only [↓qxs, ↓qxc, ↓qxa] | refine p_opt_r (by simp only [pickL, putL, offX, Int.reduceToNat, Int.reduceAdd, Int.reduceMul, Int.reduceMod, Int.reduceSub, Int.reduceNeg, Int.reduceDiv, Nat.reduceAdd, Nat.reduceMul, Nat.reduceLeDiff, List.length_cons, List.length_nil, ↓reduceIte, List.drop_succ_cons, List.drop_zero, List.take_succ_cons, List.take_zero, List.cons_append, List.nil_append, Nat.zero_add, Int.toNat_zero, Nat.zero_mul, Nat.add_zero, Int.zero_add]; exact rfl) ?_ | refine p_loop 5 ?_ | refine p_call (rcorn0 (by omega)) ?_ | refine p_call (rcorn1 (by omega)) ?_ | refine p_call (rcorn2 (by omega)) ?_ | refine p_call (rcorn3 (by omega)) ?_); (try simp only [List.cons.injEq, Lf.i.injEq, and_true, true_and]); (try omega))
end Go.Am
/-
  CONTRACTS, BY PROGRAM: neighbours, corners, lines of cells.
-/
set_option maxRecDepth 100000
namespace Go.Am
open Sx Go.Proofs

theorem gs0 : pickV gl0 0 [(0, 17)] 2 = some [.int .i64 0, .int .i64 (-1)] := by kernel_rfl
theorem gs1 : pickV gl0 0 [(1, 17)] 2 = some [.int .i64 1, .int .i64 0] := by kernel_rfl
theorem gs2 : pickV gl0 0 [(2, 17)] 2 = some [.int .i64 0, .int .i64 1] := by kernel_rfl
theorem gs3 : pickV gl0 0 [(3, 17)] 2 = some [.int .i64 (-1), .int .i64 0] := by kernel_rfl
end Go.Am
/-
  CONTRACTS, BY PROGRAM: moves of points.
-/
set_option maxRecDepth 100000
namespace Go.Am
open Sx Go.Proofs

theorem bey_f {n : Int} (h : -16384 ≤ n ∧ n ≤ 16384) : Cc 92 [.i n] [.b false] := by
  refine q92 rfl ?_; unfold p92
  simp (disch := omega) only [↓qxs, ↓qxc, ↓qxa]
theorem bey_t {n : Int} (h : ¬ (-16384 ≤ n ∧ n ≤ 16384)) : Cc 92 [.i n] [.b true] := by
  refine q92 rfl ?_; unfold p92
  by_cases h1 : n < -16384
  · simp (disch := omega) only [↓qxs, ↓qxc, ↓qxa]
  simp (disch := omega) only [↓qxs, ↓qxc, ↓qxa]
theorem mcheck_ok {t x y : Int} (h : (0 ≤ t ∧ t ≤ 7 ∧ -16384 ≤ x ∧ x ≤ 16384 ∧ -16384 ≤ y ∧ y ≤ 16384) ∧ (x + y) % 2 = 0) : Cc 79 [.i t, .i x, .i y] [.i 0] := by
  refine q79 rfl ?_; unfold p79
  rcases Int.le_total 0 (x + y) with hs | hs
  all_goals
    (repeat (first | simp (disch := omega) only [↓qxs, ↓qxc, ↓qxa] | refine p_call (bey_f (by omega)) ?_); (try simp only [List.cons.injEq, Lf.i.injEq, and_true, true_and]); (try omega))
theorem mcheck_no {t x y : Int} (h : (0 ≤ t ∧ t ≤ 255) ∧ ¬ ((0 ≤ t ∧ t ≤ 7 ∧ -16384 ≤ x ∧ x ≤ 16384 ∧ -16384 ≤ y ∧ y ≤ 16384) ∧ (x + y) % 2 = 0)) : Cc 79 [.i t, .i x, .i y] [.i 1] := by
  refine q79 rfl ?_; unfold p79
  by_cases h1 : 7 < t
  · simp (disch := omega) only [↓qxs, ↓qxc, ↓qxa]
  by_cases h2 : -16384 ≤ x ∧ x ≤ 16384
  · by_cases h3 : -16384 ≤ y ∧ y ≤ 16384
    · rcases Int.le_total 0 (x + y) with hs | hs
      all_goals (repeat (first | simp (disch := omega) only [↓qxs, ↓qxc, ↓qxa] | refine p_call (bey_f (by omega)) ?_); (try simp only [List.cons.injEq, Lf.i.injEq, and_true, true_and]); (try omega))
    · repeat (first | simp (disch := omega) only [↓qxs, ↓qxc, ↓qxa] | refine p_call (bey_f (by omega)) ?_ | refine p_call (bey_t (by omega)) ?_); (try simp only [List.cons.injEq, Lf.i.injEq, and_true, true_and]); (try omega)
  · repeat (first | simp (disch := omega) only [↓qxs, ↓qxc, ↓qxa] | refine p_call (bey_t (by omega)) ?_); (try simp only [List.cons.injEq, Lf.i.injEq, and_true, true_and]); (try omega)
theorem v2_ok {t x y : Int} (h : (0 ≤ t ∧ t ≤ 7 ∧ -16384 ≤ x ∧ x ≤ 16384 ∧ -16384 ≤ y ∧ y ≤ 16384) ∧ (x + y) % 2 = 0) : Cc 53 [.i t, .i x, .i y] [.i 1] := by
  refine q53 rfl ?_; unfold p53
  rcases Int.le_total 0 (x - y) with hs | hs
  all_goals
    (repeat (first | simp (disch := omega) only [↓qxs, ↓qxc, ↓qxa]); (try simp only [List.cons.injEq, Lf.i.injEq, and_true, true_and]); (try omega))
theorem v2_no {t x y : Int} (h : ¬ ((t ≤ 7 ∧ -16384 ≤ x ∧ x ≤ 16384 ∧ -16384 ≤ y ∧ y ≤ 16384) ∧ (x + y) % 2 = 0)) : Cc 53 [.i t, .i x, .i y] [.i 0] := by
  refine q53 rfl ?_; unfold p53
  by_cases h0 : 7 < t
  · simp (disch := omega) only [↓qxs, ↓qxc, ↓qxa]
  by_cases h1 : x < -16384
  · simp (disch := omega) only [↓qxs, ↓qxc, ↓qxa]
  by_cases h2 : 16384 < x
  · simp (disch := omega) only [↓qxs, ↓qxc, ↓qxa]
  by_cases h3 : y < -16384
  · simp (disch := omega) only [↓qxs, ↓qxc, ↓qxa]
  by_cases h4 : 16384 < y
  · simp (disch := omega) only [↓qxs, ↓qxc, ↓qxa]
  rcases Int.le_total 0 (x - y) with hs | hs
  all_goals
    (repeat (first | simp (disch := omega) only [↓qxs, ↓qxc, ↓qxa]); (try simp only [List.cons.injEq, Lf.i.injEq, and_true, true_and]); (try omega))
theorem gt0 : pickV gl1 0 [(0, 4)] 4 = some [.int .i64 1, .int .i64 0, .int .i64 0, .int .i64 1] := by kernel_rfl
theorem mof0 {x y : Int} (h : -1000000 ≤ x ∧ x ≤ 1000000 ∧ -1000000 ≤ y ∧ y ≤ 1000000) : Cc 85 [.i 1, .i 0, .i 0, .i 1, .i x, .i y] [.i x, .i y] := by
  refine q85 rfl ?_; unfold p85
  repeat (first | simp (disch := omega) only [↓qxs, ↓qxc, ↓qxa])
  (try simp only [List.cons.injEq, Lf.i.injEq, and_true, true_and]); (try omega)
theorem gt1 : pickV gl1 0 [(1, 4)] 4 = some [.int .i64 0, .int .i64 (-1), .int .i64 1, .int .i64 0] := by kernel_rfl
theorem mof1 {x y : Int} (h : -1000000 ≤ x ∧ x ≤ 1000000 ∧ -1000000 ≤ y ∧ y ≤ 1000000) : Cc 85 [.i 0, .i (-1), .i 1, .i 0, .i x, .i y] [.i (-(y)), .i x] := by
  refine q85 rfl ?_; unfold p85
  repeat (first | simp (disch := omega) only [↓qxs, ↓qxc, ↓qxa])
  (try simp only [List.cons.injEq, Lf.i.injEq, and_true, true_and]); (try omega)
theorem gt2 : pickV gl1 0 [(2, 4)] 4 = some [.int .i64 (-1), .int .i64 0, .int .i64 0, .int .i64 (-1)] := by kernel_rfl
theorem mof2 {x y : Int} (h : -1000000 ≤ x ∧ x ≤ 1000000 ∧ -1000000 ≤ y ∧ y ≤ 1000000) : Cc 85 [.i (-1), .i 0, .i 0, .i (-1), .i x, .i y] [.i (-(x)), .i (-(y))] := by
  refine q85 rfl ?_; unfold p85
  repeat (first | simp (disch := omega) only [↓qxs, ↓qxc, ↓qxa])
  (try simp only [List.cons.injEq, Lf.i.injEq, and_true, true_and]); (try omega)
theorem gt3 : pickV gl1 0 [(3, 4)] 4 = some [.int .i64 0, .int .i64 1, .int .i64 (-1), .int .i64 0] := by kernel_rfl
theorem mof3 {x y : Int} (h : -1000000 ≤ x ∧ x ≤ 1000000 ∧ -1000000 ≤ y ∧ y ≤ 1000000) : Cc 85 [.i 0, .i 1, .i (-1), .i 0, .i x, .i y] [.i y, .i (-(x))] := by
  refine q85 rfl ?_; unfold p85
  repeat (first | simp (disch := omega) only [↓qxs, ↓qxc, ↓qxa])
  (try simp only [List.cons.injEq, Lf.i.injEq, and_true, true_and]); (try omega)
theorem gt4 : pickV gl1 0 [(4, 4)] 4 = some [.int .i64 (-1), .int .i64 0, .int .i64 0, .int .i64 1] := by kernel_rfl
theorem mof4 {x y : Int} (h : -1000000 ≤ x ∧ x ≤ 1000000 ∧ -1000000 ≤ y ∧ y ≤ 1000000) : Cc 85 [.i (-1), .i 0, .i 0, .i 1, .i x, .i y] [.i (-(x)), .i y] := by
  refine q85 rfl ?_; unfold p85
  repeat (first | simp (disch := omega) only [↓qxs, ↓qxc, ↓qxa])
  (try simp only [List.cons.injEq, Lf.i.injEq, and_true, true_and]); (try omega)
theorem gt5 : pickV gl1 0 [(5, 4)] 4 = some [.int .i64 0, .int .i64 (-1), .int .i64 (-1), .int .i64 0] := by kernel_rfl
theorem mof5 {x y : Int} (h : -1000000 ≤ x ∧ x ≤ 1000000 ∧ -1000000 ≤ y ∧ y ≤ 1000000) : Cc 85 [.i 0, .i (-1), .i (-1), .i 0, .i x, .i y] [.i (-(y)), .i (-(x))] := by
  refine q85 rfl ?_; unfold p85
  repeat (first | simp (disch := omega) only [↓qxs, ↓qxc, ↓qxa])
  (try simp only [List.cons.injEq, Lf.i.injEq, and_true, true_and]); (try omega)
theorem gt6 : pickV gl1 0 [(6, 4)] 4 = some [.int .i64 1, .int .i64 0, .int .i64 0, .int .i64 (-1)] := by kernel_rfl
theorem mof6 {x y : Int} (h : -1000000 ≤ x ∧ x ≤ 1000000 ∧ -1000000 ≤ y ∧ y ≤ 1000000) : Cc 85 [.i 1, .i 0, .i 0, .i (-1), .i x, .i y] [.i x, .i (-(y))] := by
  refine q85 rfl ?_; unfold p85
  repeat (first | simp (disch := omega) only [↓qxs, ↓qxc, ↓qxa])
  (try simp only [List.cons.injEq, Lf.i.injEq, and_true, true_and]); (try omega)
theorem gt7 : pickV gl1 0 [(7, 4)] 4 = some [.int .i64 0, .int .i64 1, .int .i64 1, .int .i64 0] := by kernel_rfl
theorem mof7 {x y : Int} (h : -1000000 ≤ x ∧ x ≤ 1000000 ∧ -1000000 ≤ y ∧ y ≤ 1000000) : Cc 85 [.i 0, .i 1, .i 1, .i 0, .i x, .i y] [.i y, .i x] := by
  refine q85 rfl ?_; unfold p85
  repeat (first | simp (disch := omega) only [↓qxs, ↓qxc, ↓qxa])
  (try simp only [List.cons.injEq, Lf.i.injEq, and_true, true_and]); (try omega)
theorem mpoint0 {m n x y : Int} (h : (-16384 ≤ m ∧ m ≤ 16384 ∧ -16384 ≤ n ∧ n ≤ 16384 ∧ (m + n) % 2 = 0) ∧ -65536 ≤ x ∧ x ≤ 65536 ∧ -65536 ≤ y ∧ y ≤ 65536 ∧ -65536 ≤ x + 2 * m ∧ x + 2 * m ≤ 65536 ∧ -65536 ≤ y + 2 * n ∧ y + 2 * n ≤ 65536) : Cc 83 [.i 0, .i m, .i n, .i x, .i y] [.i (x + 2 * m), .i (y + 2 * n), .i 0] := by
  refine q83 rfl ?_; unfold p83
  repeat (first | simp (disch := omega) only [↓qxs, ↓qxc, ↓qxa, ↓gt0] | refine p_call (mcheck_ok (by omega)) ?_ | refine p_call (pointCheck_ok (by omega)) ?_ | refine p_call (mof0 (by omega)) ?_)
  (try simp only [List.cons.injEq, Lf.i.injEq, and_true, true_and]); (try omega)
theorem rpoint0 {m n x y : Int} (h : -1000000 ≤ m ∧ m ≤ 1000000 ∧ -1000000 ≤ n ∧ n ≤ 1000000 ∧ -1000000 ≤ x ∧ x ≤ 1000000 ∧ -1000000 ≤ y ∧ y ≤ 1000000) : Cc 81 [.i 0, .i m, .i n, .i x, .i y] [.i (x + 2 * m), .i (y + 2 * n)] := by
  refine q81 rfl ?_; unfold p81
  repeat (first | simp (disch := omega) only [↓qxs, ↓qxc, ↓qxa])
  (try simp only [List.cons.injEq, Lf.i.injEq, and_true, true_and]); (try omega)
theorem mpoint1 {m n x y : Int} (h : (-16384 ≤ m ∧ m ≤ 16384 ∧ -16384 ≤ n ∧ n ≤ 16384 ∧ (m + n) % 2 = 0) ∧ -65536 ≤ x ∧ x ≤ 65536 ∧ -65536 ≤ y ∧ y ≤ 65536 ∧ -65536 ≤ -(y) + 2 * m ∧ -(y) + 2 * m ≤ 65536 ∧ -65536 ≤ x + 2 * n ∧ x + 2 * n ≤ 65536) : Cc 83 [.i 1, .i m, .i n, .i x, .i y] [.i (-(y) + 2 * m), .i (x + 2 * n), .i 0] := by
  refine q83 rfl ?_; unfold p83
  repeat (first | simp (disch := omega) only [↓qxs, ↓qxc, ↓qxa, ↓gt1] | refine p_call (mcheck_ok (by omega)) ?_ | refine p_call (pointCheck_ok (by omega)) ?_ | refine p_call (mof1 (by omega)) ?_)
  (try simp only [List.cons.injEq, Lf.i.injEq, and_true, true_and]); (try omega)
theorem rpoint1 {m n x y : Int} (h : -1000000 ≤ m ∧ m ≤ 1000000 ∧ -1000000 ≤ n ∧ n ≤ 1000000 ∧ -1000000 ≤ x ∧ x ≤ 1000000 ∧ -1000000 ≤ y ∧ y ≤ 1000000) : Cc 81 [.i 1, .i m, .i n, .i x, .i y] [.i (-(y) + 2 * m), .i (x + 2 * n)] := by
  refine q81 rfl ?_; unfold p81
  repeat (first | simp (disch := omega) only [↓qxs, ↓qxc, ↓qxa])
  (try simp only [List.cons.injEq, Lf.i.injEq, and_true, true_and]); (try omega)
theorem mpoint2 {m n x y : Int} (h : (-16384 ≤ m ∧ m ≤ 16384 ∧ -16384 ≤ n ∧ n ≤ 16384 ∧ (m + n) % 2 = 0) ∧ -65536 ≤ x ∧ x ≤ 65536 ∧ -65536 ≤ y ∧ y ≤ 65536 ∧ -65536 ≤ -(x) + 2 * m ∧ -(x) + 2 * m ≤ 65536 ∧ -65536 ≤ -(y) + 2 * n ∧ -(y) + 2 * n ≤ 65536) : Cc 83 [.i 2, .i m, .i n, .i x, .i y] [.i (-(x) + 2 * m), .i (-(y) + 2 * n), .i 0] := by
  refine q83 rfl ?_; unfold p83
  repeat (first | simp (disch := omega) only [↓qxs, ↓qxc, ↓qxa, ↓gt2] | refine p_call (mcheck_ok (by omega)) ?_ | refine p_call (pointCheck_ok (by omega)) ?_ | refine p_call (mof2 (by omega)) ?_)
  (try simp only [List.cons.injEq, Lf.i.injEq, and_true, true_and]); (try omega)
theorem rpoint2 {m n x y : Int} (h : -1000000 ≤ m ∧ m ≤ 1000000 ∧ -1000000 ≤ n ∧ n ≤ 1000000 ∧ -1000000 ≤ x ∧ x ≤ 1000000 ∧ -1000000 ≤ y ∧ y ≤ 1000000) : Cc 81 [.i 2, .i m, .i n, .i x, .i y] [.i (-(x) + 2 * m), .i (-(y) + 2 * n)] := by
  refine q81 rfl ?_; unfold p81
  repeat (first | simp (disch := omega) only [↓qxs, ↓qxc, ↓qxa])
  (try simp only [List.cons.injEq, Lf.i.injEq, and_true, true_and]); (try omega)
theorem mpoint3 {m n x y : Int} (h : (-16384 ≤ m ∧ m ≤ 16384 ∧ -16384 ≤ n ∧ n ≤ 16384 ∧ (m + n) % 2 = 0) ∧ -65536 ≤ x ∧ x ≤ 65536 ∧ -65536 ≤ y ∧ y ≤ 65536 ∧ -65536 ≤ y + 2 * m ∧ y + 2 * m ≤ 65536 ∧ -65536 ≤ -(x) + 2 * n ∧ -(x) + 2 * n ≤ 65536) : Cc 83 [.i 3, .i m, .i n, .i x, .i y] [.i (y + 2 * m), .i (-(x) + 2 * n), .i 0] := by
  refine q83 rfl ?_; unfold p83
  repeat (first | simp (disch := omega) only [↓qxs, ↓qxc, ↓qxa, ↓gt3] | refine p_call (mcheck_ok (by omega)) ?_ | refine p_call (pointCheck_ok (by omega)) ?_ | refine p_call (mof3 (by omega)) ?_)
  (try simp only [List.cons.injEq, Lf.i.injEq, and_true, true_and]); (try omega)
theorem rpoint3 {m n x y : Int} (h : -1000000 ≤ m ∧ m ≤ 1000000 ∧ -1000000 ≤ n ∧ n ≤ 1000000 ∧ -1000000 ≤ x ∧ x ≤ 1000000 ∧ -1000000 ≤ y ∧ y ≤ 1000000) : Cc 81 [.i 3, .i m, .i n, .i x, .i y] [.i (y + 2 * m), .i (-(x) + 2 * n)] := by
  refine q81 rfl ?_; unfold p81
  repeat (first | simp (disch := omega) only [↓qxs, ↓qxc, ↓qxa])
  (try simp only [List.cons.injEq, Lf.i.injEq, and_true, true_and]); (try omega)
theorem mpoint4 {m n x y : Int} (h : (-16384 ≤ m ∧ m ≤ 16384 ∧ -16384 ≤ n ∧ n ≤ 16384 ∧ (m + n) % 2 = 0) ∧ -65536 ≤ x ∧ x ≤ 65536 ∧ -65536 ≤ y ∧ y ≤ 65536 ∧ -65536 ≤ -(x) + 2 * m ∧ -(x) + 2 * m ≤ 65536 ∧ -65536 ≤ y + 2 * n ∧ y + 2 * n ≤ 65536) : Cc 83 [.i 4, .i m, .i n, .i x, .i y] [.i (-(x) + 2 * m), .i (y + 2 * n), .i 0] := by
  refine q83 rfl ?_; unfold p83
  repeat (first | simp (disch := omega) only [↓qxs, ↓qxc, ↓qxa, ↓gt4] | refine p_call (mcheck_ok (by omega)) ?_ | refine p_call (pointCheck_ok (by omega)) ?_ | refine p_call (mof4 (by omega)) ?_)
  (try simp only [List.cons.injEq, Lf.i.injEq, and_true, true_and]); (try omega)
theorem rpoint4 {m n x y : Int} (h : -1000000 ≤ m ∧ m ≤ 1000000 ∧ -1000000 ≤ n ∧ n ≤ 1000000 ∧ -1000000 ≤ x ∧ x ≤ 1000000 ∧ -1000000 ≤ y ∧ y ≤ 1000000) : Cc 81 [.i 4, .i m, .i n, .i x, .i y] [.i (-(x) + 2 * m), .i (y + 2 * n)] := by
  refine q81 rfl ?_; unfold p81
  repeat (first | simp (disch := omega) only [↓qxs, ↓qxc, ↓qxa])
  (try simp only [List.cons.injEq, Lf.i.injEq, and_true, true_and]); (try omega)
theorem mpoint5 {m n x y : Int} (h : (-16384 ≤ m ∧ m ≤ 16384 ∧ -16384 ≤ n ∧ n ≤ 16384 ∧ (m + n) % 2 = 0) ∧ -65536 ≤ x ∧ x ≤ 65536 ∧ -65536 ≤ y ∧ y ≤ 65536 ∧ -65536 ≤ -(y) + 2 * m ∧ -(y) + 2 * m ≤ 65536 ∧ -65536 ≤ -(x) + 2 * n ∧ -(x) + 2 * n ≤ 65536) : Cc 83 [.i 5, .i m, .i n, .i x, .i y] [.i (-(y) + 2 * m), .i (-(x) + 2 * n), .i 0] := by
  refine q83 rfl ?_; unfold p83
  repeat (first | simp (disch := omega) only [↓qxs, ↓qxc, ↓qxa, ↓gt5] | refine p_call (mcheck_ok (by omega)) ?_ | refine p_call (pointCheck_ok (by omega)) ?_ | refine p_call (mof5 (by omega)) ?_)
  (try simp only [List.cons.injEq, Lf.i.injEq, and_true, true_and]); (try omega)
theorem rpoint5 {m n x y : Int} (h : -1000000 ≤ m ∧ m ≤ 1000000 ∧ -1000000 ≤ n ∧ n ≤ 1000000 ∧ -1000000 ≤ x ∧ x ≤ 1000000 ∧ -1000000 ≤ y ∧ y ≤ 1000000) : Cc 81 [.i 5, .i m, .i n, .i x, .i y] [.i (-(y) + 2 * m), .i (-(x) + 2 * n)] := by
  refine q81 rfl ?_; unfold p81
  repeat (first | simp (disch := omega) only [↓qxs, ↓qxc, ↓qxa])
  (try simp only [List.cons.injEq, Lf.i.injEq, and_true, true_and]); (try omega)
theorem mpoint6 {m n x y : Int} (h : (-16384 ≤ m ∧ m ≤ 16384 ∧ -16384 ≤ n ∧ n ≤ 16384 ∧ (m + n) % 2 = 0) ∧ -65536 ≤ x ∧ x ≤ 65536 ∧ -65536 ≤ y ∧ y ≤ 65536 ∧ -65536 ≤ x + 2 * m ∧ x + 2 * m ≤ 65536 ∧ -65536 ≤ -(y) + 2 * n ∧ -(y) + 2 * n ≤ 65536) : Cc 83 [.i 6, .i m, .i n, .i x, .i y] [.i (x + 2 * m), .i (-(y) + 2 * n), .i 0] := by
  refine q83 rfl ?_; unfold p83
  repeat (first | simp (disch := omega) only [↓qxs, ↓qxc, ↓qxa, ↓gt6] | refine p_call (mcheck_ok (by omega)) ?_ | refine p_call (pointCheck_ok (by omega)) ?_ | refine p_call (mof6 (by omega)) ?_)
  (try simp only [List.cons.injEq, Lf.i.injEq, and_true, true_and]); (try omega)
theorem rpoint6 {m n x y : Int} (h : -1000000 ≤ m ∧ m ≤ 1000000 ∧ -1000000 ≤ n ∧ n ≤ 1000000 ∧ -1000000 ≤ x ∧ x ≤ 1000000 ∧ -1000000 ≤ y ∧ y ≤ 1000000) : Cc 81 [.i 6, .i m, .i n, .i x, .i y] [.i (x + 2 * m), .i (-(y) + 2 * n)] := by
  refine q81 rfl ?_; unfold p81
  repeat (first | simp (disch := omega) only [↓qxs, ↓qxc, ↓qxa])
  (try simp only [List.cons.injEq, Lf.i.injEq, and_true, true_and]); (try omega)
theorem mpoint7 {m n x y : Int} (h : (-16384 ≤ m ∧ m ≤ 16384 ∧ -16384 ≤ n ∧ n ≤ 16384 ∧ (m + n) % 2 = 0) ∧ -65536 ≤ x ∧ x ≤ 65536 ∧ -65536 ≤ y ∧ y ≤ 65536 ∧ -65536 ≤ y + 2 * m ∧ y + 2 * m ≤ 65536 ∧ -65536 ≤ x + 2 * n ∧ x + 2 * n ≤ 65536) : Cc 83 [.i 7, .i m, .i n, .i x, .i y] [.i (y + 2 * m), .i (x + 2 * n), .i 0] := by
  refine q83 rfl ?_; unfold p83
  repeat (first | simp (disch := omega) only [↓qxs, ↓qxc, ↓qxa, ↓gt7] | refine p_call (mcheck_ok (by omega)) ?_ | refine p_call (pointCheck_ok (by omega)) ?_ | refine p_call (mof7 (by omega)) ?_)
  (try simp only [List.cons.injEq, Lf.i.injEq, and_true, true_and]); (try omega)
theorem rpoint7 {m n x y : Int} (h : -1000000 ≤ m ∧ m ≤ 1000000 ∧ -1000000 ≤ n ∧ n ≤ 1000000 ∧ -1000000 ≤ x ∧ x ≤ 1000000 ∧ -1000000 ≤ y ∧ y ≤ 1000000) : Cc 81 [.i 7, .i m, .i n, .i x, .i y] [.i (y + 2 * m), .i (x + 2 * n)] := by
  refine q81 rfl ?_; unfold p81
  repeat (first | simp (disch := omega) only [↓qxs, ↓qxc, ↓qxa])
  (try simp only [List.cons.injEq, Lf.i.injEq, and_true, true_and]); (try omega)
end Go.Am
/-
  CONTRACTS, BY PROGRAM: moves of cells.
-/
set_option maxRecDepth 100000
namespace Go.Am
open Sx Go.Proofs

theorem middle {x y q : Int} (h : -1000000 ≤ x ∧ x ≤ 1000000 ∧ -1000000 ≤ y ∧ y ≤ 1000000) : Cc 82 [.i x, .i y, .i q] [.i (2 * x + 1), .i (2 * y + 1)] := by
  refine q82 rfl ?_; unfold p82
  repeat (first | simp (disch := omega) only [↓qxs, ↓qxc, ↓qxa])
  (try simp only [List.cons.injEq, Lf.i.injEq, and_true, true_and]); (try omega)
theorem moved00 {m n x y : Int} (h : (-16384 ≤ m ∧ m ≤ 16384 ∧ -16384 ≤ n ∧ n ≤ 16384 ∧ (m + n) % 2 = 0) ∧ -4096 ≤ x ∧ x ≤ 4096 ∧ -4096 ≤ y ∧ y ≤ 4096) : Cc 80 [.i 0, .i m, .i n, .i x, .i y, .i 0] [.i (x + m), .i (y + n), .i 0] := by
  refine q80 rfl ?_; unfold p80
  repeat (first | simp (disch := omega) only [↓qxs, ↓qxc, ↓qxa, ↓gs0] | refine p_opt_r (by simp only [pickL, putL, offX, Int.reduceToNat, Int.reduceAdd, Int.reduceMul, Int.reduceMod, Int.reduceSub, Int.reduceNeg, Int.reduceDiv, Nat.reduceAdd, Nat.reduceMul, Nat.reduceLeDiff, List.length_cons, List.length_nil, ↓reduceIte, List.drop_succ_cons, List.drop_zero, List.take_succ_cons, List.take_zero, List.cons_append, List.nil_append, Nat.zero_add, Int.toNat_zero, Nat.zero_mul, Nat.add_zero, Int.zero_add]; exact rfl) ?_ | refine p_loop 6 ?_ | refine p_call (middle (by omega)) ?_ | refine p_call (mpoint0 (by omega)) ?_)
  (try simp only [List.cons.injEq, Lf.i.injEq, and_true, true_and]); (try omega)
theorem moved01 {m n x y : Int} (h : (-16384 ≤ m ∧ m ≤ 16384 ∧ -16384 ≤ n ∧ n ≤ 16384 ∧ (m + n) % 2 = 0) ∧ -4096 ≤ x ∧ x ≤ 4096 ∧ -4096 ≤ y ∧ y ≤ 4096) : Cc 80 [.i 0, .i m, .i n, .i x, .i y, .i 1] [.i (x + m), .i (y + n), .i 1] := by
  refine q80 rfl ?_; unfold p80
  repeat (first | simp (disch := omega) only [↓qxs, ↓qxc, ↓qxa, ↓gs1] | refine p_opt_r (by simp only [pickL, putL, offX, Int.reduceToNat, Int.reduceAdd, Int.reduceMul, Int.reduceMod, Int.reduceSub, Int.reduceNeg, Int.reduceDiv, Nat.reduceAdd, Nat.reduceMul, Nat.reduceLeDiff, List.length_cons, List.length_nil, ↓reduceIte, List.drop_succ_cons, List.drop_zero, List.take_succ_cons, List.take_zero, List.cons_append, List.nil_append, Nat.zero_add, Int.toNat_zero, Nat.zero_mul, Nat.add_zero, Int.zero_add]; exact rfl) ?_ | refine p_loop 6 ?_ | refine p_call (middle (by omega)) ?_ | refine p_call (mpoint0 (by omega)) ?_)
  (try simp only [List.cons.injEq, Lf.i.injEq, and_true, true_and]); (try omega)
theorem moved02 {m n x y : Int} (h : (-16384 ≤ m ∧ m ≤ 16384 ∧ -16384 ≤ n ∧ n ≤ 16384 ∧ (m + n) % 2 = 0) ∧ -4096 ≤ x ∧ x ≤ 4096 ∧ -4096 ≤ y ∧ y ≤ 4096) : Cc 80 [.i 0, .i m, .i n, .i x, .i y, .i 2] [.i (x + m), .i (y + n), .i 2] := by
  refine q80 rfl ?_; unfold p80
  repeat (first | simp (disch := omega) only [↓qxs, ↓qxc, ↓qxa, ↓gs2] | refine p_opt_r (by simp only [pickL, putL, offX, Int.reduceToNat, Int.reduceAdd, Int.reduceMul, Int.reduceMod, Int.reduceSub, Int.reduceNeg, Int.reduceDiv, Nat.reduceAdd, Nat.reduceMul, Nat.reduceLeDiff, List.length_cons, List.length_nil, ↓reduceIte, List.drop_succ_cons, List.drop_zero, List.take_succ_cons, List.take_zero, List.cons_append, List.nil_append, Nat.zero_add, Int.toNat_zero, Nat.zero_mul, Nat.add_zero, Int.zero_add]; exact rfl) ?_ | refine p_loop 6 ?_ | refine p_call (middle (by omega)) ?_ | refine p_call (mpoint0 (by omega)) ?_)
  (try simp only [List.cons.injEq, Lf.i.injEq, and_true, true_and]); (try omega)
theorem moved03 {m n x y : Int} (h : (-16384 ≤ m ∧ m ≤ 16384 ∧ -16384 ≤ n ∧ n ≤ 16384 ∧ (m + n) % 2 = 0) ∧ -4096 ≤ x ∧ x ≤ 4096 ∧ -4096 ≤ y ∧ y ≤ 4096) : Cc 80 [.i 0, .i m, .i n, .i x, .i y, .i 3] [.i (x + m), .i (y + n), .i 3] := by
  refine q80 rfl ?_; unfold p80
  repeat (first | simp (disch := omega) only [↓qxs, ↓qxc, ↓qxa, ↓gs3] | refine p_opt_r (by simp only [pickL, putL, offX, Int.reduceToNat, Int.reduceAdd, Int.reduceMul, Int.reduceMod, Int.reduceSub, Int.reduceNeg, Int.reduceDiv, Nat.reduceAdd, Nat.reduceMul, Nat.reduceLeDiff, List.length_cons, List.length_nil, ↓reduceIte, List.drop_succ_cons, List.drop_zero, List.take_succ_cons, List.take_zero, List.cons_append, List.nil_append, Nat.zero_add, Int.toNat_zero, Nat.zero_mul, Nat.add_zero, Int.zero_add]; exact rfl) ?_ | refine p_loop 6 ?_ | refine p_call (middle (by omega)) ?_ | refine p_call (mpoint0 (by omega)) ?_)
  (try simp only [List.cons.injEq, Lf.i.injEq, and_true, true_and]); (try omega)
theorem moved10 {m n x y : Int} (h : (-16384 ≤ m ∧ m ≤ 16384 ∧ -16384 ≤ n ∧ n ≤ 16384 ∧ (m + n) % 2 = 0) ∧ -4096 ≤ x ∧ x ≤ 4096 ∧ -4096 ≤ y ∧ y ≤ 4096) : Cc 80 [.i 1, .i m, .i n, .i x, .i y, .i 0] [.i (-y - 1 + m), .i (x + n), .i 1] := by
  refine q80 rfl ?_; unfold p80
  repeat (first | simp (disch := omega) only [↓qxs, ↓qxc, ↓qxa, ↓gs0] | refine p_opt_r (by simp only [pickL, putL, offX, Int.reduceToNat, Int.reduceAdd, Int.reduceMul, Int.reduceMod, Int.reduceSub, Int.reduceNeg, Int.reduceDiv, Nat.reduceAdd, Nat.reduceMul, Nat.reduceLeDiff, List.length_cons, List.length_nil, ↓reduceIte, List.drop_succ_cons, List.drop_zero, List.take_succ_cons, List.take_zero, List.cons_append, List.nil_append, Nat.zero_add, Int.toNat_zero, Nat.zero_mul, Nat.add_zero, Int.zero_add]; exact rfl) ?_ | refine p_loop 6 ?_ | refine p_call (middle (by omega)) ?_ | refine p_call (mpoint1 (by omega)) ?_)
  (try simp only [List.cons.injEq, Lf.i.injEq, and_true, true_and]); (try omega)
theorem moved11 {m n x y : Int} (h : (-16384 ≤ m ∧ m ≤ 16384 ∧ -16384 ≤ n ∧ n ≤ 16384 ∧ (m + n) % 2 = 0) ∧ -4096 ≤ x ∧ x ≤ 4096 ∧ -4096 ≤ y ∧ y ≤ 4096) : Cc 80 [.i 1, .i m, .i n, .i x, .i y, .i 1] [.i (-y - 1 + m), .i (x + n), .i 2] := by
  refine q80 rfl ?_; unfold p80
  repeat (first | simp (disch := omega) only [↓qxs, ↓qxc, ↓qxa, ↓gs1] | refine p_opt_r (by simp only [pickL, putL, offX, Int.reduceToNat, Int.reduceAdd, Int.reduceMul, Int.reduceMod, Int.reduceSub, Int.reduceNeg, Int.reduceDiv, Nat.reduceAdd, Nat.reduceMul, Nat.reduceLeDiff, List.length_cons, List.length_nil, ↓reduceIte, List.drop_succ_cons, List.drop_zero, List.take_succ_cons, List.take_zero, List.cons_append, List.nil_append, Nat.zero_add, Int.toNat_zero, Nat.zero_mul, Nat.add_zero, Int.zero_add]; exact rfl) ?_ | refine p_loop 6 ?_ | refine p_call (middle (by omega)) ?_ | refine p_call (mpoint1 (by omega)) ?_)
  (try simp only [List.cons.injEq, Lf.i.injEq, and_true, true_and]); (try omega)
theorem moved12 {m n x y : Int} (h : (-16384 ≤ m ∧ m ≤ 16384 ∧ -16384 ≤ n ∧ n ≤ 16384 ∧ (m + n) % 2 = 0) ∧ -4096 ≤ x ∧ x ≤ 4096 ∧ -4096 ≤ y ∧ y ≤ 4096) : Cc 80 [.i 1, .i m, .i n, .i x, .i y, .i 2] [.i (-y - 1 + m), .i (x + n), .i 3] := by
  refine q80 rfl ?_; unfold p80
  repeat (first | simp (disch := omega) only [↓qxs, ↓qxc, ↓qxa, ↓gs2] | refine p_opt_r (by simp only [pickL, putL, offX, Int.reduceToNat, Int.reduceAdd, Int.reduceMul, Int.reduceMod, Int.reduceSub, Int.reduceNeg, Int.reduceDiv, Nat.reduceAdd, Nat.reduceMul, Nat.reduceLeDiff, List.length_cons, List.length_nil, ↓reduceIte, List.drop_succ_cons, List.drop_zero, List.take_succ_cons, List.take_zero, List.cons_append, List.nil_append, Nat.zero_add, Int.toNat_zero, Nat.zero_mul, Nat.add_zero, Int.zero_add]; exact rfl) ?_ | refine p_loop 6 ?_ | refine p_call (middle (by omega)) ?_ | refine p_call (mpoint1 (by omega)) ?_)
  (try simp only [List.cons.injEq, Lf.i.injEq, and_true, true_and]); (try omega)
theorem moved13 {m n x y : Int} (h : (-16384 ≤ m ∧ m ≤ 16384 ∧ -16384 ≤ n ∧ n ≤ 16384 ∧ (m + n) % 2 = 0) ∧ -4096 ≤ x ∧ x ≤ 4096 ∧ -4096 ≤ y ∧ y ≤ 4096) : Cc 80 [.i 1, .i m, .i n, .i x, .i y, .i 3] [.i (-y - 1 + m), .i (x + n), .i 0] := by
  refine q80 rfl ?_; unfold p80
  repeat (first | simp (disch := omega) only [↓qxs, ↓qxc, ↓qxa, ↓gs3] | refine p_opt_r (by simp only [pickL, putL, offX, Int.reduceToNat, Int.reduceAdd, Int.reduceMul, Int.reduceMod, Int.reduceSub, Int.reduceNeg, Int.reduceDiv, Nat.reduceAdd, Nat.reduceMul, Nat.reduceLeDiff, List.length_cons, List.length_nil, ↓reduceIte, List.drop_succ_cons, List.drop_zero, List.take_succ_cons, List.take_zero, List.cons_append, List.nil_append, Nat.zero_add, Int.toNat_zero, Nat.zero_mul, Nat.add_zero, Int.zero_add]; exact rfl) ?_ | refine p_loop 6 ?_ | refine p_call (middle (by omega)) ?_ | refine p_call (mpoint1 (by omega)) ?_)
  (try simp only [List.cons.injEq, Lf.i.injEq, and_true, true_and]); (try omega)
theorem moved20 {m n x y : Int} (h : (-16384 ≤ m ∧ m ≤ 16384 ∧ -16384 ≤ n ∧ n ≤ 16384 ∧ (m + n) % 2 = 0) ∧ -4096 ≤ x ∧ x ≤ 4096 ∧ -4096 ≤ y ∧ y ≤ 4096) : Cc 80 [.i 2, .i m, .i n, .i x, .i y, .i 0] [.i (-x - 1 + m), .i (-y - 1 + n), .i 2] := by
  refine q80 rfl ?_; unfold p80
  repeat (first | simp (disch := omega) only [↓qxs, ↓qxc, ↓qxa, ↓gs0] | refine p_opt_r (by simp only [pickL, putL, offX, Int.reduceToNat, Int.reduceAdd, Int.reduceMul, Int.reduceMod, Int.reduceSub, Int.reduceNeg, Int.reduceDiv, Nat.reduceAdd, Nat.reduceMul, Nat.reduceLeDiff, List.length_cons, List.length_nil, ↓reduceIte, List.drop_succ_cons, List.drop_zero, List.take_succ_cons, List.take_zero, List.cons_append, List.nil_append, Nat.zero_add, Int.toNat_zero, Nat.zero_mul, Nat.add_zero, Int.zero_add]; exact rfl) ?_ | refine p_loop 6 ?_ | refine p_call (middle (by omega)) ?_ | refine p_call (mpoint2 (by omega)) ?_)
  (try simp only [List.cons.injEq, Lf.i.injEq, and_true, true_and]); (try omega)
theorem moved21 {m n x y : Int} (h : (-16384 ≤ m ∧ m ≤ 16384 ∧ -16384 ≤ n ∧ n ≤ 16384 ∧ (m + n) % 2 = 0) ∧ -4096 ≤ x ∧ x ≤ 4096 ∧ -4096 ≤ y ∧ y ≤ 4096) : Cc 80 [.i 2, .i m, .i n, .i x, .i y, .i 1] [.i (-x - 1 + m), .i (-y - 1 + n), .i 3] := by
  refine q80 rfl ?_; unfold p80
  repeat (first | simp (disch := omega) only [↓qxs, ↓qxc, ↓qxa, ↓gs1] | refine p_opt_r (by simp only [pickL, putL, offX, Int.reduceToNat, Int.reduceAdd, Int.reduceMul, Int.reduceMod, Int.reduceSub, Int.reduceNeg, Int.reduceDiv, Nat.reduceAdd, Nat.reduceMul, Nat.reduceLeDiff, List.length_cons, List.length_nil, ↓reduceIte, List.drop_succ_cons, List.drop_zero, List.take_succ_cons, List.take_zero, List.cons_append, List.nil_append, Nat.zero_add, Int.toNat_zero, Nat.zero_mul, Nat.add_zero, Int.zero_add]; exact rfl) ?_ | refine p_loop 6 ?_ | refine p_call (middle (by omega)) ?_ | refine p_call (mpoint2 (by omega)) ?_)
  (try simp only [List.cons.injEq, Lf.i.injEq, and_true, true_and]); (try omega)
theorem moved22 {m n x y : Int} (h : (-16384 ≤ m ∧ m ≤ 16384 ∧ -16384 ≤ n ∧ n ≤ 16384 ∧ (m + n) % 2 = 0) ∧ -4096 ≤ x ∧ x ≤ 4096 ∧ -4096 ≤ y ∧ y ≤ 4096) : Cc 80 [.i 2, .i m, .i n, .i x, .i y, .i 2] [.i (-x - 1 + m), .i (-y - 1 + n), .i 0] := by
  refine q80 rfl ?_; unfold p80
  repeat (first | simp (disch := omega) only [↓qxs, ↓qxc, ↓qxa, ↓gs2] | refine p_opt_r (by simp only [pickL, putL, offX, Int.reduceToNat, Int.reduceAdd, Int.reduceMul, Int.reduceMod, Int.reduceSub, Int.reduceNeg, Int.reduceDiv, Nat.reduceAdd, Nat.reduceMul, Nat.reduceLeDiff, List.length_cons, List.length_nil, ↓reduceIte, List.drop_succ_cons, List.drop_zero, List.take_succ_cons, List.take_zero, List.cons_append, List.nil_append, Nat.zero_add, Int.toNat_zero, Nat.zero_mul, Nat.add_zero, Int.zero_add]; exact rfl) ?_ | refine p_loop 6 ?_ | refine p_call (middle (by omega)) ?_ | refine p_call (mpoint2 (by omega)) ?_)
  (try simp only [List.cons.injEq, Lf.i.injEq, and_true, true_and]); (try omega)
theorem moved23 {m n x y : Int} (h : (-16384 ≤ m ∧ m ≤ 16384 ∧ -16384 ≤ n ∧ n ≤ 16384 ∧ (m + n) % 2 = 0) ∧ -4096 ≤ x ∧ x ≤ 4096 ∧ -4096 ≤ y ∧ y ≤ 4096) : Cc 80 [.i 2, .i m, .i n, .i x, .i y, .i 3] [.i (-x - 1 + m), .i (-y - 1 + n), .i 1] := by
  refine q80 rfl ?_; unfold p80
  repeat (first | simp (disch := omega) only [↓qxs, ↓qxc, ↓qxa, ↓gs3] | refine p_opt_r (by simp only [pickL, putL, offX, Int.reduceToNat, Int.reduceAdd, Int.reduceMul, Int.reduceMod, Int.reduceSub, Int.reduceNeg, Int.reduceDiv, Nat.reduceAdd, Nat.reduceMul, Nat.reduceLeDiff, List.length_cons, List.length_nil, ↓reduceIte, List.drop_succ_cons, List.drop_zero, List.take_succ_cons, List.take_zero, List.cons_append, List.nil_append, Nat.zero_add, Int.toNat_zero, Nat.zero_mul, Nat.add_zero, Int.zero_add]; exact rfl) ?_ | refine p_loop 6 ?_ | refine p_call (middle (by omega)) ?_ | refine p_call (mpoint2 (by omega)) ?_)
  (try simp only [List.cons.injEq, Lf.i.injEq, and_true, true_and]); (try omega)
theorem moved30 {m n x y : Int} (h : (-16384 ≤ m ∧ m ≤ 16384 ∧ -16384 ≤ n ∧ n ≤ 16384 ∧ (m + n) % 2 = 0) ∧ -4096 ≤ x ∧ x ≤ 4096 ∧ -4096 ≤ y ∧ y ≤ 4096) : Cc 80 [.i 3, .i m, .i n, .i x, .i y, .i 0] [.i (y + m), .i (-x - 1 + n), .i 3] := by
  refine q80 rfl ?_; unfold p80
  repeat (first | simp (disch := omega) only [↓qxs, ↓qxc, ↓qxa, ↓gs0] | refine p_opt_r (by simp only [pickL, putL, offX, Int.reduceToNat, Int.reduceAdd, Int.reduceMul, Int.reduceMod, Int.reduceSub, Int.reduceNeg, Int.reduceDiv, Nat.reduceAdd, Nat.reduceMul, Nat.reduceLeDiff, List.length_cons, List.length_nil, ↓reduceIte, List.drop_succ_cons, List.drop_zero, List.take_succ_cons, List.take_zero, List.cons_append, List.nil_append, Nat.zero_add, Int.toNat_zero, Nat.zero_mul, Nat.add_zero, Int.zero_add]; exact rfl) ?_ | refine p_loop 6 ?_ | refine p_call (middle (by omega)) ?_ | refine p_call (mpoint3 (by omega)) ?_)
  (try simp only [List.cons.injEq, Lf.i.injEq, and_true, true_and]); (try omega)
theorem moved31 {m n x y : Int} (h : (-16384 ≤ m ∧ m ≤ 16384 ∧ -16384 ≤ n ∧ n ≤ 16384 ∧ (m + n) % 2 = 0) ∧ -4096 ≤ x ∧ x ≤ 4096 ∧ -4096 ≤ y ∧ y ≤ 4096) : Cc 80 [.i 3, .i m, .i n, .i x, .i y, .i 1] [.i (y + m), .i (-x - 1 + n), .i 0] := by
  refine q80 rfl ?_; unfold p80
  repeat (first | simp (disch := omega) only [↓qxs, ↓qxc, ↓qxa, ↓gs1] | refine p_opt_r (by simp only [pickL, putL, offX, Int.reduceToNat, Int.reduceAdd, Int.reduceMul, Int.reduceMod, Int.reduceSub, Int.reduceNeg, Int.reduceDiv, Nat.reduceAdd, Nat.reduceMul, Nat.reduceLeDiff, List.length_cons, List.length_nil, ↓reduceIte, List.drop_succ_cons, List.drop_zero, List.take_succ_cons, List.take_zero, List.cons_append, List.nil_append, Nat.zero_add, Int.toNat_zero, Nat.zero_mul, Nat.add_zero, Int.zero_add]; exact rfl) ?_ | refine p_loop 6 ?_ | refine p_call (middle (by omega)) ?_ | refine p_call (mpoint3 (by omega)) ?_)
  (try simp only [List.cons.injEq, Lf.i.injEq, and_true, true_and]); (try omega)
theorem moved32 {m n x y : Int} (h : (-16384 ≤ m ∧ m ≤ 16384 ∧ -16384 ≤ n ∧ n ≤ 16384 ∧ (m + n) % 2 = 0) ∧ -4096 ≤ x ∧ x ≤ 4096 ∧ -4096 ≤ y ∧ y ≤ 4096) : Cc 80 [.i 3, .i m, .i n, .i x, .i y, .i 2] [.i (y + m), .i (-x - 1 + n), .i 1] := by
  refine q80 rfl ?_; unfold p80
  repeat (first | simp (disch := omega) only [↓qxs, ↓qxc, ↓qxa, ↓gs2] | refine p_opt_r (by simp only [pickL, putL, offX, Int.reduceToNat, Int.reduceAdd, Int.reduceMul, Int.reduceMod, Int.reduceSub, Int.reduceNeg, Int.reduceDiv, Nat.reduceAdd, Nat.reduceMul, Nat.reduceLeDiff, List.length_cons, List.length_nil, ↓reduceIte, List.drop_succ_cons, List.drop_zero, List.take_succ_cons, List.take_zero, List.cons_append, List.nil_append, Nat.zero_add, Int.toNat_zero, Nat.zero_mul, Nat.add_zero, Int.zero_add]; exact rfl) ?_ | refine p_loop 6 ?_ | refine p_call (middle (by omega)) ?_ | refine p_call (mpoint3 (by omega)) ?_)
  (try simp only [List.cons.injEq, Lf.i.injEq, and_true, true_and]); (try omega)
theorem moved33 {m n x y : Int} (h : (-16384 ≤ m ∧ m ≤ 16384 ∧ -16384 ≤ n ∧ n ≤ 16384 ∧ (m + n) % 2 = 0) ∧ -4096 ≤ x ∧ x ≤ 4096 ∧ -4096 ≤ y ∧ y ≤ 4096) : Cc 80 [.i 3, .i m, .i n, .i x, .i y, .i 3] [.i (y + m), .i (-x - 1 + n), .i 2] := by
  refine q80 rfl ?_; unfold p80
  repeat (first | simp (disch := omega) only [↓qxs, ↓qxc, ↓qxa, ↓gs3] | refine p_opt_r (by simp only [pickL, putL, offX, Int.reduceToNat, Int.reduceAdd, Int.reduceMul, Int.reduceMod, Int.reduceSub, Int.reduceNeg, Int.reduceDiv, Nat.reduceAdd, Nat.reduceMul, Nat.reduceLeDiff, List.length_cons, List.length_nil, ↓reduceIte, List.drop_succ_cons, List.drop_zero, List.take_succ_cons, List.take_zero, List.cons_append, List.nil_append, Nat.zero_add, Int.toNat_zero, Nat.zero_mul, Nat.add_zero, Int.zero_add]; exact rfl) ?_ | refine p_loop 6 ?_ | refine p_call (middle (by omega)) ?_ | refine p_call (mpoint3 (by omega)) ?_)
  (try simp only [List.cons.injEq, Lf.i.injEq, and_true, true_and]); (try omega)
theorem moved40 {m n x y : Int} (h : (-16384 ≤ m ∧ m ≤ 16384 ∧ -16384 ≤ n ∧ n ≤ 16384 ∧ (m + n) % 2 = 0) ∧ -4096 ≤ x ∧ x ≤ 4096 ∧ -4096 ≤ y ∧ y ≤ 4096) : Cc 80 [.i 4, .i m, .i n, .i x, .i y, .i 0] [.i (-x - 1 + m), .i (y + n), .i 0] := by
  refine q80 rfl ?_; unfold p80
  repeat (first | simp (disch := omega) only [↓qxs, ↓qxc, ↓qxa, ↓gs0] | refine p_opt_r (by simp only [pickL, putL, offX, Int.reduceToNat, Int.reduceAdd, Int.reduceMul, Int.reduceMod, Int.reduceSub, Int.reduceNeg, Int.reduceDiv, Nat.reduceAdd, Nat.reduceMul, Nat.reduceLeDiff, List.length_cons, List.length_nil, ↓reduceIte, List.drop_succ_cons, List.drop_zero, List.take_succ_cons, List.take_zero, List.cons_append, List.nil_append, Nat.zero_add, Int.toNat_zero, Nat.zero_mul, Nat.add_zero, Int.zero_add]; exact rfl) ?_ | refine p_loop 6 ?_ | refine p_call (middle (by omega)) ?_ | refine p_call (mpoint4 (by omega)) ?_)
  (try simp only [List.cons.injEq, Lf.i.injEq, and_true, true_and]); (try omega)
theorem moved41 {m n x y : Int} (h : (-16384 ≤ m ∧ m ≤ 16384 ∧ -16384 ≤ n ∧ n ≤ 16384 ∧ (m + n) % 2 = 0) ∧ -4096 ≤ x ∧ x ≤ 4096 ∧ -4096 ≤ y ∧ y ≤ 4096) : Cc 80 [.i 4, .i m, .i n, .i x, .i y, .i 1] [.i (-x - 1 + m), .i (y + n), .i 3] := by
  refine q80 rfl ?_; unfold p80
  repeat (first | simp (disch := omega) only [↓qxs, ↓qxc, ↓qxa, ↓gs1] | refine p_opt_r (by simp only [pickL, putL, offX, Int.reduceToNat, Int.reduceAdd, Int.reduceMul, Int.reduceMod, Int.reduceSub, Int.reduceNeg, Int.reduceDiv, Nat.reduceAdd, Nat.reduceMul, Nat.reduceLeDiff, List.length_cons, List.length_nil, ↓reduceIte, List.drop_succ_cons, List.drop_zero, List.take_succ_cons, List.take_zero, List.cons_append, List.nil_append, Nat.zero_add, Int.toNat_zero, Nat.zero_mul, Nat.add_zero, Int.zero_add]; exact rfl) ?_ | refine p_loop 6 ?_ | refine p_call (middle (by omega)) ?_ | refine p_call (mpoint4 (by omega)) ?_)
  (try simp only [List.cons.injEq, Lf.i.injEq, and_true, true_and]); (try omega)
theorem moved42 {m n x y : Int} (h : (-16384 ≤ m ∧ m ≤ 16384 ∧ -16384 ≤ n ∧ n ≤ 16384 ∧ (m + n) % 2 = 0) ∧ -4096 ≤ x ∧ x ≤ 4096 ∧ -4096 ≤ y ∧ y ≤ 4096) : Cc 80 [.i 4, .i m, .i n, .i x, .i y, .i 2] [.i (-x - 1 + m), .i (y + n), .i 2] := by
  refine q80 rfl ?_; unfold p80
  repeat (first | simp (disch := omega) only [↓qxs, ↓qxc, ↓qxa, ↓gs2] | refine p_opt_r (by simp only [pickL, putL, offX, Int.reduceToNat, Int.reduceAdd, Int.reduceMul, Int.reduceMod, Int.reduceSub, Int.reduceNeg, Int.reduceDiv, Nat.reduceAdd, Nat.reduceMul, Nat.reduceLeDiff, List.length_cons, List.length_nil, ↓reduceIte, List.drop_succ_cons, List.drop_zero, List.take_succ_cons, List.take_zero, List.cons_append, List.nil_append, Nat.zero_add, Int.toNat_zero, Nat.zero_mul, Nat.add_zero, Int.zero_add]; exact rfl) ?_ | refine p_loop 6 ?_ | refine p_call (middle (by omega)) ?_ | refine p_call (mpoint4 (by omega)) ?_)
  (try simp only [List.cons.injEq, Lf.i.injEq, and_true, true_and]); (try omega)
theorem moved43 {m n x y : Int} (h : (-16384 ≤ m ∧ m ≤ 16384 ∧ -16384 ≤ n ∧ n ≤ 16384 ∧ (m + n) % 2 = 0) ∧ -4096 ≤ x ∧ x ≤ 4096 ∧ -4096 ≤ y ∧ y ≤ 4096) : Cc 80 [.i 4, .i m, .i n, .i x, .i y, .i 3] [.i (-x - 1 + m), .i (y + n), .i 1] := by
  refine q80 rfl ?_; unfold p80
  repeat (first | simp (disch := omega) only [↓qxs, ↓qxc, ↓qxa, ↓gs3] | refine p_opt_r (by simp only [pickL, putL, offX, Int.reduceToNat, Int.reduceAdd, Int.reduceMul, Int.reduceMod, Int.reduceSub, Int.reduceNeg, Int.reduceDiv, Nat.reduceAdd, Nat.reduceMul, Nat.reduceLeDiff, List.length_cons, List.length_nil, ↓reduceIte, List.drop_succ_cons, List.drop_zero, List.take_succ_cons, List.take_zero, List.cons_append, List.nil_append, Nat.zero_add, Int.toNat_zero, Nat.zero_mul, Nat.add_zero, Int.zero_add]; exact rfl) ?_ | refine p_loop 6 ?_ | refine p_call (middle (by omega)) ?_ | refine p_call (mpoint4 (by omega)) ?_)
  (try simp only [List.cons.injEq, Lf.i.injEq, and_true, true_and]); (try omega)
theorem moved50 {m n x y : Int} (h : (-16384 ≤ m ∧ m ≤ 16384 ∧ -16384 ≤ n ∧ n ≤ 16384 ∧ (m + n) % 2 = 0) ∧ -4096 ≤ x ∧ x ≤ 4096 ∧ -4096 ≤ y ∧ y ≤ 4096) : Cc 80 [.i 5, .i m, .i n, .i x, .i y, .i 0] [.i (-y - 1 + m), .i (-x - 1 + n), .i 1] := by
  refine q80 rfl ?_; unfold p80
  repeat (first | simp (disch := omega) only [↓qxs, ↓qxc, ↓qxa, ↓gs0] | refine p_opt_r (by simp only [pickL, putL, offX, Int.reduceToNat, Int.reduceAdd, Int.reduceMul, Int.reduceMod, Int.reduceSub, Int.reduceNeg, Int.reduceDiv, Nat.reduceAdd, Nat.reduceMul, Nat.reduceLeDiff, List.length_cons, List.length_nil, ↓reduceIte, List.drop_succ_cons, List.drop_zero, List.take_succ_cons, List.take_zero, List.cons_append, List.nil_append, Nat.zero_add, Int.toNat_zero, Nat.zero_mul, Nat.add_zero, Int.zero_add]; exact rfl) ?_ | refine p_loop 6 ?_ | refine p_call (middle (by omega)) ?_ | refine p_call (mpoint5 (by omega)) ?_)
  (try simp only [List.cons.injEq, Lf.i.injEq, and_true, true_and]); (try omega)
theorem moved51 {m n x y : Int} (h : (-16384 ≤ m ∧ m ≤ 16384 ∧ -16384 ≤ n ∧ n ≤ 16384 ∧ (m + n) % 2 = 0) ∧ -4096 ≤ x ∧ x ≤ 4096 ∧ -4096 ≤ y ∧ y ≤ 4096) : Cc 80 [.i 5, .i m, .i n, .i x, .i y, .i 1] [.i (-y - 1 + m), .i (-x - 1 + n), .i 0] := by
  refine q80 rfl ?_; unfold p80
  repeat (first | simp (disch := omega) only [↓qxs, ↓qxc, ↓qxa, ↓gs1] | refine p_opt_r (by simp only [pickL, putL, offX, Int.reduceToNat, Int.reduceAdd, Int.reduceMul, Int.reduceMod, Int.reduceSub, Int.reduceNeg, Int.reduceDiv, Nat.reduceAdd, Nat.reduceMul, Nat.reduceLeDiff, List.length_cons, List.length_nil, ↓reduceIte, List.drop_succ_cons, List.drop_zero, List.take_succ_cons, List.take_zero, List.cons_append, List.nil_append, Nat.zero_add, Int.toNat_zero, Nat.zero_mul, Nat.add_zero, Int.zero_add]; exact rfl) ?_ | refine p_loop 6 ?_ | refine p_call (middle (by omega)) ?_ | refine p_call (mpoint5 (by omega)) ?_)
  (try simp only [List.cons.injEq, Lf.i.injEq, and_true, true_and]); (try omega)
theorem moved52 {m n x y : Int} (h : (-16384 ≤ m ∧ m ≤ 16384 ∧ -16384 ≤ n ∧ n ≤ 16384 ∧ (m + n) % 2 = 0) ∧ -4096 ≤ x ∧ x ≤ 4096 ∧ -4096 ≤ y ∧ y ≤ 4096) : Cc 80 [.i 5, .i m, .i n, .i x, .i y, .i 2] [.i (-y - 1 + m), .i (-x - 1 + n), .i 3] := by
  refine q80 rfl ?_; unfold p80
  repeat (first | simp (disch := omega) only [↓qxs, ↓qxc, ↓qxa, ↓gs2] | refine p_opt_r (by simp only [pickL, putL, offX, Int.reduceToNat, Int.reduceAdd, Int.reduceMul, Int.reduceMod, Int.reduceSub, Int.reduceNeg, Int.reduceDiv, Nat.reduceAdd, Nat.reduceMul, Nat.reduceLeDiff, List.length_cons, List.length_nil, ↓reduceIte, List.drop_succ_cons, List.drop_zero, List.take_succ_cons, List.take_zero, List.cons_append, List.nil_append, Nat.zero_add, Int.toNat_zero, Nat.zero_mul, Nat.add_zero, Int.zero_add]; exact rfl) ?_ | refine p_loop 6 ?_ | refine p_call (middle (by omega)) ?_ | refine p_call (mpoint5 (by omega)) ?_)
  (try simp only [List.cons.injEq, Lf.i.injEq, and_true, true_and]); (try omega)
theorem moved53 {m n x y : Int} (h : (-16384 ≤ m ∧ m ≤ 16384 ∧ -16384 ≤ n ∧ n ≤ 16384 ∧ (m + n) % 2 = 0) ∧ -4096 ≤ x ∧ x ≤ 4096 ∧ -4096 ≤ y ∧ y ≤ 4096) : Cc 80 [.i 5, .i m, .i n, .i x, .i y, .i 3] [.i (-y - 1 + m), .i (-x - 1 + n), .i 2] := by
  refine q80 rfl ?_; unfold p80
  repeat (first | simp (disch := omega) only [↓qxs, ↓qxc, ↓qxa, ↓gs3] | refine p_opt_r (by simp only [pickL, putL, offX, Int.reduceToNat, Int.reduceAdd, Int.reduceMul, Int.reduceMod, Int.reduceSub, Int.reduceNeg, Int.reduceDiv, Nat.reduceAdd, Nat.reduceMul, Nat.reduceLeDiff, List.length_cons, List.length_nil, ↓reduceIte, List.drop_succ_cons, List.drop_zero, List.take_succ_cons, List.take_zero, List.cons_append, List.nil_append, Nat.zero_add, Int.toNat_zero, Nat.zero_mul, Nat.add_zero, Int.zero_add]; exact rfl) ?_ | refine p_loop 6 ?_ | refine p_call (middle (by omega)) ?_ | refine p_call (mpoint5 (by omega)) ?_)
  (try simp only [List.cons.injEq, Lf.i.injEq, and_true, true_and]); (try omega)
theorem moved60 {m n x y : Int} (h : (-16384 ≤ m ∧ m ≤ 16384 ∧ -16384 ≤ n ∧ n ≤ 16384 ∧ (m + n) % 2 = 0) ∧ -4096 ≤ x ∧ x ≤ 4096 ∧ -4096 ≤ y ∧ y ≤ 4096) : Cc 80 [.i 6, .i m, .i n, .i x, .i y, .i 0] [.i (x + m), .i (-y - 1 + n), .i 2] := by
  refine q80 rfl ?_; unfold p80
  repeat (first | simp (disch := omega) only [↓qxs, ↓qxc, ↓qxa, ↓gs0] | refine p_opt_r (by simp only [pickL, putL, offX, Int.reduceToNat, Int.reduceAdd, Int.reduceMul, Int.reduceMod, Int.reduceSub, Int.reduceNeg, Int.reduceDiv, Nat.reduceAdd, Nat.reduceMul, Nat.reduceLeDiff, List.length_cons, List.length_nil, ↓reduceIte, List.drop_succ_cons, List.drop_zero, List.take_succ_cons, List.take_zero, List.cons_append, List.nil_append, Nat.zero_add, Int.toNat_zero, Nat.zero_mul, Nat.add_zero, Int.zero_add]; exact rfl) ?_ | refine p_loop 6 ?_ | refine p_call (middle (by omega)) ?_ | refine p_call (mpoint6 (by omega)) ?_)
  (try simp only [List.cons.injEq, Lf.i.injEq, and_true, true_and]); (try omega)
theorem moved61 {m n x y : Int} (h : (-16384 ≤ m ∧ m ≤ 16384 ∧ -16384 ≤ n ∧ n ≤ 16384 ∧ (m + n) % 2 = 0) ∧ -4096 ≤ x ∧ x ≤ 4096 ∧ -4096 ≤ y ∧ y ≤ 4096) : Cc 80 [.i 6, .i m, .i n, .i x, .i y, .i 1] [.i (x + m), .i (-y - 1 + n), .i 1] := by
  refine q80 rfl ?_; unfold p80
  repeat (first | simp (disch := omega) only [↓qxs, ↓qxc, ↓qxa, ↓gs1] | refine p_opt_r (by simp only [pickL, putL, offX, Int.reduceToNat, Int.reduceAdd, Int.reduceMul, Int.reduceMod, Int.reduceSub, Int.reduceNeg, Int.reduceDiv, Nat.reduceAdd, Nat.reduceMul, Nat.reduceLeDiff, List.length_cons, List.length_nil, ↓reduceIte, List.drop_succ_cons, List.drop_zero, List.take_succ_cons, List.take_zero, List.cons_append, List.nil_append, Nat.zero_add, Int.toNat_zero, Nat.zero_mul, Nat.add_zero, Int.zero_add]; exact rfl) ?_ | refine p_loop 6 ?_ | refine p_call (middle (by omega)) ?_ | refine p_call (mpoint6 (by omega)) ?_)
  (try simp only [List.cons.injEq, Lf.i.injEq, and_true, true_and]); (try omega)
theorem moved62 {m n x y : Int} (h : (-16384 ≤ m ∧ m ≤ 16384 ∧ -16384 ≤ n ∧ n ≤ 16384 ∧ (m + n) % 2 = 0) ∧ -4096 ≤ x ∧ x ≤ 4096 ∧ -4096 ≤ y ∧ y ≤ 4096) : Cc 80 [.i 6, .i m, .i n, .i x, .i y, .i 2] [.i (x + m), .i (-y - 1 + n), .i 0] := by
  refine q80 rfl ?_; unfold p80
  repeat (first | simp (disch := omega) only [↓qxs, ↓qxc, ↓qxa, ↓gs2] | refine p_opt_r (by simp only [pickL, putL, offX, Int.reduceToNat, Int.reduceAdd, Int.reduceMul, Int.reduceMod, Int.reduceSub, Int.reduceNeg, Int.reduceDiv, Nat.reduceAdd, Nat.reduceMul, Nat.reduceLeDiff, List.length_cons, List.length_nil, ↓reduceIte, List.drop_succ_cons, List.drop_zero, List.take_succ_cons, List.take_zero, List.cons_append, List.nil_append, Nat.zero_add, Int.toNat_zero, Nat.zero_mul, Nat.add_zero, Int.zero_add]; exact rfl) ?_ | refine p_loop 6 ?_ | refine p_call (middle (by omega)) ?_ | refine p_call (mpoint6 (by omega)) ?_)
  (try simp only [List.cons.injEq, Lf.i.injEq, and_true, true_and]); (try omega)
theorem moved63 {m n x y : Int} (h : (-16384 ≤ m ∧ m ≤ 16384 ∧ -16384 ≤ n ∧ n ≤ 16384 ∧ (m + n) % 2 = 0) ∧ -4096 ≤ x ∧ x ≤ 4096 ∧ -4096 ≤ y ∧ y ≤ 4096) : Cc 80 [.i 6, .i m, .i n, .i x, .i y, .i 3] [.i (x + m), .i (-y - 1 + n), .i 3] := by
  refine q80 rfl ?_; unfold p80
  repeat (first | simp (disch := omega) only [↓qxs, ↓qxc, ↓qxa, ↓gs3] | refine p_opt_r (by simp only [pickL, putL, offX, Int.reduceToNat, Int.reduceAdd, Int.reduceMul, Int.reduceMod, Int.reduceSub, Int.reduceNeg, Int.reduceDiv, Nat.reduceAdd, Nat.reduceMul, Nat.reduceLeDiff, List.length_cons, List.length_nil, ↓reduceIte, List.drop_succ_cons, List.drop_zero, List.take_succ_cons, List.take_zero, List.cons_append, List.nil_append, Nat.zero_add, Int.toNat_zero, Nat.zero_mul, Nat.add_zero, Int.zero_add]; exact rfl) ?_ | refine p_loop 6 ?_ | refine p_call (middle (by omega)) ?_ | refine p_call (mpoint6 (by omega)) ?_)
  (try simp only [List.cons.injEq, Lf.i.injEq, and_true, true_and]); (try omega)
theorem moved70 {m n x y : Int} (h : (-16384 ≤ m ∧ m ≤ 16384 ∧ -16384 ≤ n ∧ n ≤ 16384 ∧ (m + n) % 2 = 0) ∧ -4096 ≤ x ∧ x ≤ 4096 ∧ -4096 ≤ y ∧ y ≤ 4096) : Cc 80 [.i 7, .i m, .i n, .i x, .i y, .i 0] [.i (y + m), .i (x + n), .i 3] := by
  refine q80 rfl ?_; unfold p80
  repeat (first | simp (disch := omega) only [↓qxs, ↓qxc, ↓qxa, ↓gs0] | refine p_opt_r (by simp only [pickL, putL, offX, Int.reduceToNat, Int.reduceAdd, Int.reduceMul, Int.reduceMod, Int.reduceSub, Int.reduceNeg, Int.reduceDiv, Nat.reduceAdd, Nat.reduceMul, Nat.reduceLeDiff, List.length_cons, List.length_nil, ↓reduceIte, List.drop_succ_cons, List.drop_zero, List.take_succ_cons, List.take_zero, List.cons_append, List.nil_append, Nat.zero_add, Int.toNat_zero, Nat.zero_mul, Nat.add_zero, Int.zero_add]; exact rfl) ?_ | refine p_loop 6 ?_ | refine p_call (middle (by omega)) ?_ | refine p_call (mpoint7 (by omega)) ?_)
  (try simp only [List.cons.injEq, Lf.i.injEq, and_true, true_and]); (try omega)
theorem moved71 {m n x y : Int} (h : (-16384 ≤ m ∧ m ≤ 16384 ∧ -16384 ≤ n ∧ n ≤ 16384 ∧ (m + n) % 2 = 0) ∧ -4096 ≤ x ∧ x ≤ 4096 ∧ -4096 ≤ y ∧ y ≤ 4096) : Cc 80 [.i 7, .i m, .i n, .i x, .i y, .i 1] [.i (y + m), .i (x + n), .i 2] := by
  refine q80 rfl ?_; unfold p80
  repeat (first | simp (disch := omega) only [↓qxs, ↓qxc, ↓qxa, ↓gs1] | refine p_opt_r (by simp only [pickL, putL, offX, Int.reduceToNat, Int.reduceAdd, Int.reduceMul, Int.reduceMod, Int.reduceSub, Int.reduceNeg, Int.reduceDiv, Nat.reduceAdd, Nat.reduceMul, Nat.reduceLeDiff, List.length_cons, List.length_nil, ↓reduceIte, List.drop_succ_cons, List.drop_zero, List.take_succ_cons, List.take_zero, List.cons_append, List.nil_append, Nat.zero_add, Int.toNat_zero, Nat.zero_mul, Nat.add_zero, Int.zero_add]; exact rfl) ?_ | refine p_loop 6 ?_ | refine p_call (middle (by omega)) ?_ | refine p_call (mpoint7 (by omega)) ?_)
  (try simp only [List.cons.injEq, Lf.i.injEq, and_true, true_and]); (try omega)
theorem moved72 {m n x y : Int} (h : (-16384 ≤ m ∧ m ≤ 16384 ∧ -16384 ≤ n ∧ n ≤ 16384 ∧ (m + n) % 2 = 0) ∧ -4096 ≤ x ∧ x ≤ 4096 ∧ -4096 ≤ y ∧ y ≤ 4096) : Cc 80 [.i 7, .i m, .i n, .i x, .i y, .i 2] [.i (y + m), .i (x + n), .i 1] := by
  refine q80 rfl ?_; unfold p80
  repeat (first | simp (disch := omega) only [↓qxs, ↓qxc, ↓qxa, ↓gs2] | refine p_opt_r (by simp only [pickL, putL, offX, Int.reduceToNat, Int.reduceAdd, Int.reduceMul, Int.reduceMod, Int.reduceSub, Int.reduceNeg, Int.reduceDiv, Nat.reduceAdd, Nat.reduceMul, Nat.reduceLeDiff, List.length_cons, List.length_nil, ↓reduceIte, List.drop_succ_cons, List.drop_zero, List.take_succ_cons, List.take_zero, List.cons_append, List.nil_append, Nat.zero_add, Int.toNat_zero, Nat.zero_mul, Nat.add_zero, Int.zero_add]; exact rfl) ?_ | refine p_loop 6 ?_ | refine p_call (middle (by omega)) ?_ | refine p_call (mpoint7 (by omega)) ?_)
  (try simp only [List.cons.injEq, Lf.i.injEq, and_true, true_and]); (try omega)
theorem moved73 {m n x y : Int} (h : (-16384 ≤ m ∧ m ≤ 16384 ∧ -16384 ≤ n ∧ n ≤ 16384 ∧ (m + n) % 2 = 0) ∧ -4096 ≤ x ∧ x ≤ 4096 ∧ -4096 ≤ y ∧ y ≤ 4096) : Cc 80 [.i 7, .i m, .i n, .i x, .i y, .i 3] [.i (y + m), .i (x + n), .i 0] := by
  refine q80 rfl ?_; unfold p80
  repeat (first | simp (disch := omega) only [↓qxs, ↓qxc, ↓qxa, ↓gs3] | refine p_opt_r (by simp only [pickL, putL, offX, Int.reduceToNat, Int.reduceAdd, Int.reduceMul, Int.reduceMod, Int.reduceSub, Int.reduceNeg, Int.reduceDiv, Nat.reduceAdd, Nat.reduceMul, Nat.reduceLeDiff, List.length_cons, List.length_nil, ↓reduceIte, List.drop_succ_cons, List.drop_zero, List.take_succ_cons, List.take_zero, List.cons_append, List.nil_append, Nat.zero_add, Int.toNat_zero, Nat.zero_mul, Nat.add_zero, Int.zero_add]; exact rfl) ?_ | refine p_loop 6 ?_ | refine p_call (middle (by omega)) ?_ | refine p_call (mpoint7 (by omega)) ?_)
  (try simp only [List.cons.injEq, Lf.i.injEq, and_true, true_and]); (try omega)
end Go.Am
/-
  CONTRACTS, BY PROGRAM: cells moved.
-/
set_option maxRecDepth 100000
namespace Go.Am
open Sx Go.Proofs

theorem cmove00 {m n x y : Int} (h : (-16384 ≤ m ∧ m ≤ 16384 ∧ -16384 ≤ n ∧ n ≤ 16384 ∧ (m + n) % 2 = 0) ∧ -4096 ≤ x ∧ x ≤ 4096 ∧ -4096 ≤ y ∧ y ≤ 4096 ∧ -4096 ≤ x + m ∧ x + m ≤ 4096 ∧ -4096 ≤ y + n ∧ y + n ≤ 4096) : Cc 52 [.i 0, .i m, .i n, .i x, .i y, .i 0] [.i (x + m), .i (y + n), .i 0, .i 0] := by
  refine q52 rfl ?_; unfold p52
  repeat (first | simp (disch := omega) only [↓qxs, ↓qxc, ↓qxa] | refine p_call (mcheck_ok (by omega)) ?_ | refine p_call (cellCheck_ok (by omega)) ?_ | refine p_call (moved00 (by omega)) ?_)
  (try simp only [List.cons.injEq, Lf.i.injEq, and_true, true_and]); (try omega)
theorem cmove01 {m n x y : Int} (h : (-16384 ≤ m ∧ m ≤ 16384 ∧ -16384 ≤ n ∧ n ≤ 16384 ∧ (m + n) % 2 = 0) ∧ -4096 ≤ x ∧ x ≤ 4096 ∧ -4096 ≤ y ∧ y ≤ 4096 ∧ -4096 ≤ x + m ∧ x + m ≤ 4096 ∧ -4096 ≤ y + n ∧ y + n ≤ 4096) : Cc 52 [.i 0, .i m, .i n, .i x, .i y, .i 1] [.i (x + m), .i (y + n), .i 1, .i 0] := by
  refine q52 rfl ?_; unfold p52
  repeat (first | simp (disch := omega) only [↓qxs, ↓qxc, ↓qxa] | refine p_call (mcheck_ok (by omega)) ?_ | refine p_call (cellCheck_ok (by omega)) ?_ | refine p_call (moved01 (by omega)) ?_)
  (try simp only [List.cons.injEq, Lf.i.injEq, and_true, true_and]); (try omega)
theorem cmove02 {m n x y : Int} (h : (-16384 ≤ m ∧ m ≤ 16384 ∧ -16384 ≤ n ∧ n ≤ 16384 ∧ (m + n) % 2 = 0) ∧ -4096 ≤ x ∧ x ≤ 4096 ∧ -4096 ≤ y ∧ y ≤ 4096 ∧ -4096 ≤ x + m ∧ x + m ≤ 4096 ∧ -4096 ≤ y + n ∧ y + n ≤ 4096) : Cc 52 [.i 0, .i m, .i n, .i x, .i y, .i 2] [.i (x + m), .i (y + n), .i 2, .i 0] := by
  refine q52 rfl ?_; unfold p52
  repeat (first | simp (disch := omega) only [↓qxs, ↓qxc, ↓qxa] | refine p_call (mcheck_ok (by omega)) ?_ | refine p_call (cellCheck_ok (by omega)) ?_ | refine p_call (moved02 (by omega)) ?_)
  (try simp only [List.cons.injEq, Lf.i.injEq, and_true, true_and]); (try omega)
theorem cmove03 {m n x y : Int} (h : (-16384 ≤ m ∧ m ≤ 16384 ∧ -16384 ≤ n ∧ n ≤ 16384 ∧ (m + n) % 2 = 0) ∧ -4096 ≤ x ∧ x ≤ 4096 ∧ -4096 ≤ y ∧ y ≤ 4096 ∧ -4096 ≤ x + m ∧ x + m ≤ 4096 ∧ -4096 ≤ y + n ∧ y + n ≤ 4096) : Cc 52 [.i 0, .i m, .i n, .i x, .i y, .i 3] [.i (x + m), .i (y + n), .i 3, .i 0] := by
  refine q52 rfl ?_; unfold p52
  repeat (first | simp (disch := omega) only [↓qxs, ↓qxc, ↓qxa] | refine p_call (mcheck_ok (by omega)) ?_ | refine p_call (cellCheck_ok (by omega)) ?_ | refine p_call (moved03 (by omega)) ?_)
  (try simp only [List.cons.injEq, Lf.i.injEq, and_true, true_and]); (try omega)
theorem cmove10 {m n x y : Int} (h : (-16384 ≤ m ∧ m ≤ 16384 ∧ -16384 ≤ n ∧ n ≤ 16384 ∧ (m + n) % 2 = 0) ∧ -4096 ≤ x ∧ x ≤ 4096 ∧ -4096 ≤ y ∧ y ≤ 4096 ∧ -4096 ≤ -y - 1 + m ∧ -y - 1 + m ≤ 4096 ∧ -4096 ≤ x + n ∧ x + n ≤ 4096) : Cc 52 [.i 1, .i m, .i n, .i x, .i y, .i 0] [.i (-y - 1 + m), .i (x + n), .i 1, .i 0] := by
  refine q52 rfl ?_; unfold p52
  repeat (first | simp (disch := omega) only [↓qxs, ↓qxc, ↓qxa] | refine p_call (mcheck_ok (by omega)) ?_ | refine p_call (cellCheck_ok (by omega)) ?_ | refine p_call (moved10 (by omega)) ?_)
  (try simp only [List.cons.injEq, Lf.i.injEq, and_true, true_and]); (try omega)
theorem cmove11 {m n x y : Int} (h : (-16384 ≤ m ∧ m ≤ 16384 ∧ -16384 ≤ n ∧ n ≤ 16384 ∧ (m + n) % 2 = 0) ∧ -4096 ≤ x ∧ x ≤ 4096 ∧ -4096 ≤ y ∧ y ≤ 4096 ∧ -4096 ≤ -y - 1 + m ∧ -y - 1 + m ≤ 4096 ∧ -4096 ≤ x + n ∧ x + n ≤ 4096) : Cc 52 [.i 1, .i m, .i n, .i x, .i y, .i 1] [.i (-y - 1 + m), .i (x + n), .i 2, .i 0] := by
  refine q52 rfl ?_; unfold p52
  repeat (first | simp (disch := omega) only [↓qxs, ↓qxc, ↓qxa] | refine p_call (mcheck_ok (by omega)) ?_ | refine p_call (cellCheck_ok (by omega)) ?_ | refine p_call (moved11 (by omega)) ?_)
  (try simp only [List.cons.injEq, Lf.i.injEq, and_true, true_and]); (try omega)
theorem cmove12 {m n x y : Int} (h : (-16384 ≤ m ∧ m ≤ 16384 ∧ -16384 ≤ n ∧ n ≤ 16384 ∧ (m + n) % 2 = 0) ∧ -4096 ≤ x ∧ x ≤ 4096 ∧ -4096 ≤ y ∧ y ≤ 4096 ∧ -4096 ≤ -y - 1 + m ∧ -y - 1 + m ≤ 4096 ∧ -4096 ≤ x + n ∧ x + n ≤ 4096) : Cc 52 [.i 1, .i m, .i n, .i x, .i y, .i 2] [.i (-y - 1 + m), .i (x + n), .i 3, .i 0] := by
  refine q52 rfl ?_; unfold p52
  repeat (first | simp (disch := omega) only [↓qxs, ↓qxc, ↓qxa] | refine p_call (mcheck_ok (by omega)) ?_ | refine p_call (cellCheck_ok (by omega)) ?_ | refine p_call (moved12 (by omega)) ?_)
  (try simp only [List.cons.injEq, Lf.i.injEq, and_true, true_and]); (try omega)
theorem cmove13 {m n x y : Int} (h : (-16384 ≤ m ∧ m ≤ 16384 ∧ -16384 ≤ n ∧ n ≤ 16384 ∧ (m + n) % 2 = 0) ∧ -4096 ≤ x ∧ x ≤ 4096 ∧ -4096 ≤ y ∧ y ≤ 4096 ∧ -4096 ≤ -y - 1 + m ∧ -y - 1 + m ≤ 4096 ∧ -4096 ≤ x + n ∧ x + n ≤ 4096) : Cc 52 [.i 1, .i m, .i n, .i x, .i y, .i 3] [.i (-y - 1 + m), .i (x + n), .i 0, .i 0] := by
  refine q52 rfl ?_; unfold p52
  repeat (first | simp (disch := omega) only [↓qxs, ↓qxc, ↓qxa] | refine p_call (mcheck_ok (by omega)) ?_ | refine p_call (cellCheck_ok (by omega)) ?_ | refine p_call (moved13 (by omega)) ?_)
  (try simp only [List.cons.injEq, Lf.i.injEq, and_true, true_and]); (try omega)
theorem cmove20 {m n x y : Int} (h : (-16384 ≤ m ∧ m ≤ 16384 ∧ -16384 ≤ n ∧ n ≤ 16384 ∧ (m + n) % 2 = 0) ∧ -4096 ≤ x ∧ x ≤ 4096 ∧ -4096 ≤ y ∧ y ≤ 4096 ∧ -4096 ≤ -x - 1 + m ∧ -x - 1 + m ≤ 4096 ∧ -4096 ≤ -y - 1 + n ∧ -y - 1 + n ≤ 4096) : Cc 52 [.i 2, .i m, .i n, .i x, .i y, .i 0] [.i (-x - 1 + m), .i (-y - 1 + n), .i 2, .i 0] := by
  refine q52 rfl ?_; unfold p52
  repeat (first | simp (disch := omega) only [↓qxs, ↓qxc, ↓qxa] | refine p_call (mcheck_ok (by omega)) ?_ | refine p_call (cellCheck_ok (by omega)) ?_ | refine p_call (moved20 (by omega)) ?_)
  (try simp only [List.cons.injEq, Lf.i.injEq, and_true, true_and]); (try omega)
theorem cmove21 {m n x y : Int} (h : (-16384 ≤ m ∧ m ≤ 16384 ∧ -16384 ≤ n ∧ n ≤ 16384 ∧ (m + n) % 2 = 0) ∧ -4096 ≤ x ∧ x ≤ 4096 ∧ -4096 ≤ y ∧ y ≤ 4096 ∧ -4096 ≤ -x - 1 + m ∧ -x - 1 + m ≤ 4096 ∧ -4096 ≤ -y - 1 + n ∧ -y - 1 + n ≤ 4096) : Cc 52 [.i 2, .i m, .i n, .i x, .i y, .i 1] [.i (-x - 1 + m), .i (-y - 1 + n), .i 3, .i 0] := by
  refine q52 rfl ?_; unfold p52
  repeat (first | simp (disch := omega) only [↓qxs, ↓qxc, ↓qxa] | refine p_call (mcheck_ok (by omega)) ?_ | refine p_call (cellCheck_ok (by omega)) ?_ | refine p_call (moved21 (by omega)) ?_)
  (try simp only [List.cons.injEq, Lf.i.injEq, and_true, true_and]); (try omega)
theorem cmove22 {m n x y : Int} (h : (-16384 ≤ m ∧ m ≤ 16384 ∧ -16384 ≤ n ∧ n ≤ 16384 ∧ (m + n) % 2 = 0) ∧ -4096 ≤ x ∧ x ≤ 4096 ∧ -4096 ≤ y ∧ y ≤ 4096 ∧ -4096 ≤ -x - 1 + m ∧ -x - 1 + m ≤ 4096 ∧ -4096 ≤ -y - 1 + n ∧ -y - 1 + n ≤ 4096) : Cc 52 [.i 2, .i m, .i n, .i x, .i y, .i 2] [.i (-x - 1 + m), .i (-y - 1 + n), .i 0, .i 0] := by
  refine q52 rfl ?_; unfold p52
  repeat (first | simp (disch := omega) only [↓qxs, ↓qxc, ↓qxa] | refine p_call (mcheck_ok (by omega)) ?_ | refine p_call (cellCheck_ok (by omega)) ?_ | refine p_call (moved22 (by omega)) ?_)
  (try simp only [List.cons.injEq, Lf.i.injEq, and_true, true_and]); (try omega)
theorem cmove23 {m n x y : Int} (h : (-16384 ≤ m ∧ m ≤ 16384 ∧ -16384 ≤ n ∧ n ≤ 16384 ∧ (m + n) % 2 = 0) ∧ -4096 ≤ x ∧ x ≤ 4096 ∧ -4096 ≤ y ∧ y ≤ 4096 ∧ -4096 ≤ -x - 1 + m ∧ -x - 1 + m ≤ 4096 ∧ -4096 ≤ -y - 1 + n ∧ -y - 1 + n ≤ 4096) : Cc 52 [.i 2, .i m, .i n, .i x, .i y, .i 3] [.i (-x - 1 + m), .i (-y - 1 + n), .i 1, .i 0] := by
  refine q52 rfl ?_; unfold p52
  repeat (first | simp (disch := omega) only [↓qxs, ↓qxc, ↓qxa] | refine p_call (mcheck_ok (by omega)) ?_ | refine p_call (cellCheck_ok (by omega)) ?_ | refine p_call (moved23 (by omega)) ?_)
  (try simp only [List.cons.injEq, Lf.i.injEq, and_true, true_and]); (try omega)
theorem cmove30 {m n x y : Int} (h : (-16384 ≤ m ∧ m ≤ 16384 ∧ -16384 ≤ n ∧ n ≤ 16384 ∧ (m + n) % 2 = 0) ∧ -4096 ≤ x ∧ x ≤ 4096 ∧ -4096 ≤ y ∧ y ≤ 4096 ∧ -4096 ≤ y + m ∧ y + m ≤ 4096 ∧ -4096 ≤ -x - 1 + n ∧ -x - 1 + n ≤ 4096) : Cc 52 [.i 3, .i m, .i n, .i x, .i y, .i 0] [.i (y + m), .i (-x - 1 + n), .i 3, .i 0] := by
  refine q52 rfl ?_; unfold p52
  repeat (first | simp (disch := omega) only [↓qxs, ↓qxc, ↓qxa] | refine p_call (mcheck_ok (by omega)) ?_ | refine p_call (cellCheck_ok (by omega)) ?_ | refine p_call (moved30 (by omega)) ?_)
  (try simp only [List.cons.injEq, Lf.i.injEq, and_true, true_and]); (try omega)
theorem cmove31 {m n x y : Int} (h : (-16384 ≤ m ∧ m ≤ 16384 ∧ -16384 ≤ n ∧ n ≤ 16384 ∧ (m + n) % 2 = 0) ∧ -4096 ≤ x ∧ x ≤ 4096 ∧ -4096 ≤ y ∧ y ≤ 4096 ∧ -4096 ≤ y + m ∧ y + m ≤ 4096 ∧ -4096 ≤ -x - 1 + n ∧ -x - 1 + n ≤ 4096) : Cc 52 [.i 3, .i m, .i n, .i x, .i y, .i 1] [.i (y + m), .i (-x - 1 + n), .i 0, .i 0] := by
  refine q52 rfl ?_; unfold p52
  repeat (first | simp (disch := omega) only [↓qxs, ↓qxc, ↓qxa] | refine p_call (mcheck_ok (by omega)) ?_ | refine p_call (cellCheck_ok (by omega)) ?_ | refine p_call (moved31 (by omega)) ?_)
  (try simp only [List.cons.injEq, Lf.i.injEq, and_true, true_and]); (try omega)
theorem cmove32 {m n x y : Int} (h : (-16384 ≤ m ∧ m ≤ 16384 ∧ -16384 ≤ n ∧ n ≤ 16384 ∧ (m + n) % 2 = 0) ∧ -4096 ≤ x ∧ x ≤ 4096 ∧ -4096 ≤ y ∧ y ≤ 4096 ∧ -4096 ≤ y + m ∧ y + m ≤ 4096 ∧ -4096 ≤ -x - 1 + n ∧ -x - 1 + n ≤ 4096) : Cc 52 [.i 3, .i m, .i n, .i x, .i y, .i 2] [.i (y + m), .i (-x - 1 + n), .i 1, .i 0] := by
  refine q52 rfl ?_; unfold p52
  repeat (first | simp (disch := omega) only [↓qxs, ↓qxc, ↓qxa] | refine p_call (mcheck_ok (by omega)) ?_ | refine p_call (cellCheck_ok (by omega)) ?_ | refine p_call (moved32 (by omega)) ?_)
  (try simp only [List.cons.injEq, Lf.i.injEq, and_true, true_and]); (try omega)
theorem cmove33 {m n x y : Int} (h : (-16384 ≤ m ∧ m ≤ 16384 ∧ -16384 ≤ n ∧ n ≤ 16384 ∧ (m + n) % 2 = 0) ∧ -4096 ≤ x ∧ x ≤ 4096 ∧ -4096 ≤ y ∧ y ≤ 4096 ∧ -4096 ≤ y + m ∧ y + m ≤ 4096 ∧ -4096 ≤ -x - 1 + n ∧ -x - 1 + n ≤ 4096) : Cc 52 [.i 3, .i m, .i n, .i x, .i y, .i 3] [.i (y + m), .i (-x - 1 + n), .i 2, .i 0] := by
  refine q52 rfl ?_; unfold p52
  repeat (first | simp (disch := omega) only [↓qxs, ↓qxc, ↓qxa] | refine p_call (mcheck_ok (by omega)) ?_ | refine p_call (cellCheck_ok (by omega)) ?_ | refine p_call (moved33 (by omega)) ?_)
  (try simp only [List.cons.injEq, Lf.i.injEq, and_true, true_and]); (try omega)
theorem cmove40 {m n x y : Int} (h : (-16384 ≤ m ∧ m ≤ 16384 ∧ -16384 ≤ n ∧ n ≤ 16384 ∧ (m + n) % 2 = 0) ∧ -4096 ≤ x ∧ x ≤ 4096 ∧ -4096 ≤ y ∧ y ≤ 4096 ∧ -4096 ≤ -x - 1 + m ∧ -x - 1 + m ≤ 4096 ∧ -4096 ≤ y + n ∧ y + n ≤ 4096) : Cc 52 [.i 4, .i m, .i n, .i x, .i y, .i 0] [.i (-x - 1 + m), .i (y + n), .i 0, .i 0] := by
  refine q52 rfl ?_; unfold p52
  repeat (first | simp (disch := omega) only [↓qxs, ↓qxc, ↓qxa] | refine p_call (mcheck_ok (by omega)) ?_ | refine p_call (cellCheck_ok (by omega)) ?_ | refine p_call (moved40 (by omega)) ?_)
  (try simp only [List.cons.injEq, Lf.i.injEq, and_true, true_and]); (try omega)
theorem cmove41 {m n x y : Int} (h : (-16384 ≤ m ∧ m ≤ 16384 ∧ -16384 ≤ n ∧ n ≤ 16384 ∧ (m + n) % 2 = 0) ∧ -4096 ≤ x ∧ x ≤ 4096 ∧ -4096 ≤ y ∧ y ≤ 4096 ∧ -4096 ≤ -x - 1 + m ∧ -x - 1 + m ≤ 4096 ∧ -4096 ≤ y + n ∧ y + n ≤ 4096) : Cc 52 [.i 4, .i m, .i n, .i x, .i y, .i 1] [.i (-x - 1 + m), .i (y + n), .i 3, .i 0] := by
  refine q52 rfl ?_; unfold p52
  repeat (first | simp (disch := omega) only [↓qxs, ↓qxc, ↓qxa] | refine p_call (mcheck_ok (by omega)) ?_ | refine p_call (cellCheck_ok (by omega)) ?_ | refine p_call (moved41 (by omega)) ?_)
  (try simp only [List.cons.injEq, Lf.i.injEq, and_true, true_and]); (try omega)
theorem cmove42 {m n x y : Int} (h : (-16384 ≤ m ∧ m ≤ 16384 ∧ -16384 ≤ n ∧ n ≤ 16384 ∧ (m + n) % 2 = 0) ∧ -4096 ≤ x ∧ x ≤ 4096 ∧ -4096 ≤ y ∧ y ≤ 4096 ∧ -4096 ≤ -x - 1 + m ∧ -x - 1 + m ≤ 4096 ∧ -4096 ≤ y + n ∧ y + n ≤ 4096) : Cc 52 [.i 4, .i m, .i n, .i x, .i y, .i 2] [.i (-x - 1 + m), .i (y + n), .i 2, .i 0] := by
  refine q52 rfl ?_; unfold p52
  repeat (first | simp (disch := omega) only [↓qxs, ↓qxc, ↓qxa] | refine p_call (mcheck_ok (by omega)) ?_ | refine p_call (cellCheck_ok (by omega)) ?_ | refine p_call (moved42 (by omega)) ?_)
  (try simp only [List.cons.injEq, Lf.i.injEq, and_true, true_and]); (try omega)
theorem cmove43 {m n x y : Int} (h : (-16384 ≤ m ∧ m ≤ 16384 ∧ -16384 ≤ n ∧ n ≤ 16384 ∧ (m + n) % 2 = 0) ∧ -4096 ≤ x ∧ x ≤ 4096 ∧ -4096 ≤ y ∧ y ≤ 4096 ∧ -4096 ≤ -x - 1 + m ∧ -x - 1 + m ≤ 4096 ∧ -4096 ≤ y + n ∧ y + n ≤ 4096) : Cc 52 [.i 4, .i m, .i n, .i x, .i y, .i 3] [.i (-x - 1 + m), .i (y + n), .i 1, .i 0] := by
  refine q52 rfl ?_; unfold p52
  repeat (first | simp (disch := omega) only [↓qxs, ↓qxc, ↓qxa] | refine p_call (mcheck_ok (by omega)) ?_ | refine p_call (cellCheck_ok (by omega)) ?_ | refine p_call (moved43 (by omega)) ?_)
  (try simp only [List.cons.injEq, Lf.i.injEq, and_true, true_and]); (try omega)
theorem cmove50 {m n x y : Int} (h : (-16384 ≤ m ∧ m ≤ 16384 ∧ -16384 ≤ n ∧ n ≤ 16384 ∧ (m + n) % 2 = 0) ∧ -4096 ≤ x ∧ x ≤ 4096 ∧ -4096 ≤ y ∧ y ≤ 4096 ∧ -4096 ≤ -y - 1 + m ∧ -y - 1 + m ≤ 4096 ∧ -4096 ≤ -x - 1 + n ∧ -x - 1 + n ≤ 4096) : Cc 52 [.i 5, .i m, .i n, .i x, .i y, .i 0] [.i (-y - 1 + m), .i (-x - 1 + n), .i 1, .i 0] := by
  refine q52 rfl ?_; unfold p52
  repeat (first | simp (disch := omega) only [↓qxs, ↓qxc, ↓qxa] | refine p_call (mcheck_ok (by omega)) ?_ | refine p_call (cellCheck_ok (by omega)) ?_ | refine p_call (moved50 (by omega)) ?_)
  (try simp only [List.cons.injEq, Lf.i.injEq, and_true, true_and]); (try omega)
theorem cmove51 {m n x y : Int} (h : (-16384 ≤ m ∧ m ≤ 16384 ∧ -16384 ≤ n ∧ n ≤ 16384 ∧ (m + n) % 2 = 0) ∧ -4096 ≤ x ∧ x ≤ 4096 ∧ -4096 ≤ y ∧ y ≤ 4096 ∧ -4096 ≤ -y - 1 + m ∧ -y - 1 + m ≤ 4096 ∧ -4096 ≤ -x - 1 + n ∧ -x - 1 + n ≤ 4096) : Cc 52 [.i 5, .i m, .i n, .i x, .i y, .i 1] [.i (-y - 1 + m), .i (-x - 1 + n), .i 0, .i 0] := by
  refine q52 rfl ?_; unfold p52
  repeat (first | simp (disch := omega) only [↓qxs, ↓qxc, ↓qxa] | refine p_call (mcheck_ok (by omega)) ?_ | refine p_call (cellCheck_ok (by omega)) ?_ | refine p_call (moved51 (by omega)) ?_)
  (try simp only [List.cons.injEq, Lf.i.injEq, and_true, true_and]); (try omega)
theorem cmove52 {m n x y : Int} (h : (-16384 ≤ m ∧ m ≤ 16384 ∧ -16384 ≤ n ∧ n ≤ 16384 ∧ (m + n) % 2 = 0) ∧ -4096 ≤ x ∧ x ≤ 4096 ∧ -4096 ≤ y ∧ y ≤ 4096 ∧ -4096 ≤ -y - 1 + m ∧ -y - 1 + m ≤ 4096 ∧ -4096 ≤ -x - 1 + n ∧ -x - 1 + n ≤ 4096) : Cc 52 [.i 5, .i m, .i n, .i x, .i y, .i 2] [.i (-y - 1 + m), .i (-x - 1 + n), .i 3, .i 0] := by
  refine q52 rfl ?_; unfold p52
  repeat (first | simp (disch := omega) only [↓qxs, ↓qxc, ↓qxa] | refine p_call (mcheck_ok (by omega)) ?_ | refine p_call (cellCheck_ok (by omega)) ?_ | refine p_call (moved52 (by omega)) ?_)
  (try simp only [List.cons.injEq, Lf.i.injEq, and_true, true_and]); (try omega)
theorem cmove53 {m n x y : Int} (h : (-16384 ≤ m ∧ m ≤ 16384 ∧ -16384 ≤ n ∧ n ≤ 16384 ∧ (m + n) % 2 = 0) ∧ -4096 ≤ x ∧ x ≤ 4096 ∧ -4096 ≤ y ∧ y ≤ 4096 ∧ -4096 ≤ -y - 1 + m ∧ -y - 1 + m ≤ 4096 ∧ -4096 ≤ -x - 1 + n ∧ -x - 1 + n ≤ 4096) : Cc 52 [.i 5, .i m, .i n, .i x, .i y, .i 3] [.i (-y - 1 + m), .i (-x - 1 + n), .i 2, .i 0] := by
  refine q52 rfl ?_; unfold p52
  repeat (first | simp (disch := omega) only [↓qxs, ↓qxc, ↓qxa] | refine p_call (mcheck_ok (by omega)) ?_ | refine p_call (cellCheck_ok (by omega)) ?_ | refine p_call (moved53 (by omega)) ?_)
  (try simp only [List.cons.injEq, Lf.i.injEq, and_true, true_and]); (try omega)
theorem cmove60 {m n x y : Int} (h : (-16384 ≤ m ∧ m ≤ 16384 ∧ -16384 ≤ n ∧ n ≤ 16384 ∧ (m + n) % 2 = 0) ∧ -4096 ≤ x ∧ x ≤ 4096 ∧ -4096 ≤ y ∧ y ≤ 4096 ∧ -4096 ≤ x + m ∧ x + m ≤ 4096 ∧ -4096 ≤ -y - 1 + n ∧ -y - 1 + n ≤ 4096) : Cc 52 [.i 6, .i m, .i n, .i x, .i y, .i 0] [.i (x + m), .i (-y - 1 + n), .i 2, .i 0] := by
  refine q52 rfl ?_; unfold p52
  repeat (first | simp (disch := omega) only [↓qxs, ↓qxc, ↓qxa] | refine p_call (mcheck_ok (by omega)) ?_ | refine p_call (cellCheck_ok (by omega)) ?_ | refine p_call (moved60 (by omega)) ?_)
  (try simp only [List.cons.injEq, Lf.i.injEq, and_true, true_and]); (try omega)
theorem cmove61 {m n x y : Int} (h : (-16384 ≤ m ∧ m ≤ 16384 ∧ -16384 ≤ n ∧ n ≤ 16384 ∧ (m + n) % 2 = 0) ∧ -4096 ≤ x ∧ x ≤ 4096 ∧ -4096 ≤ y ∧ y ≤ 4096 ∧ -4096 ≤ x + m ∧ x + m ≤ 4096 ∧ -4096 ≤ -y - 1 + n ∧ -y - 1 + n ≤ 4096) : Cc 52 [.i 6, .i m, .i n, .i x, .i y, .i 1] [.i (x + m), .i (-y - 1 + n), .i 1, .i 0] := by
  refine q52 rfl ?_; unfold p52
  repeat (first | simp (disch := omega) only [↓qxs, ↓qxc, ↓qxa] | refine p_call (mcheck_ok (by omega)) ?_ | refine p_call (cellCheck_ok (by omega)) ?_ | refine p_call (moved61 (by omega)) ?_)
  (try simp only [List.cons.injEq, Lf.i.injEq, and_true, true_and]); (try omega)
theorem cmove62 {m n x y : Int} (h : (-16384 ≤ m ∧ m ≤ 16384 ∧ -16384 ≤ n ∧ n ≤ 16384 ∧ (m + n) % 2 = 0) ∧ -4096 ≤ x ∧ x ≤ 4096 ∧ -4096 ≤ y ∧ y ≤ 4096 ∧ -4096 ≤ x + m ∧ x + m ≤ 4096 ∧ -4096 ≤ -y - 1 + n ∧ -y - 1 + n ≤ 4096) : Cc 52 [.i 6, .i m, .i n, .i x, .i y, .i 2] [.i (x + m), .i (-y - 1 + n), .i 0, .i 0] := by
  refine q52 rfl ?_; unfold p52
  repeat (first | simp (disch := omega) only [↓qxs, ↓qxc, ↓qxa] | refine p_call (mcheck_ok (by omega)) ?_ | refine p_call (cellCheck_ok (by omega)) ?_ | refine p_call (moved62 (by omega)) ?_)
  (try simp only [List.cons.injEq, Lf.i.injEq, and_true, true_and]); (try omega)
theorem cmove63 {m n x y : Int} (h : (-16384 ≤ m ∧ m ≤ 16384 ∧ -16384 ≤ n ∧ n ≤ 16384 ∧ (m + n) % 2 = 0) ∧ -4096 ≤ x ∧ x ≤ 4096 ∧ -4096 ≤ y ∧ y ≤ 4096 ∧ -4096 ≤ x + m ∧ x + m ≤ 4096 ∧ -4096 ≤ -y - 1 + n ∧ -y - 1 + n ≤ 4096) : Cc 52 [.i 6, .i m, .i n, .i x, .i y, .i 3] [.i (x + m), .i (-y - 1 + n), .i 3, .i 0] := by
  refine q52 rfl ?_; unfold p52
  repeat (first | simp (disch := omega) only [↓qxs, ↓qxc, ↓qxa] | refine p_call (mcheck_ok (by omega)) ?_ | refine p_call (cellCheck_ok (by omega)) ?_ | refine p_call (moved63 (by omega)) ?_)
  (try simp only [List.cons.injEq, Lf.i.injEq, and_true, true_and]); (try omega)
theorem cmove70 {m n x y : Int} (h : (-16384 ≤ m ∧ m ≤ 16384 ∧ -16384 ≤ n ∧ n ≤ 16384 ∧ (m + n) % 2 = 0) ∧ -4096 ≤ x ∧ x ≤ 4096 ∧ -4096 ≤ y ∧ y ≤ 4096 ∧ -4096 ≤ y + m ∧ y + m ≤ 4096 ∧ -4096 ≤ x + n ∧ x + n ≤ 4096) : Cc 52 [.i 7, .i m, .i n, .i x, .i y, .i 0] [.i (y + m), .i (x + n), .i 3, .i 0] := by
  refine q52 rfl ?_; unfold p52
  repeat (first | simp (disch := omega) only [↓qxs, ↓qxc, ↓qxa] | refine p_call (mcheck_ok (by omega)) ?_ | refine p_call (cellCheck_ok (by omega)) ?_ | refine p_call (moved70 (by omega)) ?_)
  (try simp only [List.cons.injEq, Lf.i.injEq, and_true, true_and]); (try omega)
theorem cmove71 {m n x y : Int} (h : (-16384 ≤ m ∧ m ≤ 16384 ∧ -16384 ≤ n ∧ n ≤ 16384 ∧ (m + n) % 2 = 0) ∧ -4096 ≤ x ∧ x ≤ 4096 ∧ -4096 ≤ y ∧ y ≤ 4096 ∧ -4096 ≤ y + m ∧ y + m ≤ 4096 ∧ -4096 ≤ x + n ∧ x + n ≤ 4096) : Cc 52 [.i 7, .i m, .i n, .i x, .i y, .i 1] [.i (y + m), .i (x + n), .i 2, .i 0] := by
  refine q52 rfl ?_; unfold p52
  repeat (first | simp (disch := omega) only [↓qxs, ↓qxc, ↓qxa] | refine p_call (mcheck_ok (by omega)) ?_ | refine p_call (cellCheck_ok (by omega)) ?_ | refine p_call (moved71 (by omega)) ?_)
  (try simp only [List.cons.injEq, Lf.i.injEq, and_true, true_and]); (try omega)
theorem cmove72 {m n x y : Int} (h : (-16384 ≤ m ∧ m ≤ 16384 ∧ -16384 ≤ n ∧ n ≤ 16384 ∧ (m + n) % 2 = 0) ∧ -4096 ≤ x ∧ x ≤ 4096 ∧ -4096 ≤ y ∧ y ≤ 4096 ∧ -4096 ≤ y + m ∧ y + m ≤ 4096 ∧ -4096 ≤ x + n ∧ x + n ≤ 4096) : Cc 52 [.i 7, .i m, .i n, .i x, .i y, .i 2] [.i (y + m), .i (x + n), .i 1, .i 0] := by
  refine q52 rfl ?_; unfold p52
  repeat (first | simp (disch := omega) only [↓qxs, ↓qxc, ↓qxa] | refine p_call (mcheck_ok (by omega)) ?_ | refine p_call (cellCheck_ok (by omega)) ?_ | refine p_call (moved72 (by omega)) ?_)
  (try simp only [List.cons.injEq, Lf.i.injEq, and_true, true_and]); (try omega)
theorem cmove73 {m n x y : Int} (h : (-16384 ≤ m ∧ m ≤ 16384 ∧ -16384 ≤ n ∧ n ≤ 16384 ∧ (m + n) % 2 = 0) ∧ -4096 ≤ x ∧ x ≤ 4096 ∧ -4096 ≤ y ∧ y ≤ 4096 ∧ -4096 ≤ y + m ∧ y + m ≤ 4096 ∧ -4096 ≤ x + n ∧ x + n ≤ 4096) : Cc 52 [.i 7, .i m, .i n, .i x, .i y, .i 3] [.i (y + m), .i (x + n), .i 0, .i 0] := by
  refine q52 rfl ?_; unfold p52
  repeat (first | simp (disch := omega) only [↓qxs, ↓qxc, ↓qxa] | refine p_call (mcheck_ok (by omega)) ?_ | refine p_call (cellCheck_ok (by omega)) ?_ | refine p_call (moved73 (by omega)) ?_)
  (try simp only [List.cons.injEq, Lf.i.injEq, and_true, true_and]); (try omega)
theorem rmove00 {m n x y : Int} (h : -50000 ≤ m ∧ m ≤ 50000 ∧ -50000 ≤ n ∧ n ≤ 50000 ∧ -50000 ≤ x ∧ x ≤ 50000 ∧ -50000 ≤ y ∧ y ≤ 50000) : Cc 54 [.i 0, .i m, .i n, .i x, .i y, .i 0] [.i (x + m), .i (y + n), .i 0] := by
  refine q54 rfl ?_; unfold p54
  repeat (first | simp (disch := omega) only [↓qxs, ↓qxc, ↓qxa] | refine p_opt_r (by simp only [pickL, putL, offX, Int.reduceToNat, Int.reduceAdd, Int.reduceMul, Int.reduceMod, Int.reduceSub, Int.reduceNeg, Int.reduceDiv, Nat.reduceAdd, Nat.reduceMul, Nat.reduceLeDiff, List.length_cons, List.length_nil, ↓reduceIte, List.drop_succ_cons, List.drop_zero, List.take_succ_cons, List.take_zero, List.cons_append, List.nil_append, Nat.zero_add, Int.toNat_zero, Nat.zero_mul, Nat.add_zero, Int.zero_add]; exact rfl) ?_ | refine p_loop 5 ?_ | refine p_call (rcorn0 (by omega)) ?_ | refine p_call (rpoint0 (by omega)) ?_ | refine p_call (with00 (by omega)) ?_ | refine p_call (with01 (by omega)) ?_ | refine p_call (with10 (by omega)) ?_ | refine p_call (with11 (by omega)) ?_ | refine p_call (with20 (by omega)) ?_ | refine p_call (with21 (by omega)) ?_ | refine p_call (with30 (by omega)) ?_ | refine p_call (with31 (by omega)) ?_)
  (try simp only [List.cons.injEq, Lf.i.injEq, and_true, true_and]); (try omega)
theorem rmove01 {m n x y : Int} (h : -50000 ≤ m ∧ m ≤ 50000 ∧ -50000 ≤ n ∧ n ≤ 50000 ∧ -50000 ≤ x ∧ x ≤ 50000 ∧ -50000 ≤ y ∧ y ≤ 50000) : Cc 54 [.i 0, .i m, .i n, .i x, .i y, .i 1] [.i (x + m), .i (y + n), .i 1] := by
  refine q54 rfl ?_; unfold p54
  repeat (first | simp (disch := omega) only [↓qxs, ↓qxc, ↓qxa] | refine p_opt_r (by simp only [pickL, putL, offX, Int.reduceToNat, Int.reduceAdd, Int.reduceMul, Int.reduceMod, Int.reduceSub, Int.reduceNeg, Int.reduceDiv, Nat.reduceAdd, Nat.reduceMul, Nat.reduceLeDiff, List.length_cons, List.length_nil, ↓reduceIte, List.drop_succ_cons, List.drop_zero, List.take_succ_cons, List.take_zero, List.cons_append, List.nil_append, Nat.zero_add, Int.toNat_zero, Nat.zero_mul, Nat.add_zero, Int.zero_add]; exact rfl) ?_ | refine p_loop 5 ?_ | refine p_call (rcorn1 (by omega)) ?_ | refine p_call (rpoint0 (by omega)) ?_ | refine p_call (with00 (by omega)) ?_ | refine p_call (with01 (by omega)) ?_ | refine p_call (with10 (by omega)) ?_ | refine p_call (with11 (by omega)) ?_ | refine p_call (with20 (by omega)) ?_ | refine p_call (with21 (by omega)) ?_ | refine p_call (with30 (by omega)) ?_ | refine p_call (with31 (by omega)) ?_)
  (try simp only [List.cons.injEq, Lf.i.injEq, and_true, true_and]); (try omega)
theorem rmove02 {m n x y : Int} (h : -50000 ≤ m ∧ m ≤ 50000 ∧ -50000 ≤ n ∧ n ≤ 50000 ∧ -50000 ≤ x ∧ x ≤ 50000 ∧ -50000 ≤ y ∧ y ≤ 50000) : Cc 54 [.i 0, .i m, .i n, .i x, .i y, .i 2] [.i (x + m), .i (y + n), .i 2] := by
  refine q54 rfl ?_; unfold p54
  repeat (first | simp (disch := omega) only [↓qxs, ↓qxc, ↓qxa] | refine p_opt_r (by simp only [pickL, putL, offX, Int.reduceToNat, Int.reduceAdd, Int.reduceMul, Int.reduceMod, Int.reduceSub, Int.reduceNeg, Int.reduceDiv, Nat.reduceAdd, Nat.reduceMul, Nat.reduceLeDiff, List.length_cons, List.length_nil, ↓reduceIte, List.drop_succ_cons, List.drop_zero, List.take_succ_cons, List.take_zero, List.cons_append, List.nil_append, Nat.zero_add, Int.toNat_zero, Nat.zero_mul, Nat.add_zero, Int.zero_add]; exact rfl) ?_ | refine p_loop 5 ?_ | refine p_call (rcorn2 (by omega)) ?_ | refine p_call (rpoint0 (by omega)) ?_ | refine p_call (with00 (by omega)) ?_ | refine p_call (with01 (by omega)) ?_ | refine p_call (with10 (by omega)) ?_ | refine p_call (with11 (by omega)) ?_ | refine p_call (with20 (by omega)) ?_ | refine p_call (with21 (by omega)) ?_ | refine p_call (with30 (by omega)) ?_ | refine p_call (with31 (by omega)) ?_)
  (try simp only [List.cons.injEq, Lf.i.injEq, and_true, true_and]); (try omega)
theorem rmove03 {m n x y : Int} (h : -50000 ≤ m ∧ m ≤ 50000 ∧ -50000 ≤ n ∧ n ≤ 50000 ∧ -50000 ≤ x ∧ x ≤ 50000 ∧ -50000 ≤ y ∧ y ≤ 50000) : Cc 54 [.i 0, .i m, .i n, .i x, .i y, .i 3] [.i (x + m), .i (y + n), .i 3] := by
  refine q54 rfl ?_; unfold p54
  repeat (first | simp (disch := omega) only [↓qxs, ↓qxc, ↓qxa] | refine p_opt_r (by simp only [pickL, putL, offX, Int.reduceToNat, Int.reduceAdd, Int.reduceMul, Int.reduceMod, Int.reduceSub, Int.reduceNeg, Int.reduceDiv, Nat.reduceAdd, Nat.reduceMul, Nat.reduceLeDiff, List.length_cons, List.length_nil, ↓reduceIte, List.drop_succ_cons, List.drop_zero, List.take_succ_cons, List.take_zero, List.cons_append, List.nil_append, Nat.zero_add, Int.toNat_zero, Nat.zero_mul, Nat.add_zero, Int.zero_add]; exact rfl) ?_ | refine p_loop 5 ?_ | refine p_call (rcorn3 (by omega)) ?_ | refine p_call (rpoint0 (by omega)) ?_ | refine p_call (with00 (by omega)) ?_ | refine p_call (with01 (by omega)) ?_ | refine p_call (with10 (by omega)) ?_ | refine p_call (with11 (by omega)) ?_ | refine p_call (with20 (by omega)) ?_ | refine p_call (with21 (by omega)) ?_ | refine p_call (with30 (by omega)) ?_ | refine p_call (with31 (by omega)) ?_)
  (try simp only [List.cons.injEq, Lf.i.injEq, and_true, true_and]); (try omega)
theorem rmove10 {m n x y : Int} (h : -50000 ≤ m ∧ m ≤ 50000 ∧ -50000 ≤ n ∧ n ≤ 50000 ∧ -50000 ≤ x ∧ x ≤ 50000 ∧ -50000 ≤ y ∧ y ≤ 50000) : Cc 54 [.i 1, .i m, .i n, .i x, .i y, .i 0] [.i (-y - 1 + m), .i (x + n), .i 1] := by
  refine q54 rfl ?_; unfold p54
  repeat (first | simp (disch := omega) only [↓qxs, ↓qxc, ↓qxa] | refine p_opt_r (by simp only [pickL, putL, offX, Int.reduceToNat, Int.reduceAdd, Int.reduceMul, Int.reduceMod, Int.reduceSub, Int.reduceNeg, Int.reduceDiv, Nat.reduceAdd, Nat.reduceMul, Nat.reduceLeDiff, List.length_cons, List.length_nil, ↓reduceIte, List.drop_succ_cons, List.drop_zero, List.take_succ_cons, List.take_zero, List.cons_append, List.nil_append, Nat.zero_add, Int.toNat_zero, Nat.zero_mul, Nat.add_zero, Int.zero_add]; exact rfl) ?_ | refine p_loop 5 ?_ | refine p_call (rcorn0 (by omega)) ?_ | refine p_call (rpoint1 (by omega)) ?_ | refine p_call (with00 (by omega)) ?_ | refine p_call (with01 (by omega)) ?_ | refine p_call (with10 (by omega)) ?_ | refine p_call (with11 (by omega)) ?_ | refine p_call (with20 (by omega)) ?_ | refine p_call (with21 (by omega)) ?_ | refine p_call (with30 (by omega)) ?_ | refine p_call (with31 (by omega)) ?_)
  (try simp only [List.cons.injEq, Lf.i.injEq, and_true, true_and]); (try omega)
theorem rmove11 {m n x y : Int} (h : -50000 ≤ m ∧ m ≤ 50000 ∧ -50000 ≤ n ∧ n ≤ 50000 ∧ -50000 ≤ x ∧ x ≤ 50000 ∧ -50000 ≤ y ∧ y ≤ 50000) : Cc 54 [.i 1, .i m, .i n, .i x, .i y, .i 1] [.i (-y - 1 + m), .i (x + n), .i 2] := by
  refine q54 rfl ?_; unfold p54
  repeat (first | simp (disch := omega) only [↓qxs, ↓qxc, ↓qxa] | refine p_opt_r (by simp only [pickL, putL, offX, Int.reduceToNat, Int.reduceAdd, Int.reduceMul, Int.reduceMod, Int.reduceSub, Int.reduceNeg, Int.reduceDiv, Nat.reduceAdd, Nat.reduceMul, Nat.reduceLeDiff, List.length_cons, List.length_nil, ↓reduceIte, List.drop_succ_cons, List.drop_zero, List.take_succ_cons, List.take_zero, List.cons_append, List.nil_append, Nat.zero_add, Int.toNat_zero, Nat.zero_mul, Nat.add_zero, Int.zero_add]; exact rfl) ?_ | refine p_loop 5 ?_ | refine p_call (rcorn1 (by omega)) ?_ | refine p_call (rpoint1 (by omega)) ?_ | refine p_call (with00 (by omega)) ?_ | refine p_call (with01 (by omega)) ?_ | refine p_call (with10 (by omega)) ?_ | refine p_call (with11 (by omega)) ?_ | refine p_call (with20 (by omega)) ?_ | refine p_call (with21 (by omega)) ?_ | refine p_call (with30 (by omega)) ?_ | refine p_call (with31 (by omega)) ?_)
  (try simp only [List.cons.injEq, Lf.i.injEq, and_true, true_and]); (try omega)
theorem rmove12 {m n x y : Int} (h : -50000 ≤ m ∧ m ≤ 50000 ∧ -50000 ≤ n ∧ n ≤ 50000 ∧ -50000 ≤ x ∧ x ≤ 50000 ∧ -50000 ≤ y ∧ y ≤ 50000) : Cc 54 [.i 1, .i m, .i n, .i x, .i y, .i 2] [.i (-y - 1 + m), .i (x + n), .i 3] := by
  refine q54 rfl ?_; unfold p54
  repeat (first | simp (disch := omega) only [↓qxs, ↓qxc, ↓qxa] | refine p_opt_r (by simp only [pickL, putL, offX, Int.reduceToNat, Int.reduceAdd, Int.reduceMul, Int.reduceMod, Int.reduceSub, Int.reduceNeg, Int.reduceDiv, Nat.reduceAdd, Nat.reduceMul, Nat.reduceLeDiff, List.length_cons, List.length_nil, ↓reduceIte, List.drop_succ_cons, List.drop_zero, List.take_succ_cons, List.take_zero, List.cons_append, List.nil_append, Nat.zero_add, Int.toNat_zero, Nat.zero_mul, Nat.add_zero, Int.zero_add]; exact rfl) ?_ | refine p_loop 5 ?_ | refine p_call (rcorn2 (by omega)) ?_ | refine p_call (rpoint1 (by omega)) ?_ | refine p_call (with00 (by omega)) ?_ | refine p_call (with01 (by omega)) ?_ | refine p_call (with10 (by omega)) ?_ | refine p_call (with11 (by omega)) ?_ | refine p_call (with20 (by omega)) ?_ | refine p_call (with21 (by omega)) ?_ | refine p_call (with30 (by omega)) ?_ | refine p_call (with31 (by omega)) ?_)
  (try simp only [List.cons.injEq, Lf.i.injEq, and_true, true_and]); (try omega)
theorem rmove13 {m n x y : Int} (h : -50000 ≤ m ∧ m ≤ 50000 ∧ -50000 ≤ n ∧ n ≤ 50000 ∧ -50000 ≤ x ∧ x ≤ 50000 ∧ -50000 ≤ y ∧ y ≤ 50000) : Cc 54 [.i 1, .i m, .i n, .i x, .i y, .i 3] [.i (-y - 1 + m), .i (x + n), .i 0] := by
  refine q54 rfl ?_; unfold p54
  repeat (first | simp (disch := omega) only [↓qxs, ↓qxc, ↓qxa] | refine p_opt_r (by simp only [pickL, putL, offX, Int.reduceToNat, Int.reduceAdd, Int.reduceMul, Int.reduceMod, Int.reduceSub, Int.reduceNeg, Int.reduceDiv, Nat.reduceAdd, Nat.reduceMul, Nat.reduceLeDiff, List.length_cons, List.length_nil, ↓reduceIte, List.drop_succ_cons, List.drop_zero, List.take_succ_cons, List.take_zero, List.cons_append, List.nil_append, Nat.zero_add, Int.toNat_zero, Nat.zero_mul, Nat.add_zero, Int.zero_add]; exact rfl) ?_ | refine p_loop 5 ?_ | refine p_call (rcorn3 (by omega)) ?_ | refine p_call (rpoint1 (by omega)) ?_ | refine p_call (with00 (by omega)) ?_ | refine p_call (with01 (by omega)) ?_ | refine p_call (with10 (by omega)) ?_ | refine p_call (with11 (by omega)) ?_ | refine p_call (with20 (by omega)) ?_ | refine p_call (with21 (by omega)) ?_ | refine p_call (with30 (by omega)) ?_ | refine p_call (with31 (by omega)) ?_)
  (try simp only [List.cons.injEq, Lf.i.injEq, and_true, true_and]); (try omega)
theorem rmove20 {m n x y : Int} (h : -50000 ≤ m ∧ m ≤ 50000 ∧ -50000 ≤ n ∧ n ≤ 50000 ∧ -50000 ≤ x ∧ x ≤ 50000 ∧ -50000 ≤ y ∧ y ≤ 50000) : Cc 54 [.i 2, .i m, .i n, .i x, .i y, .i 0] [.i (-x - 1 + m), .i (-y - 1 + n), .i 2] := by
  refine q54 rfl ?_; unfold p54
  repeat (first | simp (disch := omega) only [↓qxs, ↓qxc, ↓qxa] | refine p_opt_r (by simp only [pickL, putL, offX, Int.reduceToNat, Int.reduceAdd, Int.reduceMul, Int.reduceMod, Int.reduceSub, Int.reduceNeg, Int.reduceDiv, Nat.reduceAdd, Nat.reduceMul, Nat.reduceLeDiff, List.length_cons, List.length_nil, ↓reduceIte, List.drop_succ_cons, List.drop_zero, List.take_succ_cons, List.take_zero, List.cons_append, List.nil_append, Nat.zero_add, Int.toNat_zero, Nat.zero_mul, Nat.add_zero, Int.zero_add]; exact rfl) ?_ | refine p_loop 5 ?_ | refine p_call (rcorn0 (by omega)) ?_ | refine p_call (rpoint2 (by omega)) ?_ | refine p_call (with00 (by omega)) ?_ | refine p_call (with01 (by omega)) ?_ | refine p_call (with10 (by omega)) ?_ | refine p_call (with11 (by omega)) ?_ | refine p_call (with20 (by omega)) ?_ | refine p_call (with21 (by omega)) ?_ | refine p_call (with30 (by omega)) ?_ | refine p_call (with31 (by omega)) ?_)
  (try simp only [List.cons.injEq, Lf.i.injEq, and_true, true_and]); (try omega)
theorem rmove21 {m n x y : Int} (h : -50000 ≤ m ∧ m ≤ 50000 ∧ -50000 ≤ n ∧ n ≤ 50000 ∧ -50000 ≤ x ∧ x ≤ 50000 ∧ -50000 ≤ y ∧ y ≤ 50000) : Cc 54 [.i 2, .i m, .i n, .i x, .i y, .i 1] [.i (-x - 1 + m), .i (-y - 1 + n), .i 3] := by
  refine q54 rfl ?_; unfold p54
  repeat (first | simp (disch := omega) only [↓qxs, ↓qxc, ↓qxa] | refine p_opt_r (by simp only [pickL, putL, offX, Int.reduceToNat, Int.reduceAdd, Int.reduceMul, Int.reduceMod, Int.reduceSub, Int.reduceNeg, Int.reduceDiv, Nat.reduceAdd, Nat.reduceMul, Nat.reduceLeDiff, List.length_cons, List.length_nil, ↓reduceIte, List.drop_succ_cons, List.drop_zero, List.take_succ_cons, List.take_zero, List.cons_append, List.nil_append, Nat.zero_add, Int.toNat_zero, Nat.zero_mul, Nat.add_zero, Int.zero_add]; exact rfl) ?_ | refine p_loop 5 ?_ | refine p_call (rcorn1 (by omega)) ?_ | refine p_call (rpoint2 (by omega)) ?_ | refine p_call (with00 (by omega)) ?_ | refine p_call (with01 (by omega)) ?_ | refine p_call (with10 (by omega)) ?_ | refine p_call (with11 (by omega)) ?_ | refine p_call (with20 (by omega)) ?_ | refine p_call (with21 (by omega)) ?_ | refine p_call (with30 (by omega)) ?_ | refine p_call (with31 (by omega)) ?_)
  (try simp only [List.cons.injEq, Lf.i.injEq, and_true, true_and]); (try omega)
theorem rmove22 {m n x y : Int} (h : -50000 ≤ m ∧ m ≤ 50000 ∧ -50000 ≤ n ∧ n ≤ 50000 ∧ -50000 ≤ x ∧ x ≤ 50000 ∧ -50000 ≤ y ∧ y ≤ 50000) : Cc 54 [.i 2, .i m, .i n, .i x, .i y, .i 2] [.i (-x - 1 + m), .i (-y - 1 + n), .i 0] := by
  refine q54 rfl ?_; unfold p54
  repeat (first | simp (disch := omega) only [↓qxs, ↓qxc, ↓qxa] | refine p_opt_r (by simp only [pickL, putL, offX, Int.reduceToNat, Int.reduceAdd, Int.reduceMul, Int.reduceMod, Int.reduceSub, Int.reduceNeg, Int.reduceDiv, Nat.reduceAdd, Nat.reduceMul, Nat.reduceLeDiff, List.length_cons, List.length_nil, ↓reduceIte, List.drop_succ_cons, List.drop_zero, List.take_succ_cons, List.take_zero, List.cons_append, List.nil_append, Nat.zero_add, Int.toNat_zero, Nat.zero_mul, Nat.add_zero, Int.zero_add]; exact rfl) ?_ | refine p_loop 5 ?_ | refine p_call (rcorn2 (by omega)) ?_ | refine p_call (rpoint2 (by omega)) ?_ | refine p_call (with00 (by omega)) ?_ | refine p_call (with01 (by omega)) ?_ | refine p_call (with10 (by omega)) ?_ | refine p_call (with11 (by omega)) ?_ | refine p_call (with20 (by omega)) ?_ | refine p_call (with21 (by omega)) ?_ | refine p_call (with30 (by omega)) ?_ | refine p_call (with31 (by omega)) ?_)
  (try simp only [List.cons.injEq, Lf.i.injEq, and_true, true_and]); (try omega)
theorem rmove23 {m n x y : Int} (h : -50000 ≤ m ∧ m ≤ 50000 ∧ -50000 ≤ n ∧ n ≤ 50000 ∧ -50000 ≤ x ∧ x ≤ 50000 ∧ -50000 ≤ y ∧ y ≤ 50000) : Cc 54 [.i 2, .i m, .i n, .i x, .i y, .i 3] [.i (-x - 1 + m), .i (-y - 1 + n), .i 1] := by
  refine q54 rfl ?_; unfold p54
  repeat (first | simp (disch := omega) only [↓qxs, ↓qxc, ↓qxa] | refine p_opt_r (by simp only [pickL, putL, offX, Int.reduceToNat, Int.reduceAdd, Int.reduceMul, Int.reduceMod, Int.reduceSub, Int.reduceNeg, Int.reduceDiv, Nat.reduceAdd, Nat.reduceMul, Nat.reduceLeDiff, List.length_cons, List.length_nil, ↓reduceIte, List.drop_succ_cons, List.drop_zero, List.take_succ_cons, List.take_zero, List.cons_append, List.nil_append, Nat.zero_add, Int.toNat_zero, Nat.zero_mul, Nat.add_zero, Int.zero_add]; exact rfl) ?_ | refine p_loop 5 ?_ | refine p_call (rcorn3 (by omega)) ?_ | refine p_call (rpoint2 (by omega)) ?_ | refine p_call (with00 (by omega)) ?_ | refine p_call (with01 (by omega)) ?_ | refine p_call (with10 (by omega)) ?_ | refine p_call (with11 (by omega)) ?_ | refine p_call (with20 (by omega)) ?_ | refine p_call (with21 (by omega)) ?_ | refine p_call (with30 (by omega)) ?_ | refine p_call (with31 (by omega)) ?_)
  (try simp only [List.cons.injEq, Lf.i.injEq, and_true, true_and]); (try omega)
theorem rmove30 {m n x y : Int} (h : -50000 ≤ m ∧ m ≤ 50000 ∧ -50000 ≤ n ∧ n ≤ 50000 ∧ -50000 ≤ x ∧ x ≤ 50000 ∧ -50000 ≤ y ∧ y ≤ 50000) : Cc 54 [.i 3, .i m, .i n, .i x, .i y, .i 0] [.i (y + m), .i (-x - 1 + n), .i 3] := by
  refine q54 rfl ?_; unfold p54
  repeat (first | simp (disch := omega) only [↓qxs, ↓qxc, ↓qxa] | refine p_opt_r (by simp only [pickL, putL, offX, Int.reduceToNat, Int.reduceAdd, Int.reduceMul, Int.reduceMod, Int.reduceSub, Int.reduceNeg, Int.reduceDiv, Nat.reduceAdd, Nat.reduceMul, Nat.reduceLeDiff, List.length_cons, List.length_nil, ↓reduceIte, List.drop_succ_cons, List.drop_zero, List.take_succ_cons, List.take_zero, List.cons_append, List.nil_append, Nat.zero_add, Int.toNat_zero, Nat.zero_mul, Nat.add_zero, Int.zero_add]; exact rfl) ?_ | refine p_loop 5 ?_ | refine p_call (rcorn0 (by omega)) ?_ | refine p_call (rpoint3 (by omega)) ?_ | refine p_call (with00 (by omega)) ?_ | refine p_call (with01 (by omega)) ?_ | refine p_call (with10 (by omega)) ?_ | refine p_call (with11 (by omega)) ?_ | refine p_call (with20 (by omega)) ?_ | refine p_call (with21 (by omega)) ?_ | refine p_call (with30 (by omega)) ?_ | refine p_call (with31 (by omega)) ?_)
  (try simp only [List.cons.injEq, Lf.i.injEq, and_true, true_and]); (try omega)
theorem rmove31 {m n x y : Int} (h : -50000 ≤ m ∧ m ≤ 50000 ∧ -50000 ≤ n ∧ n ≤ 50000 ∧ -50000 ≤ x ∧ x ≤ 50000 ∧ -50000 ≤ y ∧ y ≤ 50000) : Cc 54 [.i 3, .i m, .i n, .i x, .i y, .i 1] [.i (y + m), .i (-x - 1 + n), .i 0] := by
  refine q54 rfl ?_; unfold p54
  repeat (first | simp (disch := omega) only [↓qxs, ↓qxc, ↓qxa] | refine p_opt_r (by simp only [pickL, putL, offX, Int.reduceToNat, Int.reduceAdd, Int.reduceMul, Int.reduceMod, Int.reduceSub, Int.reduceNeg, Int.reduceDiv, Nat.reduceAdd, Nat.reduceMul, Nat.reduceLeDiff, List.length_cons, List.length_nil, ↓reduceIte, List.drop_succ_cons, List.drop_zero, List.take_succ_cons, List.take_zero, List.cons_append, List.nil_append, Nat.zero_add, Int.toNat_zero, Nat.zero_mul, Nat.add_zero, Int.zero_add]; exact rfl) ?_ | refine p_loop 5 ?_ | refine p_call (rcorn1 (by omega)) ?_ | refine p_call (rpoint3 (by omega)) ?_ | refine p_call (with00 (by omega)) ?_ | refine p_call (with01 (by omega)) ?_ | refine p_call (with10 (by omega)) ?_ | refine p_call (with11 (by omega)) ?_ | refine p_call (with20 (by omega)) ?_ | refine p_call (with21 (by omega)) ?_ | refine p_call (with30 (by omega)) ?_ | refine p_call (with31 (by omega)) ?_)
  (try simp only [List.cons.injEq, Lf.i.injEq, and_true, true_and]); (try omega)
theorem rmove32 {m n x y : Int} (h : -50000 ≤ m ∧ m ≤ 50000 ∧ -50000 ≤ n ∧ n ≤ 50000 ∧ -50000 ≤ x ∧ x ≤ 50000 ∧ -50000 ≤ y ∧ y ≤ 50000) : Cc 54 [.i 3, .i m, .i n, .i x, .i y, .i 2] [.i (y + m), .i (-x - 1 + n), .i 1] := by
  refine q54 rfl ?_; unfold p54
  repeat (first | simp (disch := omega) only [↓qxs, ↓qxc, ↓qxa] | refine p_opt_r (by simp only [pickL, putL, offX, Int.reduceToNat, Int.reduceAdd, Int.reduceMul, Int.reduceMod, Int.reduceSub, Int.reduceNeg, Int.reduceDiv, Nat.reduceAdd, Nat.reduceMul, Nat.reduceLeDiff, List.length_cons, List.length_nil, ↓reduceIte, List.drop_succ_cons, List.drop_zero, List.take_succ_cons, List.take_zero, List.cons_append, List.nil_append, Nat.zero_add, Int.toNat_zero, Nat.zero_mul, Nat.add_zero, Int.zero_add]; exact rfl) ?_ | refine p_loop 5 ?_ | refine p_call (rcorn2 (by omega)) ?_ | refine p_call (rpoint3 (by omega)) ?_ | refine p_call (with00 (by omega)) ?_ | refine p_call (with01 (by omega)) ?_ | refine p_call (with10 (by omega)) ?_ | refine p_call (with11 (by omega)) ?_ | refine p_call (with20 (by omega)) ?_ | refine p_call (with21 (by omega)) ?_ | refine p_call (with30 (by omega)) ?_ | refine p_call (with31 (by omega)) ?_)
  (try simp only [List.cons.injEq, Lf.i.injEq, and_true, true_and]); (try omega)
theorem rmove33 {m n x y : Int} (h : -50000 ≤ m ∧ m ≤ 50000 ∧ -50000 ≤ n ∧ n ≤ 50000 ∧ -50000 ≤ x ∧ x ≤ 50000 ∧ -50000 ≤ y ∧ y ≤ 50000) : Cc 54 [.i 3, .i m, .i n, .i x, .i y, .i 3] [.i (y + m), .i (-x - 1 + n), .i 2] := by
  refine q54 rfl ?_; unfold p54
  repeat (first | simp (disch := omega) only [↓qxs, ↓qxc, ↓qxa] | refine p_opt_r (by simp only [pickL, putL, offX, Int.reduceToNat, Int.reduceAdd, Int.reduceMul, Int.reduceMod, Int.reduceSub, Int.reduceNeg, Int.reduceDiv, Nat.reduceAdd, Nat.reduceMul, Nat.reduceLeDiff, List.length_cons, List.length_nil, ↓reduceIte, List.drop_succ_cons, List.drop_zero, List.take_succ_cons, List.take_zero, List.cons_append, List.nil_append, Nat.zero_add, Int.toNat_zero, Nat.zero_mul, Nat.add_zero, Int.zero_add]; exact rfl) ?_ | refine p_loop 5 ?_ | refine p_call (rcorn3 (by omega)) ?_ | refine p_call (rpoint3 (by omega)) ?_ | refine p_call (with00 (by omega)) ?_ | refine p_call (with01 (by omega)) ?_ | refine p_call (with10 (by omega)) ?_ | refine p_call (with11 (by omega)) ?_ | refine p_call (with20 (by omega)) ?_ | refine p_call (with21 (by omega)) ?_ | refine p_call (with30 (by omega)) ?_ | refine p_call (with31 (by omega)) ?_)
  (try simp only [List.cons.injEq, Lf.i.injEq, and_true, true_and]); (try omega)
theorem rmove40 {m n x y : Int} (h : -50000 ≤ m ∧ m ≤ 50000 ∧ -50000 ≤ n ∧ n ≤ 50000 ∧ -50000 ≤ x ∧ x ≤ 50000 ∧ -50000 ≤ y ∧ y ≤ 50000) : Cc 54 [.i 4, .i m, .i n, .i x, .i y, .i 0] [.i (-x - 1 + m), .i (y + n), .i 0] := by
  refine q54 rfl ?_; unfold p54
  repeat (first | simp (disch := omega) only [↓qxs, ↓qxc, ↓qxa] | refine p_opt_r (by simp only [pickL, putL, offX, Int.reduceToNat, Int.reduceAdd, Int.reduceMul, Int.reduceMod, Int.reduceSub, Int.reduceNeg, Int.reduceDiv, Nat.reduceAdd, Nat.reduceMul, Nat.reduceLeDiff, List.length_cons, List.length_nil, ↓reduceIte, List.drop_succ_cons, List.drop_zero, List.take_succ_cons, List.take_zero, List.cons_append, List.nil_append, Nat.zero_add, Int.toNat_zero, Nat.zero_mul, Nat.add_zero, Int.zero_add]; exact rfl) ?_ | refine p_loop 5 ?_ | refine p_call (rcorn0 (by omega)) ?_ | refine p_call (rpoint4 (by omega)) ?_ | refine p_call (with00 (by omega)) ?_ | refine p_call (with01 (by omega)) ?_ | refine p_call (with10 (by omega)) ?_ | refine p_call (with11 (by omega)) ?_ | refine p_call (with20 (by omega)) ?_ | refine p_call (with21 (by omega)) ?_ | refine p_call (with30 (by omega)) ?_ | refine p_call (with31 (by omega)) ?_)
  (try simp only [List.cons.injEq, Lf.i.injEq, and_true, true_and]); (try omega)
theorem rmove41 {m n x y : Int} (h : -50000 ≤ m ∧ m ≤ 50000 ∧ -50000 ≤ n ∧ n ≤ 50000 ∧ -50000 ≤ x ∧ x ≤ 50000 ∧ -50000 ≤ y ∧ y ≤ 50000) : Cc 54 [.i 4, .i m, .i n, .i x, .i y, .i 1] [.i (-x - 1 + m), .i (y + n), .i 3] := by
  refine q54 rfl ?_; unfold p54
  repeat (first | simp (disch := omega) only [↓qxs, ↓qxc, ↓qxa] | refine p_opt_r (by simp only [pickL, putL, offX, Int.reduceToNat, Int.reduceAdd, Int.reduceMul, Int.reduceMod, Int.reduceSub, Int.reduceNeg, Int.reduceDiv, Nat.reduceAdd, Nat.reduceMul, Nat.reduceLeDiff, List.length_cons, List.length_nil, ↓reduceIte, List.drop_succ_cons, List.drop_zero, List.take_succ_cons, List.take_zero, List.cons_append, List.nil_append, Nat.zero_add, Int.toNat_zero, Nat.zero_mul, Nat.add_zero, Int.zero_add]; exact rfl) ?_ | refine p_loop 5 ?_ | refine p_call (rcorn1 (by omega)) ?_ | refine p_call (rpoint4 (by omega)) ?_ | refine p_call (with00 (by omega)) ?_ | refine p_call (with01 (by omega)) ?_ | refine p_call (with10 (by omega)) ?_ | refine p_call (with11 (by omega)) ?_ | refine p_call (with20 (by omega)) ?_ | refine p_call (with21 (by omega)) ?_ | refine p_call (with30 (by omega)) ?_ | refine p_call (with31 (by omega)) ?_)
  (try simp only [List.cons.injEq, Lf.i.injEq, and_true, true_and]); (try omega)
theorem rmove42 {m n x y : Int} (h : -50000 ≤ m ∧ m ≤ 50000 ∧ -50000 ≤ n ∧ n ≤ 50000 ∧ -50000 ≤ x ∧ x ≤ 50000 ∧ -50000 ≤ y ∧ y ≤ 50000) : Cc 54 [.i 4, .i m, .i n, .i x, .i y, .i 2] [.i (-x - 1 + m), .i (y + n), .i 2] := by
  refine q54 rfl ?_; unfold p54
  repeat (first | simp (disch := omega) only [↓qxs, ↓qxc, ↓qxa] | refine p_opt_r (by simp only [pickL, putL, offX, Int.reduceToNat, Int.reduceAdd, Int.reduceMul, Int.reduceMod, Int.reduceSub, Int.reduceNeg, Int.reduceDiv, Nat.reduceAdd, Nat.reduceMul, Nat.reduceLeDiff, List.length_cons, List.length_nil, ↓reduceIte, List.drop_succ_cons, List.drop_zero, List.take_succ_cons, List.take_zero, List.cons_append, List.nil_append, Nat.zero_add, Int.toNat_zero, Nat.zero_mul, Nat.add_zero, Int.zero_add]; exact rfl) ?_ | refine p_loop 5 ?_ | refine p_call (rcorn2 (by omega)) ?_ | refine p_call (rpoint4 (by omega)) ?_ | refine p_call (with00 (by omega)) ?_ | refine p_call (with01 (by omega)) ?_ | refine p_call (with10 (by omega)) ?_ | refine p_call (with11 (by omega)) ?_ | refine p_call (with20 (by omega)) ?_ | refine p_call (with21 (by omega)) ?_ | refine p_call (with30 (by omega)) ?_ | refine p_call (with31 (by omega)) ?_)
  (try simp only [List.cons.injEq, Lf.i.injEq, and_true, true_and]); (try omega)
theorem rmove43 {m n x y : Int} (h : -50000 ≤ m ∧ m ≤ 50000 ∧ -50000 ≤ n ∧ n ≤ 50000 ∧ -50000 ≤ x ∧ x ≤ 50000 ∧ -50000 ≤ y ∧ y ≤ 50000) : Cc 54 [.i 4, .i m, .i n, .i x, .i y, .i 3] [.i (-x - 1 + m), .i (y + n), .i 1] := by
  refine q54 rfl ?_; unfold p54
  repeat (first | simp (disch := omega) only [↓qxs, ↓qxc, ↓qxa] | refine p_opt_r (by simp only [pickL, putL, offX, Int.reduceToNat, Int.reduceAdd, Int.reduceMul, Int.reduceMod, Int.reduceSub, Int.reduceNeg, Int.reduceDiv, Nat.reduceAdd, Nat.reduceMul, Nat.reduceLeDiff, List.length_cons, List.length_nil, ↓reduceIte, List.drop_succ_cons, List.drop_zero, List.take_succ_cons, List.take_zero, List.cons_append, List.nil_append, Nat.zero_add, Int.toNat_zero, Nat.zero_mul, Nat.add_zero, Int.zero_add]; exact rfl) ?_ | refine p_loop 5 ?_ | refine p_call (rcorn3 (by omega)) ?_ | refine p_call (rpoint4 (by omega)) ?_ | refine p_call (with00 (by omega)) ?_ | refine p_call (with01 (by omega)) ?_ | refine p_call (with10 (by omega)) ?_ | refine p_call (with11 (by omega)) ?_ | refine p_call (with20 (by omega)) ?_ | refine p_call (with21 (by omega)) ?_ | refine p_call (with30 (by omega)) ?_ | refine p_call (with31 (by omega)) ?_)
  (try simp only [List.cons.injEq, Lf.i.injEq, and_true, true_and]); (try omega)
theorem rmove50 {m n x y : Int} (h : -50000 ≤ m ∧ m ≤ 50000 ∧ -50000 ≤ n ∧ n ≤ 50000 ∧ -50000 ≤ x ∧ x ≤ 50000 ∧ -50000 ≤ y ∧ y ≤ 50000) : Cc 54 [.i 5, .i m, .i n, .i x, .i y, .i 0] [.i (-y - 1 + m), .i (-x - 1 + n), .i 1] := by
  refine q54 rfl ?_; unfold p54
  repeat (first | simp (disch := omega) only [↓qxs, ↓qxc, ↓qxa] | refine p_opt_r (by simp only [pickL, putL, offX, Int.reduceToNat, Int.reduceAdd, Int.reduceMul, Int.reduceMod, Int.reduceSub, Int.reduceNeg, Int.reduceDiv, Nat.reduceAdd, Nat.reduceMul, Nat.reduceLeDiff, List.length_cons, List.length_nil, ↓reduceIte, List.drop_succ_cons, List.drop_zero, List.take_succ_cons, List.take_zero, List.cons_append, List.nil_append, Nat.zero_add, Int.toNat_zero, Nat.zero_mul, Nat.add_zero, Int.zero_add]; exact rfl) ?_ | refine p_loop 5 ?_ | refine p_call (rcorn0 (by omega)) ?_ | refine p_call (rpoint5 (by omega)) ?_ | refine p_call (with00 (by omega)) ?_ | refine p_call (with01 (by omega)) ?_ | refine p_call (with10 (by omega)) ?_ | refine p_call (with11 (by omega)) ?_ | refine p_call (with20 (by omega)) ?_ | refine p_call (with21 (by omega)) ?_ | refine p_call (with30 (by omega)) ?_ | refine p_call (with31 (by omega)) ?_)
  (try simp only [List.cons.injEq, Lf.i.injEq, and_true, true_and]); (try omega)
theorem rmove51 {m n x y : Int} (h : -50000 ≤ m ∧ m ≤ 50000 ∧ -50000 ≤ n ∧ n ≤ 50000 ∧ -50000 ≤ x ∧ x ≤ 50000 ∧ -50000 ≤ y ∧ y ≤ 50000) : Cc 54 [.i 5, .i m, .i n, .i x, .i y, .i 1] [.i (-y - 1 + m), .i (-x - 1 + n), .i 0] := by
  refine q54 rfl ?_; unfold p54
  repeat (first | simp (disch := omega) only [↓qxs, ↓qxc, ↓qxa] | refine p_opt_r (by simp only [pickL, putL, offX, Int.reduceToNat, Int.reduceAdd, Int.reduceMul, Int.reduceMod, Int.reduceSub, Int.reduceNeg, Int.reduceDiv, Nat.reduceAdd, Nat.reduceMul, Nat.reduceLeDiff, List.length_cons, List.length_nil, ↓reduceIte, List.drop_succ_cons, List.drop_zero, List.take_succ_cons, List.take_zero, List.cons_append, List.nil_append, Nat.zero_add, Int.toNat_zero, Nat.zero_mul, Nat.add_zero, Int.zero_add]; exact rfl) ?_ | refine p_loop 5 ?_ | refine p_call (rcorn1 (by omega)) ?_ | refine p_call (rpoint5 (by omega)) ?_ | refine p_call (with00 (by omega)) ?_ | refine p_call (with01 (by omega)) ?_ | refine p_call (with10 (by omega)) ?_ | refine p_call (with11 (by omega)) ?_ | refine p_call (with20 (by omega)) ?_ | refine p_call (with21 (by omega)) ?_ | refine p_call (with30 (by omega)) ?_ | refine p_call (with31 (by omega)) ?_)
  (try simp only [List.cons.injEq, Lf.i.injEq, and_true, true_and]); (try omega)
theorem rmove52 {m n x y : Int} (h : -50000 ≤ m ∧ m ≤ 50000 ∧ -50000 ≤ n ∧ n ≤ 50000 ∧ -50000 ≤ x ∧ x ≤ 50000 ∧ -50000 ≤ y ∧ y ≤ 50000) : Cc 54 [.i 5, .i m, .i n, .i x, .i y, .i 2] [.i (-y - 1 + m), .i (-x - 1 + n), .i 3] := by
  refine q54 rfl ?_; unfold p54
  repeat (first | simp (disch := omega) only [↓qxs, ↓qxc, ↓qxa] | refine p_opt_r (by simp only [pickL, putL, offX, Int.reduceToNat, Int.reduceAdd, Int.reduceMul, Int.reduceMod, Int.reduceSub, Int.reduceNeg, Int.reduceDiv, Nat.reduceAdd, Nat.reduceMul, Nat.reduceLeDiff, List.length_cons, List.length_nil, ↓reduceIte, List.drop_succ_cons, List.drop_zero, List.take_succ_cons, List.take_zero, List.cons_append, List.nil_append, Nat.zero_add, Int.toNat_zero, Nat.zero_mul, Nat.add_zero, Int.zero_add]; exact rfl) ?_ | refine p_loop 5 ?_ | refine p_call (rcorn2 (by omega)) ?_ | refine p_call (rpoint5 (by omega)) ?_ | refine p_call (with00 (by omega)) ?_ | refine p_call (with01 (by omega)) ?_ | refine p_call (with10 (by omega)) ?_ | refine p_call (with11 (by omega)) ?_ | refine p_call (with20 (by omega)) ?_ | refine p_call (with21 (by omega)) ?_ | refine p_call (with30 (by omega)) ?_ | refine p_call (with31 (by omega)) ?_)
  (try simp only [List.cons.injEq, Lf.i.injEq, and_true, true_and]); (try omega)
theorem rmove53 {m n x y : Int} (h : -50000 ≤ m ∧ m ≤ 50000 ∧ -50000 ≤ n ∧ n ≤ 50000 ∧ -50000 ≤ x ∧ x ≤ 50000 ∧ -50000 ≤ y ∧ y ≤ 50000) : Cc 54 [.i 5, .i m, .i n, .i x, .i y, .i 3] [.i (-y - 1 + m), .i (-x - 1 + n), .i 2] := by
  refine q54 rfl ?_; unfold p54
  repeat (first | simp (disch := omega) only [↓qxs, ↓qxc, ↓qxa] | refine p_opt_r (by simp only [pickL, putL, offX, Int.reduceToNat, Int.reduceAdd, Int.reduceMul, Int.reduceMod, Int.reduceSub, Int.reduceNeg, Int.reduceDiv, Nat.reduceAdd, Nat.reduceMul, Nat.reduceLeDiff, List.length_cons, List.length_nil, ↓reduceIte, List.drop_succ_cons, List.drop_zero, List.take_succ_cons, List.take_zero, List.cons_append, List.nil_append, Nat.zero_add, Int.toNat_zero, Nat.zero_mul, Nat.add_zero, Int.zero_add]; exact rfl) ?_ | refine p_loop 5 ?_ | refine p_call (rcorn3 (by omega)) ?_ | refine p_call (rpoint5 (by omega)) ?_ | refine p_call (with00 (by omega)) ?_ | refine p_call (with01 (by omega)) ?_ | refine p_call (with10 (by omega)) ?_ | refine p_call (with11 (by omega)) ?_ | refine p_call (with20 (by omega)) ?_ | refine p_call (with21 (by omega)) ?_ | refine p_call (with30 (by omega)) ?_ | refine p_call (with31 (by omega)) ?_)
  (try simp only [List.cons.injEq, Lf.i.injEq, and_true, true_and]); (try omega)
theorem rmove60 {m n x y : Int} (h : -50000 ≤ m ∧ m ≤ 50000 ∧ -50000 ≤ n ∧ n ≤ 50000 ∧ -50000 ≤ x ∧ x ≤ 50000 ∧ -50000 ≤ y ∧ y ≤ 50000) : Cc 54 [.i 6, .i m, .i n, .i x, .i y, .i 0] [.i (x + m), .i (-y - 1 + n), .i 2] := by
  refine q54 rfl ?_; unfold p54
  repeat (first | simp (disch := omega) only [↓qxs, ↓qxc, ↓qxa] | refine p_opt_r (by simp only [pickL, putL, offX, Int.reduceToNat, Int.reduceAdd, Int.reduceMul, Int.reduceMod, Int.reduceSub, Int.reduceNeg, Int.reduceDiv, Nat.reduceAdd, Nat.reduceMul, Nat.reduceLeDiff, List.length_cons, List.length_nil, ↓reduceIte, List.drop_succ_cons, List.drop_zero, List.take_succ_cons, List.take_zero, List.cons_append, List.nil_append, Nat.zero_add, Int.toNat_zero, Nat.zero_mul, Nat.add_zero, Int.zero_add]; exact rfl) ?_ | refine p_loop 5 ?_ | refine p_call (rcorn0 (by omega)) ?_ | refine p_call (rpoint6 (by omega)) ?_ | refine p_call (with00 (by omega)) ?_ | refine p_call (with01 (by omega)) ?_ | refine p_call (with10 (by omega)) ?_ | refine p_call (with11 (by omega)) ?_ | refine p_call (with20 (by omega)) ?_ | refine p_call (with21 (by omega)) ?_ | refine p_call (with30 (by omega)) ?_ | refine p_call (with31 (by omega)) ?_)
  (try simp only [List.cons.injEq, Lf.i.injEq, and_true, true_and]); (try omega)
theorem rmove61 {m n x y : Int} (h : -50000 ≤ m ∧ m ≤ 50000 ∧ -50000 ≤ n ∧ n ≤ 50000 ∧ -50000 ≤ x ∧ x ≤ 50000 ∧ -50000 ≤ y ∧ y ≤ 50000) : Cc 54 [.i 6, .i m, .i n, .i x, .i y, .i 1] [.i (x + m), .i (-y - 1 + n), .i 1] := by
  refine q54 rfl ?_; unfold p54
  repeat (first | simp (disch := omega) only [↓qxs, ↓qxc, ↓qxa] | refine p_opt_r (by simp only [pickL, putL, offX, Int.reduceToNat, Int.reduceAdd, Int.reduceMul, Int.reduceMod, Int.reduceSub, Int.reduceNeg, Int.reduceDiv, Nat.reduceAdd, Nat.reduceMul, Nat.reduceLeDiff, List.length_cons, List.length_nil, ↓reduceIte, List.drop_succ_cons, List.drop_zero, List.take_succ_cons, List.take_zero, List.cons_append, List.nil_append, Nat.zero_add, Int.toNat_zero, Nat.zero_mul, Nat.add_zero, Int.zero_add]; exact rfl) ?_ | refine p_loop 5 ?_ | refine p_call (rcorn1 (by omega)) ?_ | refine p_call (rpoint6 (by omega)) ?_ | refine p_call (with00 (by omega)) ?_ | refine p_call (with01 (by omega)) ?_ | refine p_call (with10 (by omega)) ?_ | refine p_call (with11 (by omega)) ?_ | refine p_call (with20 (by omega)) ?_ | refine p_call (with21 (by omega)) ?_ | refine p_call (with30 (by omega)) ?_ | refine p_call (with31 (by omega)) ?_)
  (try simp only [List.cons.injEq, Lf.i.injEq, and_true, true_and]); (try omega)
theorem rmove62 {m n x y : Int} (h : -50000 ≤ m ∧ m ≤ 50000 ∧ -50000 ≤ n ∧ n ≤ 50000 ∧ -50000 ≤ x ∧ x ≤ 50000 ∧ -50000 ≤ y ∧ y ≤ 50000) : Cc 54 [.i 6, .i m, .i n, .i x, .i y, .i 2] [.i (x + m), .i (-y - 1 + n), .i 0] := by
  refine q54 rfl ?_; unfold p54
  repeat (first | simp (disch := omega) only [↓qxs, ↓qxc, ↓qxa] | refine p_opt_r (by simp only [pickL, putL, offX, Int.reduceToNat, Int.reduceAdd, Int.reduceMul, Int.reduceMod, Int.reduceSub, Int.reduceNeg, Int.reduceDiv, Nat.reduceAdd, Nat.reduceMul, Nat.reduceLeDiff, List.length_cons, List.length_nil, ↓reduceIte, List.drop_succ_cons, List.drop_zero, List.take_succ_cons, List.take_zero, List.cons_append, List.nil_append, Nat.zero_add, Int.toNat_zero, Nat.zero_mul, Nat.add_zero, Int.zero_add]; exact rfl) ?_ | refine p_loop 5 ?_ | refine p_call (rcorn2 (by omega)) ?_ | refine p_call (rpoint6 (by omega)) ?_ | refine p_call (with00 (by omega)) ?_ | refine p_call (with01 (by omega)) ?_ | refine p_call (with10 (by omega)) ?_ | refine p_call (with11 (by omega)) ?_ | refine p_call (with20 (by omega)) ?_ | refine p_call (with21 (by omega)) ?_ | refine p_call (with30 (by omega)) ?_ | refine p_call (with31 (by omega)) ?_)
  (try simp only [List.cons.injEq, Lf.i.injEq, and_true, true_and]); (try omega)
theorem rmove63 {m n x y : Int} (h : -50000 ≤ m ∧ m ≤ 50000 ∧ -50000 ≤ n ∧ n ≤ 50000 ∧ -50000 ≤ x ∧ x ≤ 50000 ∧ -50000 ≤ y ∧ y ≤ 50000) : Cc 54 [.i 6, .i m, .i n, .i x, .i y, .i 3] [.i (x + m), .i (-y - 1 + n), .i 3] := by
  refine q54 rfl ?_; unfold p54
  repeat (first | simp (disch := omega) only [↓qxs, ↓qxc, ↓qxa] | refine p_opt_r (by simp only [pickL, putL, offX, Int.reduceToNat, Int.reduceAdd, Int.reduceMul, Int.reduceMod, Int.reduceSub, Int.reduceNeg, Int.reduceDiv, Nat.reduceAdd, Nat.reduceMul, Nat.reduceLeDiff, List.length_cons, List.length_nil, ↓reduceIte, List.drop_succ_cons, List.drop_zero, List.take_succ_cons, List.take_zero, List.cons_append, List.nil_append, Nat.zero_add, Int.toNat_zero, Nat.zero_mul, Nat.add_zero, Int.zero_add]; exact rfl) ?_ | refine p_loop 5 ?_ | refine p_call (rcorn3 (by omega)) ?_ | refine p_call (rpoint6 (by omega)) ?_ | refine p_call (with00 (by omega)) ?_ | refine p_call (with01 (by omega)) ?_ | refine p_call (with10 (by omega)) ?_ | refine p_call (with11 (by omega)) ?_ | refine p_call (with20 (by omega)) ?_ | refine p_call (with21 (by omega)) ?_ | refine p_call (with30 (by omega)) ?_ | refine p_call (with31 (by omega)) ?_)
  (try simp only [List.cons.injEq, Lf.i.injEq, and_true, true_and]); (try omega)
theorem rmove70 {m n x y : Int} (h : -50000 ≤ m ∧ m ≤ 50000 ∧ -50000 ≤ n ∧ n ≤ 50000 ∧ -50000 ≤ x ∧ x ≤ 50000 ∧ -50000 ≤ y ∧ y ≤ 50000) : Cc 54 [.i 7, .i m, .i n, .i x, .i y, .i 0] [.i (y + m), .i (x + n), .i 3] := by
  refine q54 rfl ?_; unfold p54
  repeat (first | simp (disch := omega) only [↓qxs, ↓qxc, ↓qxa] | refine p_opt_r (by simp only [pickL, putL, offX, Int.reduceToNat, Int.reduceAdd, Int.reduceMul, Int.reduceMod, Int.reduceSub, Int.reduceNeg, Int.reduceDiv, Nat.reduceAdd, Nat.reduceMul, Nat.reduceLeDiff, List.length_cons, List.length_nil, ↓reduceIte, List.drop_succ_cons, List.drop_zero, List.take_succ_cons, List.take_zero, List.cons_append, List.nil_append, Nat.zero_add, Int.toNat_zero, Nat.zero_mul, Nat.add_zero, Int.zero_add]; exact rfl) ?_ | refine p_loop 5 ?_ | refine p_call (rcorn0 (by omega)) ?_ | refine p_call (rpoint7 (by omega)) ?_ | refine p_call (with00 (by omega)) ?_ | refine p_call (with01 (by omega)) ?_ | refine p_call (with10 (by omega)) ?_ | refine p_call (with11 (by omega)) ?_ | refine p_call (with20 (by omega)) ?_ | refine p_call (with21 (by omega)) ?_ | refine p_call (with30 (by omega)) ?_ | refine p_call (with31 (by omega)) ?_)
  (try simp only [List.cons.injEq, Lf.i.injEq, and_true, true_and]); (try omega)
theorem rmove71 {m n x y : Int} (h : -50000 ≤ m ∧ m ≤ 50000 ∧ -50000 ≤ n ∧ n ≤ 50000 ∧ -50000 ≤ x ∧ x ≤ 50000 ∧ -50000 ≤ y ∧ y ≤ 50000) : Cc 54 [.i 7, .i m, .i n, .i x, .i y, .i 1] [.i (y + m), .i (x + n), .i 2] := by
  refine q54 rfl ?_; unfold p54
  repeat (first | simp (disch := omega) only [↓qxs, ↓qxc, ↓qxa] | refine p_opt_r (by simp only [pickL, putL, offX, Int.reduceToNat, Int.reduceAdd, Int.reduceMul, Int.reduceMod, Int.reduceSub, Int.reduceNeg, Int.reduceDiv, Nat.reduceAdd, Nat.reduceMul, Nat.reduceLeDiff, List.length_cons, List.length_nil, ↓reduceIte, List.drop_succ_cons, List.drop_zero, List.take_succ_cons, List.take_zero, List.cons_append, List.nil_append, Nat.zero_add, Int.toNat_zero, Nat.zero_mul, Nat.add_zero, Int.zero_add]; exact rfl) ?_ | refine p_loop 5 ?_ | refine p_call (rcorn1 (by omega)) ?_ | refine p_call (rpoint7 (by omega)) ?_ | refine p_call (with00 (by omega)) ?_ | refine p_call (with01 (by omega)) ?_ | refine p_call (with10 (by omega)) ?_ | refine p_call (with11 (by omega)) ?_ | refine p_call (with20 (by omega)) ?_ | refine p_call (with21 (by omega)) ?_ | refine p_call (with30 (by omega)) ?_ | refine p_call (with31 (by omega)) ?_)
  (try simp only [List.cons.injEq, Lf.i.injEq, and_true, true_and]); (try omega)
theorem rmove72 {m n x y : Int} (h : -50000 ≤ m ∧ m ≤ 50000 ∧ -50000 ≤ n ∧ n ≤ 50000 ∧ -50000 ≤ x ∧ x ≤ 50000 ∧ -50000 ≤ y ∧ y ≤ 50000) : Cc 54 [.i 7, .i m, .i n, .i x, .i y, .i 2] [.i (y + m), .i (x + n), .i 1] := by
  refine q54 rfl ?_; unfold p54
  repeat (first | simp (disch := omega) only [↓qxs, ↓qxc, ↓qxa] | refine p_opt_r (by simp only [pickL, putL, offX, Int.reduceToNat, Int.reduceAdd, Int.reduceMul, Int.reduceMod, Int.reduceSub, Int.reduceNeg, Int.reduceDiv, Nat.reduceAdd, Nat.reduceMul, Nat.reduceLeDiff, List.length_cons, List.length_nil, ↓reduceIte, List.drop_succ_cons, List.drop_zero, List.take_succ_cons, List.take_zero, List.cons_append, List.nil_append, Nat.zero_add, Int.toNat_zero, Nat.zero_mul, Nat.add_zero, Int.zero_add]; exact rfl) ?_ | refine p_loop 5 ?_ | refine p_call (rcorn2 (by omega)) ?_ | refine p_call (rpoint7 (by omega)) ?_ | refine p_call (with00 (by omega)) ?_ | refine p_call (with01 (by omega)) ?_ | refine p_call (with10 (by omega)) ?_ | refine p_call (with11 (by omega)) ?_ | refine p_call (with20 (by omega)) ?_ | refine p_call (with21 (by omega)) ?_ | refine p_call (with30 (by omega)) ?_ | refine p_call (with31 (by omega)) ?_)
  (try simp only [List.cons.injEq, Lf.i.injEq, and_true, true_and]); (try omega)
theorem rmove73 {m n x y : Int} (h : -50000 ≤ m ∧ m ≤ 50000 ∧ -50000 ≤ n ∧ n ≤ 50000 ∧ -50000 ≤ x ∧ x ≤ 50000 ∧ -50000 ≤ y ∧ y ≤ 50000) : Cc 54 [.i 7, .i m, .i n, .i x, .i y, .i 3] [.i (y + m), .i (x + n), .i 0] := by
  refine q54 rfl ?_; unfold p54
  repeat (first | simp (disch := omega) only [↓qxs, ↓qxc, ↓qxa] | refine p_opt_r (by simp only [pickL, putL, offX, Int.reduceToNat, Int.reduceAdd, Int.reduceMul, Int.reduceMod, Int.reduceSub, Int.reduceNeg, Int.reduceDiv, Nat.reduceAdd, Nat.reduceMul, Nat.reduceLeDiff, List.length_cons, List.length_nil, ↓reduceIte, List.drop_succ_cons, List.drop_zero, List.take_succ_cons, List.take_zero, List.cons_append, List.nil_append, Nat.zero_add, Int.toNat_zero, Nat.zero_mul, Nat.add_zero, Int.zero_add]; exact rfl) ?_ | refine p_loop 5 ?_ | refine p_call (rcorn3 (by omega)) ?_ | refine p_call (rpoint7 (by omega)) ?_ | refine p_call (with00 (by omega)) ?_ | refine p_call (with01 (by omega)) ?_ | refine p_call (with10 (by omega)) ?_ | refine p_call (with11 (by omega)) ?_ | refine p_call (with20 (by omega)) ?_ | refine p_call (with21 (by omega)) ?_ | refine p_call (with30 (by omega)) ?_ | refine p_call (with31 (by omega)) ?_)
  (try simp only [List.cons.injEq, Lf.i.injEq, and_true, true_and]); (try omega)
theorem cbet_no {x y q u v r : Int} (h : ¬ (-4096 ≤ x ∧ x ≤ 4096 ∧ -4096 ≤ y ∧ y ≤ 4096 ∧ q ≤ 3) ∨ ¬ (-4096 ≤ u ∧ u ≤ 4096 ∧ -4096 ≤ v ∧ v ≤ 4096 ∧ r ≤ 3)) : Cc 55 [.i x, .i y, .i q, .i u, .i v, .i r] [.i 0, .i 0, .i 0, .i 1] := by
  refine q55 rfl ?_; unfold p55
  by_cases hv : -4096 ≤ x ∧ x ≤ 4096 ∧ -4096 ≤ y ∧ y ≤ 4096 ∧ q ≤ 3
  · repeat (first | simp (disch := omega) only [↓qxs, ↓qxc, ↓qxa] | refine p_call (cellCheck_ok (by omega)) ?_ | refine p_call (cellCheck_no (by omega)) ?_); (try simp only [List.cons.injEq, Lf.i.injEq, and_true, true_and]); (try omega)
  · repeat (first | simp (disch := omega) only [↓qxs, ↓qxc, ↓qxa] | refine p_call (cellCheck_no (by omega)) ?_); (try simp only [List.cons.injEq, Lf.i.injEq, and_true, true_and]); (try omega)
end Go.Am
