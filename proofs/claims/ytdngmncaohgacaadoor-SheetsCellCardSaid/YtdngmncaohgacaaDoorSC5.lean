/-
  PART 5 OF THE PROOF: Px1 Ph1 Ph2 Pq Gp C1 Pb D1 D3 Lv Lv5 Cd1 D2 St7 Ls7 Cd2 (no conditions).
-/
import Derived.Test.YtdngmncaohgacaaDoorSC4
import Derived.SevenTiedAt
import Derived.Test.YtdngmncaohgacaaDoorCards
import Derived.Test.YtdngmncaohgacaaDoorTie
set_option linter.unusedSectionVars false
set_option linter.unusedSimpArgs false
set_option linter.unusedVariables false
set_option linter.constructorNameAsVariable false
set_option linter.defProp false
/-
  THE ALGEBRA OF PROPOSITIONS: what must hold, that code does as it is told to do.
-/
namespace Go.Am
def LK.plain : LK → Bool
  | .v => false
  | _ => true
def SK.plain : SK → Bool
  | .leaf k => k.plain
  | .agg ks => ks.all LK.plain
def Sig.plain (s : Sig) : Bool := s.ps.all SK.plain && s.rs.all SK.plain
namespace Sx

section
variable [Val] [Kno]

abbrev HO' := List HObj
def condP (b : Bool) (x y : Prop) : Prop := (b = true → x) ∧ (b = false → y)
def ariP (op : BinOp) (k : IntKind) (a b : Int) (K : Int → Prop) : Prop :=
  match op with
  | .add => K (k.wrap (a + b))
  | .sub => K (k.wrap (a - b))
  | .mul => K (k.wrap (a * b))
  | .quo => b ≠ 0 ∧ K (k.wrap (a.tdiv b))
  | .rem => b ≠ 0 ∧ K (a.tmod b)
  | .and => (b = 1 ∧ K (a % 2)) ∨ (b ≠ 1 ∧ ∃ n, ArRun .and k a b n ∧ K n)
  | op => ∃ n, ArRun op k a b n ∧ K n
def cmpP (op : BinOp) (a b : Int) (K : Bool → Prop) : Prop :=
  match op with
  | .eql => K (a == b)
  | .neq => K (a != b)
  | .lss => K (decide (a < b))
  | .leq => K (decide (a ≤ b))
  | .gtr => K (decide (a > b))
  | .geq => K (decide (a ≥ b))
  | _ => False
def optP {α : Type} (o : Option α) (K : α → Prop) : Prop := ∃ x, o = some x ∧ K x
def unIP (ls : List Lf) (K : Int → List Lf → Prop) : Prop := match ls with | .i n :: r => K n r | _ => False
def unBP (ls : List Lf) (K : Bool → List Lf → Prop) : Prop := match ls with | .b n :: r => K n r | _ => False
def unVP (ls : List Lf) (K : Value → List Lf → Prop) : Prop := match ls with | .v n :: r => K n r | _ => False
def un0P (ls : List Lf) (K : Prop) : Prop := match ls with | [] => K | _ => False
def ucIP (k : IntKind) (ls : List Value) (K : Int → List Value → Prop) : Prop := match ls with | .int k' n :: r => k = k' ∧ K n r | _ => False
def ucBP (ls : List Value) (K : Bool → List Value → Prop) : Prop := match ls with | .bool n :: r => K n r | _ => False
def ucVP (ls : List Value) (K : Value → List Value → Prop) : Prop := match ls with | n :: r => K n r | _ => False
def uc0P (ls : List Value) (K : Prop) : Prop := match ls with | [] => K | _ => False
def getL (h : List HObj) : Getter := fun i => h[i]?
def peekP (f : Getter → Option (List Value)) (h : List HObj) (K : List Value → Prop) : Prop := ∃ cs, f (getL h) = some cs ∧ K cs
def heapP (f : Getter → Nat → Option (List Act1 × List Value)) (h : List HObj) (K : List Value → List HObj → Prop) : Prop := ∃ acts cs, f (getL h) h.length = some (acts, cs) ∧ K cs (actsOn h acts)
def callP (C : Cfg) (Sg : FuncId → Option Sig) (g : FuncId) (ls : List Lf) (h : List HObj) (K : List Lf → List HObj → Prop) : Prop := ∃ rs h', CallL C Sg g ls h rs h' ∧ K rs h'
def callvP (C : Cfg) (v : Value) (args : List Value) (hs : List SK) (h : List HObj) (K : List Lf → List HObj → Prop) : Prop := ∃ rs h', CallV C v args hs h rs h' ∧ K rs h'
def itP (F : (List Lf → List HObj → Prop) → List Lf → List HObj → Prop) (n : Nat) : List Lf → List HObj → Prop :=
  match n with
  | 0 => fun _ _ => False
  | n + 1 => F (itP F n)
def loopP (F : (List Lf → List HObj → Prop) → List Lf → List HObj → Prop) (ls : List Lf) (h : List HObj) : Prop := ∃ n, itP F n ls h
def rfunP (C : Cfg) (T : Nat → Site) (κ : Nat) (v : Value) (vals : List Value) (h : List HObj) (K : Option Code → List HObj → Prop) : Prop :=
  ∃ g first cap r H1 lp, v = .func (.func g) first cap ∧
    uCall C g (first.toList ++ [.func (.yield h.length) #[] #[]] ++ cap.toList) (h ++ [.loop (lpOf (T κ) κ vals)]) r H1 ∧
    hloop H1 h.length = some lp ∧ lp.state ≠ .busy ∧ K lp.pending (H1.set h.length (.loop { lp with state := .exhausted }))
def pendP (pd : Option Code) (kn kr : Prop) (ks : List (Nat × Prop)) : Prop :=
  match pd with
  | none => kn
  | some .ret => kr
  | some (.exit id) => ∃ x, (id, x) ∈ ks ∧ x
  | _ => False
def lp1P (l : Nat) (h : List HObj) (K : List HObj → Prop) : Prop := ∃ lp, hloop h l = some lp ∧ lp.state = .ready ∧ K (h.set l (.loop { lp with state := .busy }))
def lp2P (l : Nat) (j : Option Code) (h : List HObj) (K : List HObj → Prop) : Prop := ∃ lp, hloop h l = some lp ∧ K (h.set l (.loop { lp with state := if j.isNone then .ready else .done, pending := j }))

def PA (C : Cfg) (Sg : FuncId → Option Sig) (T : Nat → Site) : Alg Prop (List HObj) where
  fail := False
  cond := condP
  ari := ariP
  shf := fun op k a k' b K => ∃ n, ShRun op k a k' b n ∧ K n
  cmp := cmpP
  eqs := fun l K => K (eqAll l)
  conv := fun k a K => K (k.wrap a)
  sel := fun t a b K => K (if t then a else b)
  opt := optP
  chk := fun v K => goodV v = true ∧ K
  unI := unIP
  unB := unBP
  unV := unVP
  un0 := un0P
  ucI := ucIP
  ucB := ucBP
  ucV := ucVP
  uc0 := uc0P
  peek := peekP
  heap := heapP
  new := fun o h K => K h.length (h ++ [o])
  call := callP C Sg
  callv := callvP C
  join := fun b m => m b
  loop := loopP
  rfun := rfunP C T
  pend := pendP
  lp1 := lp1P
  lp2 := lp2P

theorem PA_ok (C : Cfg) (Sg : FuncId → Option Sig) (T : Nat → Site) : AlgOk (PA C Sg T) C Sg T id id where
  fail := fun h => h
  cond := by
    intro b x y h
    cases b
    · exact .inr ⟨rfl, h.2 rfl⟩
    · exact .inl ⟨rfl, h.1 rfl⟩
  ari := by
    intro op k a b K h
    have h : ariP op k a b K := h
    cases op <;> simp only [ariP] at h
    · exact ⟨_, fun P t w => by simp [binOp, Op.intArith], h⟩
    · exact ⟨_, fun P t w => by simp [binOp, Op.intArith], h⟩
    · exact ⟨_, fun P t w => by simp [binOp, Op.intArith], h⟩
    · obtain ⟨hb, h⟩ := h
      exact ⟨_, fun P t w => by simp [binOp, Op.intDiv, hb], h⟩
    · obtain ⟨hb, h⟩ := h
      exact ⟨_, fun P t w => by simp [binOp, Op.intDiv, hb], h⟩
    · rcases h with ⟨rfl, h'⟩ | ⟨_, n, h1, h2⟩
      · exact ⟨_, run_and_one rfl, h'⟩
      · exact ⟨n, h1, h2⟩
    all_goals exact h
  shf := fun op k a k' b K h => h
  cmp := by
    intro op a b K h
    have h : cmpP op a b K := h
    cases op <;> simp only [cmpP] at h <;> exact ⟨_, rfl, h⟩
  eqs := fun l K h => h
  conv := fun k a K h => h
  sel := fun t a b K h => h
  opt := fun o K h => h
  chk := fun v K h => h
  unI := by
    intro ls K h
    match ls, h with
    | .i n :: r, h => exact ⟨n, r, rfl, h⟩
  unB := by
    intro ls K h
    match ls, h with
    | .b n :: r, h => exact ⟨n, r, rfl, h⟩
  unV := by
    intro ls K h
    match ls, h with
    | .v n :: r, h => exact ⟨n, r, rfl, h⟩
  un0 := by
    intro ls K h
    match ls, h with
    | [], h => exact ⟨rfl, h⟩
  ucI := by
    intro k ls K h
    match ls, h with
    | .int k' n :: r, h =>
      obtain ⟨rfl, h⟩ : k = k' ∧ K n r := h
      exact ⟨n, r, rfl, h⟩
  ucB := by
    intro ls K h
    match ls, h with
    | .bool n :: r, h => exact ⟨n, r, rfl, h⟩
  ucV := by
    intro ls K h
    match ls, h with
    | n :: r, h => exact ⟨n, r, rfl, h⟩
  uc0 := by
    intro ls K h
    match ls, h with
    | [], h => exact ⟨rfl, h⟩
  peek := fun f h K hk => hk
  heap := by
    intro f h K hk
    obtain ⟨acts, cs, h1, h2⟩ := hk
    exact ⟨acts, cs, _, h1, rfl, h2⟩
  new := fun o h K hk => ⟨_, rfl, hk⟩
  call := fun g ls h K hk => hk
  callv := fun v args hs h K hk => hk
  join := fun b m h => h
  loop := by
    intro F ls h hk
    obtain ⟨n, hk⟩ := hk
    exact ⟨itP F, fun ls h => (id : False → False), fun n ls h => rfl, n, hk⟩
  rfun := by
    intro κ v vals h K hk
    obtain ⟨g, first, cap, r, H1, lp, h1, h2, h3, h4, h5⟩ := hk
    exact ⟨g, first, cap, r, H1, lp, _, h1, h2, h3, h4, rfl, h5⟩
  pend := by
    intro pd kn kr ks h
    have h : pendP pd kn kr ks := h
    unfold pendP at h
    split at h
    · exact .inl ⟨rfl, h⟩
    · exact .inr (.inl ⟨rfl, h⟩)
    · obtain ⟨x, h1, h2⟩ := h
      exact .inr (.inr ⟨_, x, rfl, h1, h2⟩)
    · exact h.elim
  lp1 := by
    intro l h K hk
    obtain ⟨lp, h1, h2, h3⟩ := hk
    exact ⟨lp, _, h1, h2, rfl, h3⟩
  lp2 := by
    intro l j h K hk
    obtain ⟨lp, h1, h2⟩ := hk
    exact ⟨lp, _, h1, rfl, h2⟩

/-! ### Calls that leave nothing behind -/


theorem SL.plain_scalar {l : SL} {k : LK} (h : l.is k = true) (hk : k.plain = true) : scalar l.val = true := by
  cases l <;> cases k <;> first | (cases hk; done) | (cases h; done) | rfl
theorem allIs_scalar : ∀ {cs : List SL} {ks : List LK}, allIs cs ks = true → ks.all LK.plain = true → (cs.map SL.val).all scalar = true
  | [], [], _, _ => rfl
  | c :: cs, k :: ks, h, hk => by
    simp only [allIs, Bool.and_eq_true] at h
    simp only [List.all_cons, Bool.and_eq_true] at hk
    simp only [List.map_cons, List.all_cons, Bool.and_eq_true]
    exact ⟨SL.plain_scalar h.1 hk.1, allIs_scalar h.2 hk.2⟩
  | [], _ :: _, h, _ => by cases h
  | _ :: _, [], h, _ => by cases h
theorem S0.plain_flat1 {x : S0} {k : SK} (h : x.is k = true) (hk : k.plain = true) : flat1 x.val = true := by
  cases x with
  | leaf l =>
    cases k with
    | leaf k =>
      have := SL.plain_scalar h hk
      show flat1 l.val = true
      cases hv : l.val <;> rw [hv] at this <;> first | exact this | cases this
    | agg _ => cases h
  | agg cs =>
    cases k with
    | leaf k => cases h
    | agg ks => exact allIs_scalar h hk
theorem flat_of_flat1 {v : Value} (h : flat1 v = true) : flat v = true := by
  cases v <;> first | exact h | cases h
theorem areIs_flat1 : ∀ {xs : List S0} {sks : List SK}, areIs xs sks = true → sks.all SK.plain = true → (valsOf xs).all flat1 = true
  | [], [], _, _ => rfl
  | x :: xs, k :: ks, h, hk => by
    simp only [areIs, Bool.and_eq_true] at h
    simp only [List.all_cons, Bool.and_eq_true] at hk
    simp only [valsOf, List.map_cons, List.all_cons, Bool.and_eq_true]
    exact ⟨S0.plain_flat1 h.1 hk.1, areIs_flat1 h.2 hk.2⟩
  | [], _ :: _, h, _ => by cases h
  | _ :: _, [], h, _ => by cases h
theorem areIs_flat {xs : List S0} {sks : List SK} (h : areIs xs sks = true) (hk : sks.all SK.plain = true) : (valsOf xs).all flat = true := by
  have := areIs_flat1 h hk
  rw [List.all_eq_true] at this ⊢
  exact fun v hv => flat_of_flat1 (this v hv)
theorem packA_flat {vs : List Value} (h : vs.all flat1 = true) : flat (packA vs) = true := by
  match vs, h with
  | [], _ => rfl
  | [v], h =>
    simp only [List.all_cons, List.all_nil, Bool.and_true] at h
    exact flat_of_flat1 h
  | a :: b :: l, h =>
    show flat (.tuple (a :: b :: l).toArray) = true
    simp only [flat, Bool.and_eq_true]
    exact ⟨by simp, h⟩

end

/-- What is known: whatever has been shown of calls that leave nothing behind. -/
@[reducible] def KnoC (C : Cfg) [Val] : Kno := ⟨fun f args r => ∀ H, CallOk C f args H r H⟩

section
variable [Val]
/-- THE CONTRACT: the function answers so, and leaves nothing behind. -/
def Ct (C : Cfg) (Sg : FuncId → Option Sig) (g : FuncId) (ls rs : List Lf) : Prop := let _ : Kno := KnoC C; ∀ H, CallL C Sg g ls H rs H

theorem uCallC_ok {C : Cfg} (hm : C.P.follows .mixedOrders = true) {f : FuncId} {args : List Value} {H : List HObj} {r : Value} {H' : List HObj} (h : let _ : Kno := KnoC C; uCall C f args H r H') : CallOk C f args H r H' :=
  @uCall_ok _ _ (KnoC C) hm (fun _ _ _ h => h) _ _ _ _ _ h

theorem ct_of {C : Cfg} {Sg : FuncId → Option Sig} (hm : C.P.follows .mixedOrders = true) (hG : ∀ g vs, C.G g = some vs → vs.all flat = true) {g : FuncId} {sg : Sig} (hs : Sg g = some sg) (hp : sg.plain = true) {ls rs : List Lf} {H' : List HObj}
    (h : let _ : Kno := KnoC C; CallL C Sg g ls [] rs H') : Ct C Sg g ls rs := by
  let _ : Kno := KnoC C
  obtain ⟨sg', xs, ys, c1, c2, c3, c4⟩ := h
  rw [hs] at c1
  cases c1
  simp only [Sig.plain, Bool.and_eq_true] at hp
  have ha := areIs_flat c2.1 hp.1
  have hr := packA_flat (areIs_flat1 c3.1 hp.2)
  intro H
  exact ⟨sg, xs, ys, hs, c2, c3, ⟨0, fun H => frame_ok hG (uCallC_ok hm c4) ha hr H, rfl⟩⟩

theorem call_ct {C : Cfg} {Sg : FuncId → Option Sig} {g : FuncId} {ls rs : List Lf} {h : List HObj} {K : List Lf → List HObj → Prop} (hc : Ct C Sg g ls rs) (hk : K rs h) : let _ : Kno := KnoC C; callP C Sg g ls h K :=
  ⟨rs, h, hc h, hk⟩
end

section
variable [Val] [Kno]
theorem it_rule {F : (List Lf → List HObj → Prop) → List Lf → List HObj → Prop} (Inv : Nat → List Lf → List HObj → Prop)
    (step : ∀ m ls h, Inv m ls h → ∀ self : List Lf → List HObj → Prop, (∀ m' ls h, m' < m → Inv m' ls h → self ls h) → F self ls h) : ∀ n m ls h, m < n → Inv m ls h → itP F n ls h
  | 0, _, _, _, hm, _ => absurd hm (Nat.not_lt_zero _)
  | n + 1, m, ls, h, hm, hi => step m ls h hi (itP F n) fun m' ls h h' hi' => it_rule Inv step n m' ls h (by omega) hi'
/-- A loop: a measure and what holds. -/
theorem loop_rule {F : (List Lf → List HObj → Prop) → List Lf → List HObj → Prop} (Inv : Nat → List Lf → List HObj → Prop) {m : Nat} {ls : List Lf} {h : List HObj} (hi : Inv m ls h)
    (step : ∀ m ls h, Inv m ls h → ∀ self : List Lf → List HObj → Prop, (∀ m' ls h, m' < m → Inv m' ls h → self ls h) → F self ls h) : loopP F ls h :=
  ⟨m + 1, it_rule Inv step (m + 1) m ls h (Nat.lt_succ_self m) hi⟩

/-- Numbers that fit are as they are. -/
theorem wrap_i64 {n : Int} (h1 : -9223372036854775808 ≤ n) (h2 : n ≤ 9223372036854775807) : IntKind.wrap .i64 n = n := by
  simp only [IntKind.wrap, IntKind.bits, IntKind.signed, Bool.true_and, ge_iff_le, decide_eq_true_eq]
  split <;> omega
theorem wrap_u8 {n : Int} (h1 : 0 ≤ n) (h2 : n ≤ 255) : IntKind.wrap .u8 n = n := by
  simp only [IntKind.wrap, IntKind.bits, IntKind.signed, Bool.false_and, Bool.false_eq_true, if_false]
  omega
end
end Sx
end Go.Am

/-
  THE ALGEBRA OF PROPOSITIONS OVER THE HEAPS OF RUNS; what a run shows holds in it.
-/
namespace Go.Am
namespace Sx

section
variable [Val] [Kno]

def peekH (T : Nat → Site) (f : Getter → Option (List Value)) (h : HL) (K : List Value → Prop) : Prop := ∃ cs, f (getH T h) = some cs ∧ K cs
def heapH (T : Nat → Site) (f : Getter → Nat → Option (List Act1 × List Value)) (h : HL) (K : List Value → HL → Prop) : Prop := ∃ acts cs, f (getH T h) h.length = some (acts, cs) ∧ K cs (actsOnH h acts)
def callH (C : Cfg) (Sg : FuncId → Option Sig) (T : Nat → Site) (g : FuncId) (ls : List Lf) (h : HL) (K : List Lf → HL → Prop) : Prop := ∃ rs h', CallL C Sg g ls (absH T h) rs (absH T h') ∧ K rs h'
def callvH (C : Cfg) (T : Nat → Site) (v : Value) (args : List Value) (hs : List SK) (h : HL) (K : List Lf → HL → Prop) : Prop := ∃ rs h', CallV C v args hs (absH T h) rs (absH T h') ∧ K rs h'
def itH (F : (List Lf → HL → Prop) → List Lf → HL → Prop) (n : Nat) : List Lf → HL → Prop :=
  match n with
  | 0 => fun _ _ => False
  | n + 1 => F (itH F n)
def loopH (F : (List Lf → HL → Prop) → List Lf → HL → Prop) (ls : List Lf) (h : HL) : Prop := ∃ n, itH F n ls h
def rfunH (C : Cfg) (T : Nat → Site) (κ : Nat) (v : Value) (vals : List Value) (h : HL) (K : Option Code → HL → Prop) : Prop :=
  ∃ g first cap r H1 lp h2, v = .func (.func g) first cap ∧
    uCall C g (first.toList ++ [.func (.yield (absH T h).length) #[] #[]] ++ cap.toList) (absH T h ++ [.loop (lpOf (T κ) κ vals)]) r H1 ∧
    hloop H1 (absH T h).length = some lp ∧ lp.state ≠ .busy ∧ absH T h2 = H1.set (absH T h).length (.loop { lp with state := .exhausted }) ∧ K lp.pending h2
def lp1H (T : Nat → Site) (l : Nat) (h : HL) (K : HL → Prop) : Prop := ∃ lp h', hloop (absH T h) l = some lp ∧ lp.state = .ready ∧ absH T h' = (absH T h).set l (.loop { lp with state := .busy }) ∧ K h'
def lp2H (T : Nat → Site) (l : Nat) (j : Option Code) (h : HL) (K : HL → Prop) : Prop := ∃ lp h', hloop (absH T h) l = some lp ∧ absH T h' = (absH T h).set l (.loop { lp with state := if j.isNone then .ready else .done, pending := j }) ∧ K h'

def PH (C : Cfg) (Sg : FuncId → Option Sig) (T : Nat → Site) : Alg Prop HL where
  fail := False
  cond := condP
  ari := ariP
  shf := fun op k a k' b K => ∃ n, ShRun op k a k' b n ∧ K n
  cmp := cmpP
  eqs := fun l K => K (eqAll l)
  conv := fun k a K => K (k.wrap a)
  sel := fun t a b K => K (if t then a else b)
  opt := optP
  chk := fun v K => goodV v = true ∧ K
  unI := unIP
  unB := unBP
  unV := unVP
  un0 := un0P
  ucI := ucIP
  ucB := ucBP
  ucV := ucVP
  uc0 := uc0P
  peek := peekH T
  heap := heapH T
  new := fun o h K => K h.length (h ++ [.o o])
  call := callH C Sg T
  callv := callvH C T
  join := fun b m => m b
  loop := loopH
  rfun := rfunH C T
  pend := pendP
  lp1 := lp1H T
  lp2 := lp2H T

theorem PH_ok (C : Cfg) (Sg : FuncId → Option Sig) (T : Nat → Site) : AlgOk (PH C Sg T) C Sg T id (absH T) where
  fail := (PA_ok C Sg T).fail
  cond := (PA_ok C Sg T).cond
  ari := (PA_ok C Sg T).ari
  shf := (PA_ok C Sg T).shf
  cmp := (PA_ok C Sg T).cmp
  eqs := (PA_ok C Sg T).eqs
  conv := (PA_ok C Sg T).conv
  sel := (PA_ok C Sg T).sel
  opt := (PA_ok C Sg T).opt
  chk := (PA_ok C Sg T).chk
  unI := (PA_ok C Sg T).unI
  unB := (PA_ok C Sg T).unB
  unV := (PA_ok C Sg T).unV
  un0 := (PA_ok C Sg T).un0
  ucI := (PA_ok C Sg T).ucI
  ucB := (PA_ok C Sg T).ucB
  ucV := (PA_ok C Sg T).ucV
  uc0 := (PA_ok C Sg T).uc0
  peek := by
    intro f h K hk
    obtain ⟨cs, h1, h2⟩ := hk
    exact ⟨cs, by rw [← getH_eq]; exact h1, h2⟩
  heap := by
    intro f h K hk
    obtain ⟨acts, cs, h1, h2⟩ := hk
    exact ⟨acts, cs, _, by rw [← getH_eq, absH_len]; exact h1, actsOnH_ok T acts h, h2⟩
  new := fun o h K hk => ⟨_, absH_push T h _, by rw [absH_len]; exact hk⟩
  call := fun g ls h K hk => hk
  callv := fun v args hs h K hk => hk
  join := fun b m h => h
  loop := by
    intro F ls h hk
    obtain ⟨n, hk⟩ := hk
    exact ⟨itH F, fun ls h => (id : False → False), fun n ls h => rfl, n, hk⟩
  rfun := fun κ v vals h K hk => hk
  pend := (PA_ok C Sg T).pend
  lp1 := fun l h K hk => hk
  lp2 := fun l j h K hk => hk

/-! ### What a run shows -/
section
variable {C : Cfg} {Sg : FuncId → Option Sig} {T : Nat → Site} {call : CallB} (hc : CallBOk C Sg T call)
abbrev KLe (K : List Lf → HL → Bool) (K' : List Lf → HL → Prop) : Prop := ∀ ls h, K ls h = true → K' ls h
include hc

theorem s_fail {X : Prop} : (BA Sg T call).fail = true → X := fun h => by cases h
theorem s_cond {b : Bool} {x y : Bool} {x' y' : Prop} (hx : x = true → x') (hy : y = true → y') (h : (BA Sg T call).cond b x y = true) : (PH C Sg T).cond b x' y' := by
  rcases (BA_ok hc).cond b x y h with ⟨rfl, h⟩ | ⟨rfl, h⟩
  · exact ⟨fun _ => hx h, fun e => (by cases e)⟩
  · exact ⟨fun e => (by cases e), fun _ => hy h⟩
theorem s_ari {op : BinOp} {k : IntKind} {a b : Int} {K : Int → Bool} {K' : Int → Prop} (hk : ∀ n, K n = true → K' n) (h : (BA Sg T call).ari op k a b K = true) : (PH C Sg T).ari op k a b K' := by
  replace h : ariB op k a b K = true := h
  show ariP op k a b K'
  cases op <;> simp only [ariB, Bool.false_eq_true] at h <;> simp only [ariP]
  · rw [forceI_eq] at h; exact hk _ (fitsK h)
  · rw [forceI_eq] at h; exact hk _ (fitsK h)
  · rw [forceI_eq] at h; exact hk _ (fitsK h)
  · split at h
    · cases h
    · rename_i hb
      rw [forceI_eq] at h; exact ⟨eqI_false.1 hb, hk _ (fitsK h)⟩
  · split at h
    · cases h
    · rename_i hb
      rw [forceI_eq] at h; exact ⟨eqI_false.1 hb, hk _ h⟩
  · split at h
    · rename_i hb
      have hb := eqI_iff.1 hb
      subst hb
      rw [forceI_eq] at h
      exact .inl ⟨rfl, hk _ h⟩
    · rename_i hb
      split at h
      · rw [forceI_eq] at h
        exact .inr ⟨eqI_false.1 hb, _, run_and_nat _ _, hk _ (fitsK h)⟩
      · cases h
theorem s_cmp {op : BinOp} {a b : Int} {K : Bool → Bool} {K' : Bool → Prop} (hk : ∀ n, K n = true → K' n) (h : (BA Sg T call).cmp op a b K = true) : (PH C Sg T).cmp op a b K' := by
  obtain ⟨t, h1, h2⟩ := cmpB_ok h
  show cmpP op a b K'
  cases op <;> simp only [cmpRes, Option.some.injEq] at h1 <;> first | (cases h1; done) | (simp only [cmpP]; rw [h1]; exact hk _ h2)
theorem s_eqs {l : List (Lf × Lf)} {K : Bool → Bool} {K' : Bool → Prop} (hk : ∀ n, K n = true → K' n) (h : (BA Sg T call).eqs l K = true) : (PH C Sg T).eqs l K' := hk _ (eqsB_ok h)
theorem s_conv {k : IntKind} {a : Int} {K : Int → Bool} {K' : Int → Prop} (hk : ∀ n, K n = true → K' n) (h : (BA Sg T call).conv k a K = true) : (PH C Sg T).conv k a K' := hk _ ((BA_ok hc).conv k a K h)
theorem s_sel {t : Bool} {a b : Int} {K : Int → Bool} {K' : Int → Prop} (hk : ∀ n, K n = true → K' n) (h : (BA Sg T call).sel t a b K = true) : (PH C Sg T).sel t a b K' := hk _ ((BA_ok hc).sel t a b K h)
theorem s_opt {α : Type} {o : Option α} {K : α → Bool} {K' : α → Prop} (hk : ∀ n, K n = true → K' n) (h : (BA Sg T call).opt o K = true) : (PH C Sg T).opt o K' := by
  obtain ⟨x, h1, h2⟩ := (BA_ok hc).opt o K h
  exact ⟨x, h1, hk _ h2⟩
theorem s_chk {v : Value} {K : Bool} {K' : Prop} (hk : K = true → K') (h : (BA Sg T call).chk v K = true) : (PH C Sg T).chk v K' := by
  obtain ⟨h1, h2⟩ := (BA_ok hc).chk v K h
  exact ⟨h1, hk h2⟩
theorem s_unI {l : List Lf} {K : Int → List Lf → Bool} {K' : Int → List Lf → Prop} (hk : ∀ n r, K n r = true → K' n r) (h : (BA Sg T call).unI l K = true) : (PH C Sg T).unI l K' := by
  obtain ⟨n, r, rfl, h2⟩ := (BA_ok hc).unI l K h
  exact hk _ _ h2
theorem s_unB {l : List Lf} {K : Bool → List Lf → Bool} {K' : Bool → List Lf → Prop} (hk : ∀ n r, K n r = true → K' n r) (h : (BA Sg T call).unB l K = true) : (PH C Sg T).unB l K' := by
  obtain ⟨n, r, rfl, h2⟩ := (BA_ok hc).unB l K h
  exact hk _ _ h2
theorem s_unV {l : List Lf} {K : Value → List Lf → Bool} {K' : Value → List Lf → Prop} (hk : ∀ n r, K n r = true → K' n r) (h : (BA Sg T call).unV l K = true) : (PH C Sg T).unV l K' := by
  obtain ⟨n, r, rfl, h2⟩ := (BA_ok hc).unV l K h
  exact hk _ _ h2
theorem s_un0 {l : List Lf} {K : Bool} {K' : Prop} (hk : K = true → K') (h : (BA Sg T call).un0 l K = true) : (PH C Sg T).un0 l K' := by
  obtain ⟨rfl, h2⟩ := (BA_ok hc).un0 l K h
  exact hk h2
theorem s_ucI {k : IntKind} {l : List Value} {K : Int → List Value → Bool} {K' : Int → List Value → Prop} (hk : ∀ n r, K n r = true → K' n r) (h : (BA Sg T call).ucI k l K = true) : (PH C Sg T).ucI k l K' := by
  obtain ⟨n, r, rfl, h2⟩ := (BA_ok hc).ucI k l K h
  exact ⟨rfl, hk _ _ h2⟩
theorem s_ucB {l : List Value} {K : Bool → List Value → Bool} {K' : Bool → List Value → Prop} (hk : ∀ n r, K n r = true → K' n r) (h : (BA Sg T call).ucB l K = true) : (PH C Sg T).ucB l K' := by
  obtain ⟨n, r, rfl, h2⟩ := (BA_ok hc).ucB l K h
  exact hk _ _ h2
theorem s_ucV {l : List Value} {K : Value → List Value → Bool} {K' : Value → List Value → Prop} (hk : ∀ n r, K n r = true → K' n r) (h : (BA Sg T call).ucV l K = true) : (PH C Sg T).ucV l K' := by
  obtain ⟨n, r, rfl, h2⟩ := (BA_ok hc).ucV l K h
  exact hk _ _ h2
theorem s_uc0 {l : List Value} {K : Bool} {K' : Prop} (hk : K = true → K') (h : (BA Sg T call).uc0 l K = true) : (PH C Sg T).uc0 l K' := by
  obtain ⟨rfl, h2⟩ := (BA_ok hc).uc0 l K h
  exact hk h2
theorem s_peek {f : Getter → Option (List Value)} {h : HL} {K : List Value → Bool} {K' : List Value → Prop} (hk : ∀ n, K n = true → K' n) (e : (BA Sg T call).peek f h K = true) : (PH C Sg T).peek f h K' := by
  obtain ⟨cs, h1, h2⟩ := (BA_ok hc).peek f h K e
  exact ⟨cs, by rw [getH_eq]; exact h1, hk _ h2⟩
theorem s_heap {f : Getter → Nat → Option (List Act1 × List Value)} {h : HL} {K : List Value → HL → Bool} {K' : List Value → HL → Prop} (hk : ∀ l h, K l h = true → K' l h) (e : (BA Sg T call).heap f h K = true) : (PH C Sg T).heap f h K' := by
  have e : heapB T f h K = true := e
  unfold heapB at e
  split at e
  · rename_i p e2; exact ⟨p.1, p.2, e2, hk _ _ e⟩
  · cases e
theorem s_new {o : HObj} {h : HL} {K : Nat → HL → Bool} {K' : Nat → HL → Prop} (hk : ∀ l h, K l h = true → K' l h) (e : (BA Sg T call).new o h K = true) : (PH C Sg T).new o h K' := by
  have e : newB o h K = true := e
  unfold newB at e
  rw [forceN_eq'] at e
  exact hk _ _ e
theorem s_call {g : FuncId} {l : List Lf} {h : HL} {K : List Lf → HL → Bool} {K' : List Lf → HL → Prop} (hk : ∀ l h, K l h = true → K' l h) (e : (BA Sg T call).call g l h K = true) : (PH C Sg T).call g l h K' := by
  obtain ⟨rs, h', h1, h2⟩ := callB_ok hc e
  exact ⟨rs, h', h1, hk _ _ h2⟩
theorem s_callv {v : Value} {l : List Value} {hs : List SK} {h : HL} {K : List Lf → HL → Bool} {K' : List Lf → HL → Prop} (hk : ∀ l h, K l h = true → K' l h) (e : (BA Sg T call).callv v l hs h K = true) : (PH C Sg T).callv v l hs h K' := by
  obtain ⟨rs, h', h1, h2⟩ := callvB_ok hc e
  exact ⟨rs, h', h1, hk _ _ h2⟩
theorem s_join {b : List Lf → HL → Bool} {b' : List Lf → HL → Prop} {m : (List Lf → HL → Bool) → Bool} {m' : (List Lf → HL → Prop) → Prop} (hb : KLe b b') (hm : ∀ j j', KLe j j' → m j = true → m' j') (e : (BA Sg T call).join b m = true) : (PH C Sg T).join b' m' := hm _ _ hb e
theorem s_loop {F : (List Lf → HL → Bool) → List Lf → HL → Bool} {F' : (List Lf → HL → Prop) → List Lf → HL → Prop} {l : List Lf} {h : HL} (hF : ∀ s s', KLe s s' → ∀ l h, F s l h = true → F' s' l h) (e : (BA Sg T call).loop F l h = true) : (PH C Sg T).loop F' l h := by
  obtain ⟨it, i0, i1, n, hn⟩ := (BA_ok hc).loop F l h e
  refine ⟨n, ?_⟩
  have : ∀ n l h, it n l h = true → itH F' n l h := by
    intro n
    induction n with
    | zero => intro l h hn; exact absurd hn (i0 l h)
    | succ n ih =>
      intro l h hn
      rw [i1] at hn
      exact hF _ _ (fun l h => ih l h) l h hn
  exact this n l h hn
theorem s_rfun {κ : Nat} {v : Value} {vals : List Value} {h : HL} {K : Option Code → HL → Bool} {K' : Option Code → HL → Prop} (hk : ∀ l h, K l h = true → K' l h) (e : (BA Sg T call).rfun κ v vals h K = true) : (PH C Sg T).rfun κ v vals h K' := by
  obtain ⟨g, first, cap, r, H1, lp, h2, a1, a2, a3, a4, a5, a6⟩ := rfunB_ok hc e
  exact ⟨g, first, cap, r, H1, lp, h2, a1, a2, a3, a4, a5, hk _ _ a6⟩
/-- Answers to how a round ended, side by side. -/
inductive SL2 : List (Nat × Bool) → List (Nat × Prop) → Prop
  | nil : SL2 [] []
  | cons {id : Nat} {x : Bool} {x' : Prop} {l : List (Nat × Bool)} {l' : List (Nat × Prop)} (hx : x = true → x') (hl : SL2 l l') : SL2 ((id, x) :: l) ((id, x') :: l')
omit hc in
theorem SL2.mem {l : List (Nat × Bool)} {l' : List (Nat × Prop)} (h : SL2 l l') {id : Nat} {x : Bool} (hm : (id, x) ∈ l) (hx : x = true) : ∃ y, (id, y) ∈ l' ∧ y := by
  induction h with
  | nil => cases hm
  | cons h1 h2 ih =>
    rcases List.mem_cons.1 hm with e | hm
    · cases e; exact ⟨_, List.mem_cons_self, h1 hx⟩
    · obtain ⟨y, a, b⟩ := ih hm
      exact ⟨y, List.mem_cons_of_mem _ a, b⟩
theorem s_pend {pd : Option Code} {kn kr : Bool} {kn' kr' : Prop} {ks : List (Nat × Bool)} {ks' : List (Nat × Prop)} (h1 : kn = true → kn') (h2 : kr = true → kr') (h3 : SL2 ks ks') (e : (BA Sg T call).pend pd kn kr ks = true) : (PH C Sg T).pend pd kn' kr' ks' := by
  rcases (BA_ok hc).pend pd kn kr ks e with ⟨rfl, h⟩ | ⟨rfl, h⟩ | ⟨id, x, rfl, hm, hx⟩
  · exact h1 h
  · exact h2 h
  · exact h3.mem hm hx
theorem s_lp1 {l : Nat} {h : HL} {K : HL → Bool} {K' : HL → Prop} (hk : ∀ h, K h = true → K' h) (e : (BA Sg T call).lp1 l h K = true) : (PH C Sg T).lp1 l h K' := by
  obtain ⟨lp, h', a1, a2, a3, a4⟩ := (BA_ok hc).lp1 l h K e
  exact ⟨lp, h', a1, a2, a3, hk _ a4⟩
theorem s_lp2 {l : Nat} {j : Option Code} {h : HL} {K : HL → Bool} {K' : HL → Prop} (hk : ∀ h, K h = true → K' h) (e : (BA Sg T call).lp2 l j h K = true) : (PH C Sg T).lp2 l j h K' := by
  obtain ⟨lp, h', a1, a3, a4⟩ := (BA_ok hc).lp2 l j h K e
  exact ⟨lp, h', a1, a3, hk _ a4⟩
end

theorem itH_rule {F : (List Lf → HL → Prop) → List Lf → HL → Prop} (Inv : Nat → List Lf → HL → Prop)
    (step : ∀ m ls h, Inv m ls h → ∀ self : List Lf → HL → Prop, (∀ m' ls h, m' < m → Inv m' ls h → self ls h) → F self ls h) : ∀ n m ls h, m < n → Inv m ls h → itH F n ls h
  | 0, _, _, _, hm, _ => absurd hm (Nat.not_lt_zero _)
  | n + 1, m, ls, h, hm, hi => step m ls h hi (itH F n) fun m' ls h h' hi' => itH_rule Inv step n m' ls h (by omega) hi'
/-- A loop: a measure and what holds. -/
theorem loopH_rule {F : (List Lf → HL → Prop) → List Lf → HL → Prop} (Inv : Nat → List Lf → HL → Prop) {m : Nat} {ls : List Lf} {h : HL} (hi : Inv m ls h)
    (step : ∀ m ls h, Inv m ls h → ∀ self : List Lf → HL → Prop, (∀ m' ls h, m' < m → Inv m' ls h → self ls h) → F self ls h) : loopH F ls h :=
  ⟨m + 1, itH_rule Inv step (m + 1) m ls h (Nat.lt_succ_self m) hi⟩
end
end Sx
end Go.Am

/-
  THE ALGEBRA OF PROPOSITIONS, its rules as equations: a step each.
-/
namespace Go.Am
namespace Sx

/-- What comes behind, put away: no step looks into it. -/
class Bx (α : Sort _) where
  v : α
def hid {α : Sort _} [b : Bx α] : α := b.v
section
variable [Val] [Kno] {C : Cfg} {Sg : FuncId → Option Sig} {T : Nat → Site}

theorem b_unI {n : Int} {r : List Lf} {K : Int → List Lf → Prop} : (PH C Sg T).unI (.i n :: r) K = K n r := rfl
theorem b_unB {n : Bool} {r : List Lf} {K : Bool → List Lf → Prop} : (PH C Sg T).unB (.b n :: r) K = K n r := rfl
theorem b_unV {n : Value} {r : List Lf} {K : Value → List Lf → Prop} : (PH C Sg T).unV (.v n :: r) K = K n r := rfl
theorem b_un0 {K : Prop} : (PH C Sg T).un0 [] K = K := rfl
theorem b_ucI {k : IntKind} {n : Int} {r : List Value} {K : Int → List Value → Prop} : (PH C Sg T).ucI k (.int k n :: r) K = K n r := by
  show (k = k ∧ K n r) = K n r
  simp
theorem b_ucB {n : Bool} {r : List Value} {K : Bool → List Value → Prop} : (PH C Sg T).ucB (.bool n :: r) K = K n r := rfl
theorem b_ucV {n : Value} {r : List Value} {K : Value → List Value → Prop} : (PH C Sg T).ucV (n :: r) K = K n r := rfl
theorem b_uc0 {K : Prop} : (PH C Sg T).uc0 [] K = K := rfl
theorem p_chk {v : Value} {K : Prop} (h : goodV v = true) : (PH C Sg T).chk v K = K := by
  show (goodV v = true ∧ K) = K
  simp [h]
theorem b_cond_t {X Y : Prop} : (PH C Sg T).cond true X Y = X := by
  show ((true = true → X) ∧ (true = false → Y)) = X
  simp
theorem b_cond_f {X Y : Prop} : (PH C Sg T).cond false X Y = Y := by
  show ((false = true → X) ∧ (false = false → Y)) = Y
  simp
theorem b_lss_t {a b : Int} {K : Bool → Prop} (h : a < b) : (PH C Sg T).cmp .lss a b K = K true := by
  show K (decide (a < b)) = _; rw [decide_eq_true h]
theorem b_lss_f {a b : Int} {K : Bool → Prop} (h : b ≤ a) : (PH C Sg T).cmp .lss a b K = K false := by
  show K (decide (a < b)) = _; rw [decide_eq_false (by omega)]
theorem b_leq_t {a b : Int} {K : Bool → Prop} (h : a ≤ b) : (PH C Sg T).cmp .leq a b K = K true := by
  show K (decide (a ≤ b)) = _; rw [decide_eq_true h]
theorem b_leq_f {a b : Int} {K : Bool → Prop} (h : b < a) : (PH C Sg T).cmp .leq a b K = K false := by
  show K (decide (a ≤ b)) = _; rw [decide_eq_false (by omega)]
theorem b_gtr_t {a b : Int} {K : Bool → Prop} (h : b < a) : (PH C Sg T).cmp .gtr a b K = K true := by
  show K (decide (a > b)) = _; rw [decide_eq_true h]
theorem b_gtr_f {a b : Int} {K : Bool → Prop} (h : a ≤ b) : (PH C Sg T).cmp .gtr a b K = K false := by
  show K (decide (a > b)) = _; rw [decide_eq_false (by omega)]
theorem b_geq_t {a b : Int} {K : Bool → Prop} (h : b ≤ a) : (PH C Sg T).cmp .geq a b K = K true := by
  show K (decide (a ≥ b)) = _; rw [decide_eq_true h]
theorem b_geq_f {a b : Int} {K : Bool → Prop} (h : a < b) : (PH C Sg T).cmp .geq a b K = K false := by
  show K (decide (a ≥ b)) = _; rw [decide_eq_false (by omega)]
theorem b_eql_t {a b : Int} {K : Bool → Prop} (h : a = b) : (PH C Sg T).cmp .eql a b K = K true := by
  show K (a == b) = _; rw [beq_iff_eq.2 h]
theorem b_eql_f {a b : Int} {K : Bool → Prop} (h : a ≠ b) : (PH C Sg T).cmp .eql a b K = K false := by
  show K (a == b) = _; rw [beq_false_of_ne h]
theorem b_neq_t {a b : Int} {K : Bool → Prop} (h : a ≠ b) : (PH C Sg T).cmp .neq a b K = K true := by
  show K (a != b) = _; rw [bne_iff_ne.2 h]
theorem b_neq_f {a b : Int} {K : Bool → Prop} (h : a = b) : (PH C Sg T).cmp .neq a b K = K false := by
  show K (a != b) = _; subst h; simp
theorem b_add {a b : Int} {K : Int → Prop} (h1 : -9223372036854775808 ≤ a + b) (h2 : a + b ≤ 9223372036854775807) : (PH C Sg T).ari .add .i64 a b K = K (a + b) := by
  show K (IntKind.wrap .i64 (a + b)) = _; rw [wrap_i64 h1 h2]
theorem b_sub {a b : Int} {K : Int → Prop} (h1 : -9223372036854775808 ≤ a - b) (h2 : a - b ≤ 9223372036854775807) : (PH C Sg T).ari .sub .i64 a b K = K (a - b) := by
  show K (IntKind.wrap .i64 (a - b)) = _; rw [wrap_i64 h1 h2]
theorem b_mul {a b : Int} {K : Int → Prop} (h1 : -9223372036854775808 ≤ a * b) (h2 : a * b ≤ 9223372036854775807) : (PH C Sg T).ari .mul .i64 a b K = K (a * b) := by
  show K (IntKind.wrap .i64 (a * b)) = _; rw [wrap_i64 h1 h2]
theorem b_add8 {a b : Int} {K : Int → Prop} (h1 : 0 ≤ a + b) (h2 : a + b ≤ 255) : (PH C Sg T).ari .add .u8 a b K = K (a + b) := by
  show K (IntKind.wrap .u8 (a + b)) = _; rw [wrap_u8 h1 h2]
theorem b_sub8 {a b : Int} {K : Int → Prop} (h1 : 0 ≤ a - b) (h2 : a - b ≤ 255) : (PH C Sg T).ari .sub .u8 a b K = K (a - b) := by
  show K (IntKind.wrap .u8 (a - b)) = _; rw [wrap_u8 h1 h2]
theorem b_mul8 {a b : Int} {K : Int → Prop} (h1 : 0 ≤ a * b) (h2 : a * b ≤ 255) : (PH C Sg T).ari .mul .u8 a b K = K (a * b) := by
  show K (IntKind.wrap .u8 (a * b)) = _; rw [wrap_u8 h1 h2]
theorem tdiv_nn {a b : Int} (h : 0 ≤ a) : a.tdiv b = a / b := Int.tdiv_eq_ediv_of_nonneg h
theorem b_quo_nn {a b : Int} {K : Int → Prop} (h : 0 ≤ a) (hb : 0 < b) (h2 : a ≤ 9223372036854775807) : (PH C Sg T).ari .quo .i64 a b K = K (a / b) := by
  show (b ≠ 0 ∧ K (IntKind.wrap .i64 (a.tdiv b))) = _
  have h3 : a / b ≤ a := Int.ediv_le_self b h
  have h4 : 0 ≤ a / b := Int.ediv_nonneg h (by omega)
  rw [tdiv_nn h, wrap_i64 (by omega) (by omega)]
  simp; intro _ h; omega
theorem b_quo_ev {a : Int} {K : Int → Prop} (h : a % 2 = 0) (h1 : -9223372036854775808 ≤ a) (h2 : a ≤ 9223372036854775807) : (PH C Sg T).ari .quo .i64 a 2 K = K (a / 2) := by
  show ((2 : Int) ≠ 0 ∧ K (IntKind.wrap .i64 (a.tdiv 2))) = _
  rw [Int.tdiv_eq_ediv_of_dvd (Int.dvd_of_emod_eq_zero h), wrap_i64 (by omega) (by omega)]
  simp
theorem b_quo_dv {a b : Int} {K : Int → Prop} (h : a % b = 0) (hb : 0 < b) (h1 : -9223372036854775808 ≤ a) (h2 : a ≤ 9223372036854775807) : (PH C Sg T).ari .quo .i64 a b K = K (a / b) := by
  show (b ≠ 0 ∧ K (IntKind.wrap .i64 (a.tdiv b))) = _
  obtain ⟨q, rfl⟩ := Int.dvd_of_emod_eq_zero h
  rw [Int.mul_tdiv_cancel_left q (by omega), Int.mul_ediv_cancel_left q (by omega)]
  have hq : -9223372036854775808 ≤ q ∧ q ≤ 9223372036854775807 := by
    rcases Int.le_total 0 q with hs | hs
    · have := Int.mul_le_mul_of_nonneg_right (show (1 : Int) ≤ b by omega) hs
      omega
    · have := Int.mul_le_mul_of_nonneg_right (show (1 : Int) ≤ b by omega) (show 0 ≤ -q by omega)
      rw [Int.mul_neg b q] at this
      omega
  rw [wrap_i64 hq.1 hq.2]
  simp; intro _ h; omega
theorem b_rem_nn {k : IntKind} {a b : Int} {K : Int → Prop} (h : 0 ≤ a) (hb : 0 < b) : (PH C Sg T).ari .rem k a b K = K (a % b) := by
  show (b ≠ 0 ∧ K (a.tmod b)) = _
  rw [Int.tmod_eq_emod_of_nonneg h]
  simp; intro _ h; omega
theorem b_rem_np {k : IntKind} {a b : Int} {K : Int → Prop} (h : a ≤ 0) (hb : 0 < b) : (PH C Sg T).ari .rem k a b K = K (-((-a) % b)) := by
  show (b ≠ 0 ∧ K (a.tmod b)) = _
  have : a.tmod b = -((-a) % b) := by
    have h1 := Int.neg_tmod a b
    rw [Int.tmod_eq_emod_of_nonneg (a := -a) (by omega)] at h1
    omega
  rw [this]
  simp; intro _ h; omega
theorem b_and1 {a : Int} {K : Int → Prop} : (PH C Sg T).ari .and .i64 a 1 K = K (a % 2) := by
  show (((1 : Int) = 1 ∧ K (a % 2)) ∨ ((1 : Int) ≠ 1 ∧ ∃ n, ArRun .and .i64 a 1 n ∧ K n)) = K (a % 2)
  simp
theorem b_conv {a : Int} {K : Int → Prop} (h1 : -9223372036854775808 ≤ a) (h2 : a ≤ 9223372036854775807) : (PH C Sg T).conv .i64 a K = K a := by
  show K (IntKind.wrap .i64 a) = _; rw [wrap_i64 h1 h2]
theorem b_conv8 {a : Int} {K : Int → Prop} (h1 : 0 ≤ a) (h2 : a ≤ 255) : (PH C Sg T).conv .u8 a K = K a := by
  show K (IntKind.wrap .u8 a) = _; rw [wrap_u8 h1 h2]
theorem b_sel_t {a b : Int} {K : Int → Prop} : (PH C Sg T).sel true a b K = K a := rfl
theorem b_sel_f {a b : Int} {K : Int → Prop} : (PH C Sg T).sel false a b K = K b := rfl
theorem b_opt {α : Type} {x : α} {K : α → Prop} : (PH C Sg T).opt (some x) K = K x := by
  show (∃ y, some x = some y ∧ K y) = K x
  simp
theorem b_inB {n : Nat} {i : Int} {K : Unit → Prop} (h1 : 0 ≤ i) (h2 : i < (n : Int)) : (PH C Sg T).opt (inB n i) K = K () := by
  rw [show inB n i = some () from if_pos ⟨h1, h2⟩, b_opt]
theorem p_opt_eq {α : Type} {o : Option α} {x : α} {K : α → Prop} (h : o = some x) : (PH C Sg T).opt o K = K x := by
  rw [h, b_opt]
theorem b_join {b : List Lf → HL → Prop} {m : (List Lf → HL → Prop) → Prop} : (PH C Sg T).join b m = m b := rfl
theorem b_eqs0 {K : Bool → Prop} : (PH C Sg T).eqs [] K = K true := rfl
theorem b_eqs_t {a b : Int} {l : List (Lf × Lf)} {K : Bool → Prop} (h : a = b) : (PH C Sg T).eqs ((.i a, .i b) :: l) K = (PH C Sg T).eqs l K := by
  show K (eqAll _) = K (eqAll l)
  subst h
  simp [eqAll, eqLfD]
theorem b_eqs_f {a b : Int} {l : List (Lf × Lf)} {K : Bool → Prop} (h : a ≠ b) : (PH C Sg T).eqs ((.i a, .i b) :: l) K = K false := by
  show K (eqAll _) = K false
  have : (a == b) = false := beq_false_of_ne h
  simp [eqAll, eqLfD, this]
theorem p_loop {F : (List Lf → HL → Prop) → List Lf → HL → Prop} {ls : List Lf} {h : HL} (n : Nat) (hn : itH F n ls h) : (PH C Sg T).loop F ls h := ⟨n, hn⟩
theorem b_it {F : (List Lf → HL → Prop) → List Lf → HL → Prop} {n : Nat} {ls : List Lf} {h : HL} : itH F (n + 1) ls h = F (itH F n) ls h := rfl
theorem p_call {g : FuncId} {ls rs : List Lf} {h : HL} {K : List Lf → HL → Prop} (hc : ∀ H, CallL C Sg g ls H rs H) (hk : K rs h) : (PH C Sg T).call g ls h (@hid _ ⟨K⟩) := ⟨rs, h, hc _, hk⟩
theorem p_cond {b : Bool} {X Y : Prop} (h1 : b = true → X) (h2 : b = false → Y) : (PH C Sg T).cond b (@hid _ ⟨X⟩) (@hid _ ⟨Y⟩) := ⟨h1, h2⟩
/-- Truth values compared. -/
theorem b_eqsb_t {a b : Bool} {l : List (Lf × Lf)} {K : Bool → Prop} (h : a = b) : (PH C Sg T).eqs ((.b a, .b b) :: l) K = (PH C Sg T).eqs l K := by
  show K (eqAll _) = K (eqAll l)
  subst h
  simp [eqAll, eqLfD]
theorem b_eqsb_tf {l : List (Lf × Lf)} {K : Bool → Prop} : (PH C Sg T).eqs ((.b true, .b false) :: l) K = K false := rfl
theorem b_eqsb_ft {l : List (Lf × Lf)} {K : Bool → Prop} : (PH C Sg T).eqs ((.b false, .b true) :: l) K = K false := rfl
theorem b_mul_1 {b : Int} {K : Int → Prop} (h1 : -9223372036854775808 ≤ b) (h2 : b ≤ 9223372036854775807) : (PH C Sg T).ari .mul .i64 1 b K = K b := by
  show K (IntKind.wrap .i64 (1 * b)) = _; rw [Int.one_mul, wrap_i64 h1 h2]
theorem b_mul_0 {b : Int} {K : Int → Prop} : (PH C Sg T).ari .mul .i64 0 b K = K 0 := by
  show K (IntKind.wrap .i64 (0 * b)) = _; rw [Int.zero_mul]; rfl
theorem b_mul_m {b : Int} {K : Int → Prop} (h1 : -9223372036854775808 ≤ -b) (h2 : -b ≤ 9223372036854775807) : (PH C Sg T).ari .mul .i64 (-1) b K = K (-b) := by
  show K (IntKind.wrap .i64 (-1 * b)) = _
  have : (-1 * b : Int) = -b := by omega
  rw [this, wrap_i64 h1 h2]
theorem b_mul_r1 {b : Int} {K : Int → Prop} (h1 : -9223372036854775808 ≤ b) (h2 : b ≤ 9223372036854775807) : (PH C Sg T).ari .mul .i64 b 1 K = K b := by
  show K (IntKind.wrap .i64 (b * 1)) = _; rw [Int.mul_one, wrap_i64 h1 h2]
theorem b_mul_r0 {b : Int} {K : Int → Prop} : (PH C Sg T).ari .mul .i64 b 0 K = K 0 := by
  show K (IntKind.wrap .i64 (b * 0)) = _; rw [Int.mul_zero]; rfl
theorem b_mul_rm {b : Int} {K : Int → Prop} (h1 : -9223372036854775808 ≤ -b) (h2 : -b ≤ 9223372036854775807) : (PH C Sg T).ari .mul .i64 b (-1) K = K (-b) := by
  show K (IntKind.wrap .i64 (b * -1)) = _
  have : (b * -1 : Int) = -b := by omega
  rw [this, wrap_i64 h1 h2]
theorem b_add_0 {b : Int} {K : Int → Prop} (h1 : -9223372036854775808 ≤ b) (h2 : b ≤ 9223372036854775807) : (PH C Sg T).ari .add .i64 0 b K = K b := by
  show K (IntKind.wrap .i64 (0 + b)) = _; rw [Int.zero_add, wrap_i64 h1 h2]
theorem b_add_r0 {b : Int} {K : Int → Prop} (h1 : -9223372036854775808 ≤ b) (h2 : b ≤ 9223372036854775807) : (PH C Sg T).ari .add .i64 b 0 K = K b := by
  show K (IntKind.wrap .i64 (b + 0)) = _; rw [Int.add_zero, wrap_i64 h1 h2]
theorem b_add_11 {K : Int → Prop} : (PH C Sg T).ari .add .i64 1 1 K = K 2 := by
  show K (IntKind.wrap .i64 (1 + 1)) = _; rfl
theorem b_quo_1 {a : Int} {K : Int → Prop} (h1 : -9223372036854775808 ≤ a) (h2 : a ≤ 9223372036854775807) : (PH C Sg T).ari .quo .i64 a 1 K = K a := by
  show ((1 : Int) ≠ 0 ∧ K (IntKind.wrap .i64 (a.tdiv 1))) = _
  rw [Int.tdiv_one, wrap_i64 h1 h2]; simp
theorem p_ari_2 {op : BinOp} {k : IntKind} {a b b' : Int} {K : Int → Prop} (hb : b = b') (h : (PH C Sg T).ari op k a b' K) : (PH C Sg T).ari op k a b K := by rw [hb]; exact h
theorem p_opt_r {α : Type} {o : Option α} {x : α} {K : α → Prop} (h : o = some x) (hk : K x) : (PH C Sg T).opt o (@hid _ ⟨K⟩) := ⟨x, h, hk⟩
theorem pvx {vs : List Value} {base sz n : Nat} {i j : Int} {o : Option (List Value)} (h2 : pickV vs base [(j, sz)] n = o) (h : i = j) : pickV vs base [(i, sz)] n = o := by rw [h]; exact h2
theorem pvx2 {vs : List Value} {base sz sz' n : Nat} {i j i' j' : Int} {o : Option (List Value)} (h2 : pickV vs base [(j, sz), (j', sz')] n = o) (h : i = j) (h' : i' = j') : pickV vs base [(i, sz), (i', sz')] n = o := by rw [h, h']; exact h2
theorem plx {ls : List Lf} {base sz n : Nat} {i : Int} {o : Option (List Lf)} (j : Int) (h : i = j) (h2 : pickL ls base [(j, sz)] n = o) : pickL ls base [(i, sz)] n = o := by rw [h]; exact h2
theorem ptx {ls new : List Lf} {base sz : Nat} {i : Int} {o : Option (List Lf)} (j : Int) (h : i = j) (h2 : putL ls base [(j, sz)] new = o) : putL ls base [(i, sz)] new = o := by rw [h]; exact h2
/-! ### The same, with what comes behind put away -/
theorem p_unI {n : Int} {r : List Lf} {K : Int → List Lf → Prop} : (PH C Sg T).unI (.i n :: r) (@hid _ ⟨K⟩) = K n r := b_unI
theorem p_unB {n : Bool} {r : List Lf} {K : Bool → List Lf → Prop} : (PH C Sg T).unB (.b n :: r) (@hid _ ⟨K⟩) = K n r := b_unB
theorem p_unV {n : Value} {r : List Lf} {K : Value → List Lf → Prop} : (PH C Sg T).unV (.v n :: r) (@hid _ ⟨K⟩) = K n r := b_unV
theorem p_un0 {K : Prop} : (PH C Sg T).un0 [] (@hid _ ⟨K⟩) = K := b_un0
theorem p_ucI {k : IntKind} {n : Int} {r : List Value} {K : Int → List Value → Prop} : (PH C Sg T).ucI k (.int k n :: r) (@hid _ ⟨K⟩) = K n r := b_ucI
theorem p_ucB {n : Bool} {r : List Value} {K : Bool → List Value → Prop} : (PH C Sg T).ucB (.bool n :: r) (@hid _ ⟨K⟩) = K n r := b_ucB
theorem p_ucV {n : Value} {r : List Value} {K : Value → List Value → Prop} : (PH C Sg T).ucV (n :: r) (@hid _ ⟨K⟩) = K n r := b_ucV
theorem p_uc0 {K : Prop} : (PH C Sg T).uc0 [] (@hid _ ⟨K⟩) = K := b_uc0
theorem p_cond_t {X Y : Prop} : (PH C Sg T).cond true (@hid _ ⟨X⟩) Y = X := b_cond_t
theorem p_cond_f {X Y : Prop} : (PH C Sg T).cond false X (@hid _ ⟨Y⟩) = Y := b_cond_f
theorem p_lss_t {a b : Int} {K : Bool → Prop} (h : a < b) : (PH C Sg T).cmp .lss a b (@hid _ ⟨K⟩) = K true := b_lss_t h
theorem p_lss_f {a b : Int} {K : Bool → Prop} (h : b ≤ a) : (PH C Sg T).cmp .lss a b (@hid _ ⟨K⟩) = K false := b_lss_f h
theorem p_leq_t {a b : Int} {K : Bool → Prop} (h : a ≤ b) : (PH C Sg T).cmp .leq a b (@hid _ ⟨K⟩) = K true := b_leq_t h
theorem p_leq_f {a b : Int} {K : Bool → Prop} (h : b < a) : (PH C Sg T).cmp .leq a b (@hid _ ⟨K⟩) = K false := b_leq_f h
theorem p_gtr_t {a b : Int} {K : Bool → Prop} (h : b < a) : (PH C Sg T).cmp .gtr a b (@hid _ ⟨K⟩) = K true := b_gtr_t h
theorem p_gtr_f {a b : Int} {K : Bool → Prop} (h : a ≤ b) : (PH C Sg T).cmp .gtr a b (@hid _ ⟨K⟩) = K false := b_gtr_f h
theorem p_geq_t {a b : Int} {K : Bool → Prop} (h : b ≤ a) : (PH C Sg T).cmp .geq a b (@hid _ ⟨K⟩) = K true := b_geq_t h
theorem p_geq_f {a b : Int} {K : Bool → Prop} (h : a < b) : (PH C Sg T).cmp .geq a b (@hid _ ⟨K⟩) = K false := b_geq_f h
theorem p_eql_t {a b : Int} {K : Bool → Prop} (h : a = b) : (PH C Sg T).cmp .eql a b (@hid _ ⟨K⟩) = K true := b_eql_t h
theorem p_eql_f {a b : Int} {K : Bool → Prop} (h : a ≠ b) : (PH C Sg T).cmp .eql a b (@hid _ ⟨K⟩) = K false := b_eql_f h
theorem p_neq_t {a b : Int} {K : Bool → Prop} (h : a ≠ b) : (PH C Sg T).cmp .neq a b (@hid _ ⟨K⟩) = K true := b_neq_t h
theorem p_neq_f {a b : Int} {K : Bool → Prop} (h : a = b) : (PH C Sg T).cmp .neq a b (@hid _ ⟨K⟩) = K false := b_neq_f h
theorem p_add {a b : Int} {K : Int → Prop} (h1 : -9223372036854775808 ≤ a + b) (h2 : a + b ≤ 9223372036854775807) : (PH C Sg T).ari .add .i64 a b (@hid _ ⟨K⟩) = K (a + b) := b_add h1 h2
theorem p_sub {a b : Int} {K : Int → Prop} (h1 : -9223372036854775808 ≤ a - b) (h2 : a - b ≤ 9223372036854775807) : (PH C Sg T).ari .sub .i64 a b (@hid _ ⟨K⟩) = K (a - b) := b_sub h1 h2
theorem p_mul {a b : Int} {K : Int → Prop} (h1 : -9223372036854775808 ≤ a * b) (h2 : a * b ≤ 9223372036854775807) : (PH C Sg T).ari .mul .i64 a b (@hid _ ⟨K⟩) = K (a * b) := b_mul h1 h2
theorem p_add8 {a b : Int} {K : Int → Prop} (h1 : 0 ≤ a + b) (h2 : a + b ≤ 255) : (PH C Sg T).ari .add .u8 a b (@hid _ ⟨K⟩) = K (a + b) := b_add8 h1 h2
theorem p_sub8 {a b : Int} {K : Int → Prop} (h1 : 0 ≤ a - b) (h2 : a - b ≤ 255) : (PH C Sg T).ari .sub .u8 a b (@hid _ ⟨K⟩) = K (a - b) := b_sub8 h1 h2
theorem p_mul8 {a b : Int} {K : Int → Prop} (h1 : 0 ≤ a * b) (h2 : a * b ≤ 255) : (PH C Sg T).ari .mul .u8 a b (@hid _ ⟨K⟩) = K (a * b) := b_mul8 h1 h2
theorem p_quo_nn {a b : Int} {K : Int → Prop} (h : 0 ≤ a) (hb : 0 < b) (h2 : a ≤ 9223372036854775807) : (PH C Sg T).ari .quo .i64 a b (@hid _ ⟨K⟩) = K (a / b) := b_quo_nn h hb h2
theorem p_quo_ev {a : Int} {K : Int → Prop} (h : a % 2 = 0) (h1 : -9223372036854775808 ≤ a) (h2 : a ≤ 9223372036854775807) : (PH C Sg T).ari .quo .i64 a 2 (@hid _ ⟨K⟩) = K (a / 2) := b_quo_ev h h1 h2
theorem p_quo_dv {a b : Int} {K : Int → Prop} (h : a % b = 0) (hb : 0 < b) (h1 : -9223372036854775808 ≤ a) (h2 : a ≤ 9223372036854775807) : (PH C Sg T).ari .quo .i64 a b (@hid _ ⟨K⟩) = K (a / b) := b_quo_dv h hb h1 h2
theorem p_rem_nn {k : IntKind} {a b : Int} {K : Int → Prop} (h : 0 ≤ a) (hb : 0 < b) : (PH C Sg T).ari .rem k a b (@hid _ ⟨K⟩) = K (a % b) := b_rem_nn h hb
theorem p_rem_np {k : IntKind} {a b : Int} {K : Int → Prop} (h : a ≤ 0) (hb : 0 < b) : (PH C Sg T).ari .rem k a b (@hid _ ⟨K⟩) = K (-((-a) % b)) := b_rem_np h hb
theorem p_and1 {a : Int} {K : Int → Prop} : (PH C Sg T).ari .and .i64 a 1 (@hid _ ⟨K⟩) = K (a % 2) := b_and1
theorem p_conv {a : Int} {K : Int → Prop} (h1 : -9223372036854775808 ≤ a) (h2 : a ≤ 9223372036854775807) : (PH C Sg T).conv .i64 a (@hid _ ⟨K⟩) = K a := b_conv h1 h2
theorem p_conv8 {a : Int} {K : Int → Prop} (h1 : 0 ≤ a) (h2 : a ≤ 255) : (PH C Sg T).conv .u8 a (@hid _ ⟨K⟩) = K a := b_conv8 h1 h2
theorem p_sel_t {a b : Int} {K : Int → Prop} : (PH C Sg T).sel true a b (@hid _ ⟨K⟩) = K a := b_sel_t
theorem p_sel_f {a b : Int} {K : Int → Prop} : (PH C Sg T).sel false a b (@hid _ ⟨K⟩) = K b := b_sel_f
theorem p_opt {α : Type} {x : α} {K : α → Prop} : (PH C Sg T).opt (some x) (@hid _ ⟨K⟩) = K x := b_opt
theorem p_inB {n : Nat} {i : Int} {K : Unit → Prop} (h1 : 0 ≤ i) (h2 : i < (n : Int)) : (PH C Sg T).opt (inB n i) (@hid _ ⟨K⟩) = K () := b_inB h1 h2
theorem p_join {b : List Lf → HL → Prop} {m : (List Lf → HL → Prop) → Prop} : (PH C Sg T).join (@hid _ ⟨b⟩) (@hid _ ⟨m⟩) = m (@hid _ ⟨b⟩) := b_join
theorem p_eqs0 {K : Bool → Prop} : (PH C Sg T).eqs [] (@hid _ ⟨K⟩) = K true := b_eqs0
theorem p_eqs_t {a b : Int} {l : List (Lf × Lf)} {K : Bool → Prop} (h : a = b) : (PH C Sg T).eqs ((.i a, .i b) :: l) (@hid _ ⟨K⟩) = (PH C Sg T).eqs l (@hid _ ⟨K⟩) := b_eqs_t h
theorem p_eqs_f {a b : Int} {l : List (Lf × Lf)} {K : Bool → Prop} (h : a ≠ b) : (PH C Sg T).eqs ((.i a, .i b) :: l) (@hid _ ⟨K⟩) = K false := b_eqs_f h
theorem p_it {F : (List Lf → HL → Prop) → List Lf → HL → Prop} {n : Nat} {ls : List Lf} {h : HL} : itH (@hid _ ⟨F⟩) (n + 1) ls h = F (itH (@hid _ ⟨F⟩) n) ls h := b_it
theorem p_eqsb_t {a b : Bool} {l : List (Lf × Lf)} {K : Bool → Prop} (h : a = b) : (PH C Sg T).eqs ((.b a, .b b) :: l) (@hid _ ⟨K⟩) = (PH C Sg T).eqs l (@hid _ ⟨K⟩) := b_eqsb_t h
theorem p_eqsb_tf {l : List (Lf × Lf)} {K : Bool → Prop} : (PH C Sg T).eqs ((.b true, .b false) :: l) (@hid _ ⟨K⟩) = K false := b_eqsb_tf
theorem p_eqsb_ft {l : List (Lf × Lf)} {K : Bool → Prop} : (PH C Sg T).eqs ((.b false, .b true) :: l) (@hid _ ⟨K⟩) = K false := b_eqsb_ft
theorem p_mul_1 {b : Int} {K : Int → Prop} (h1 : -9223372036854775808 ≤ b) (h2 : b ≤ 9223372036854775807) : (PH C Sg T).ari .mul .i64 1 b (@hid _ ⟨K⟩) = K b := b_mul_1 h1 h2
theorem p_mul_0 {b : Int} {K : Int → Prop} : (PH C Sg T).ari .mul .i64 0 b (@hid _ ⟨K⟩) = K 0 := b_mul_0
theorem p_mul_m {b : Int} {K : Int → Prop} (h1 : -9223372036854775808 ≤ -b) (h2 : -b ≤ 9223372036854775807) : (PH C Sg T).ari .mul .i64 (-1) b (@hid _ ⟨K⟩) = K (-b) := b_mul_m h1 h2
theorem p_mul_r1 {b : Int} {K : Int → Prop} (h1 : -9223372036854775808 ≤ b) (h2 : b ≤ 9223372036854775807) : (PH C Sg T).ari .mul .i64 b 1 (@hid _ ⟨K⟩) = K b := b_mul_r1 h1 h2
theorem p_mul_r0 {b : Int} {K : Int → Prop} : (PH C Sg T).ari .mul .i64 b 0 (@hid _ ⟨K⟩) = K 0 := b_mul_r0
theorem p_mul_rm {b : Int} {K : Int → Prop} (h1 : -9223372036854775808 ≤ -b) (h2 : -b ≤ 9223372036854775807) : (PH C Sg T).ari .mul .i64 b (-1) (@hid _ ⟨K⟩) = K (-b) := b_mul_rm h1 h2
theorem p_add_0 {b : Int} {K : Int → Prop} (h1 : -9223372036854775808 ≤ b) (h2 : b ≤ 9223372036854775807) : (PH C Sg T).ari .add .i64 0 b (@hid _ ⟨K⟩) = K b := b_add_0 h1 h2
theorem p_add_r0 {b : Int} {K : Int → Prop} (h1 : -9223372036854775808 ≤ b) (h2 : b ≤ 9223372036854775807) : (PH C Sg T).ari .add .i64 b 0 (@hid _ ⟨K⟩) = K b := b_add_r0 h1 h2
theorem p_add_11 {K : Int → Prop} : (PH C Sg T).ari .add .i64 1 1 (@hid _ ⟨K⟩) = K 2 := b_add_11
theorem p_quo_1 {a : Int} {K : Int → Prop} (h1 : -9223372036854775808 ≤ a) (h2 : a ≤ 9223372036854775807) : (PH C Sg T).ari .quo .i64 a 1 (@hid _ ⟨K⟩) = K a := b_quo_1 h1 h2
theorem p_hid2 {f : List Lf → HL → Prop} {a : List Lf} {b : HL} : @hid _ ⟨f⟩ a b = f a b := rfl
theorem p_eqs2_f {a b c d : Int} {K : Bool → Prop} (h : ¬ (a = c ∧ b = d)) : (PH C Sg T).eqs [(.i a, .i c), (.i b, .i d)] (@hid _ ⟨K⟩) = K false := by
  show K (eqAll _) = K false
  have : eqAll [(.i a, .i c), (.i b, .i d)] = false := by
    rw [Bool.eq_false_iff]
    simpa [eqAll, eqLfD] using h
  rw [this]
theorem p_eqs3_f {a b c d e f : Int} {K : Bool → Prop} (h : ¬ (a = d ∧ b = e ∧ c = f)) : (PH C Sg T).eqs [(.i a, .i d), (.i b, .i e), (.i c, .i f)] (@hid _ ⟨K⟩) = K false := by
  show K (eqAll _) = K false
  have : eqAll [(.i a, .i d), (.i b, .i e), (.i c, .i f)] = false := by
    rw [Bool.eq_false_iff]
    simpa [eqAll, eqLfD] using h
  rw [this]
theorem p_callH {g : FuncId} {ls rs : List Lf} {h h' : HL} {K : List Lf → HL → Prop} (hc : CallL C Sg g ls (absH T h) rs (absH T h')) (hk : K rs h') : (PH C Sg T).call g ls h (@hid _ ⟨K⟩) := ⟨rs, h', hc, hk⟩
theorem p_callE {g : FuncId} {ls : List Lf} {h : HL} {P : Int → Prop} {K : List Lf → HL → Prop} (hc : ∃ r, P r ∧ ∀ H, CallL C Sg g ls H [.i r] H) (hk : ∀ r, P r → K [.i r] h) : (PH C Sg T).call g ls h (@hid _ ⟨K⟩) := by
  obtain ⟨r, h1, h2⟩ := hc
  exact ⟨_, h, h2 _, hk r h1⟩
theorem callv_ct {g : FuncId} {sg : Sig} {ls rs : List Lf} {H H' : List HObj} (hc : CallL C Sg g ls H rs H') (hs : Sg g = some sg) (xs : List S0) (h1 : areIs xs sg.ps = true) (h2 : lfsOf xs = ls) :
    CallV C (.func (.func g) #[] #[]) (valsOf xs) sg.rs H rs H' := by
  obtain ⟨sg', xs', ys, c1, c2, c3, c4⟩ := hc
  rw [hs] at c1
  cases c1
  obtain ⟨w1, _⟩ := areIs_val c2.1 h1 (c2.2.1.trans h2.symm)
  rw [w1] at c4
  exact ⟨ys, c3, .inl ⟨g, #[], #[], rfl, by simpa using c4⟩⟩
theorem p_callv {v : Value} {args : List Value} {hs : List SK} {rs : List Lf} {h h' : HL} {K : List Lf → HL → Prop} (hc : CallV C v args hs (absH T h) rs (absH T h')) (hk : K rs h') : (PH C Sg T).callv v args hs h (@hid _ ⟨K⟩) := ⟨rs, h', hc, hk⟩
theorem p_new {o : HObj} {h : HL} {K : Nat → HL → Prop} : (PH C Sg T).new o h (@hid _ ⟨K⟩) = K h.length (h ++ [.o o]) := rfl
theorem p_chk_r {v : Value} {K : Prop} (h : goodV v = true) (hk : K) : (PH C Sg T).chk v (@hid _ ⟨K⟩) := ⟨h, hk⟩
theorem p_heap_r {f : Getter → Nat → Option (List Act1 × List Value)} {h : HL} {K : List Value → HL → Prop} {acts : List Act1} {cs : List Value} (e : f (getH T h) h.length = some (acts, cs)) (hk : K cs (actsOnH h acts)) : (PH C Sg T).heap f h (@hid _ ⟨K⟩) := ⟨acts, cs, e, hk⟩
theorem p_peek_r {f : Getter → Option (List Value)} {h : HL} {K : List Value → Prop} {cs : List Value} (e : f (getH T h) = some cs) (hk : K cs) : (PH C Sg T).peek f h (@hid _ ⟨K⟩) := ⟨cs, e, hk⟩
/-- Rules in one. -/
def pxs (C : Cfg) (Sg : FuncId → Option Sig) (T : Nat → Site) := And.intro @p_hid2 (And.intro (@p_new _ _ C Sg T) (And.intro (@p_unI _ _ C Sg T) (And.intro (@p_unB _ _ C Sg T) (And.intro (@p_unV _ _ C Sg T) (And.intro (@p_un0 _ _ C Sg T) (And.intro (@p_ucI _ _ C Sg T) (And.intro (@p_ucB _ _ C Sg T) (And.intro (@p_ucV _ _ C Sg T) (And.intro (@p_uc0 _ _ C Sg T) (And.intro (@p_cond_t _ _ C Sg T) (And.intro (@p_cond_f _ _ C Sg T) (And.intro (@p_opt _ _ C Sg T) (And.intro (@p_inB _ _ C Sg T) (And.intro (@p_join _ _ C Sg T) (And.intro (@p_sel_t _ _ C Sg T) (And.intro (@p_sel_f _ _ C Sg T) ((@p_it))))))))))))))))))
/-- Rules in one. -/
def pxc (C : Cfg) (Sg : FuncId → Option Sig) (T : Nat → Site) := And.intro (@p_lss_t _ _ C Sg T) (And.intro (@p_lss_f _ _ C Sg T) (And.intro (@p_leq_t _ _ C Sg T) (And.intro (@p_leq_f _ _ C Sg T) (And.intro (@p_gtr_t _ _ C Sg T) (And.intro (@p_gtr_f _ _ C Sg T) (And.intro (@p_geq_t _ _ C Sg T) (And.intro (@p_geq_f _ _ C Sg T) (And.intro (@p_eql_t _ _ C Sg T) (And.intro (@p_eql_f _ _ C Sg T) (And.intro (@p_neq_t _ _ C Sg T) (And.intro (@p_neq_f _ _ C Sg T) (And.intro (@p_eqs0 _ _ C Sg T) (And.intro (@p_eqs_t _ _ C Sg T) (And.intro (@p_eqs_f _ _ C Sg T) (And.intro (@p_eqs2_f _ _ C Sg T) (And.intro (@p_eqs3_f _ _ C Sg T) (And.intro (@p_eqsb_t _ _ C Sg T) (And.intro (@p_eqsb_tf _ _ C Sg T) ((@p_eqsb_ft _ _ C Sg T))))))))))))))))))))
/-- Rules in one. -/
def pxa (C : Cfg) (Sg : FuncId → Option Sig) (T : Nat → Site) := And.intro (@p_mul_1 _ _ C Sg T) (And.intro (@p_mul_0 _ _ C Sg T) (And.intro (@p_mul_m _ _ C Sg T) (And.intro (@p_mul_r1 _ _ C Sg T) (And.intro (@p_mul_r0 _ _ C Sg T) (And.intro (@p_mul_rm _ _ C Sg T) (And.intro (@p_add_0 _ _ C Sg T) (And.intro (@p_add_r0 _ _ C Sg T) (And.intro (@p_add_11 _ _ C Sg T) (And.intro (@p_quo_1 _ _ C Sg T) (And.intro (@p_add _ _ C Sg T) (And.intro (@p_sub _ _ C Sg T) (And.intro (@p_mul _ _ C Sg T) (And.intro (@p_add8 _ _ C Sg T) (And.intro (@p_sub8 _ _ C Sg T) (And.intro (@p_mul8 _ _ C Sg T) (And.intro (@p_quo_nn _ _ C Sg T) (And.intro (@p_quo_dv _ _ C Sg T) (And.intro (@p_rem_nn _ _ C Sg T) (And.intro (@p_rem_np _ _ C Sg T) (And.intro (@p_and1 _ _ C Sg T) (And.intro (@p_conv _ _ C Sg T) ((@p_conv8 _ _ C Sg T)))))))))))))))))))))))
end
end Sx
end Go.Am

/-
  THE SEAT'S CALLS: what is known of them, and how it is shown (over the heaps of runs).
-/
set_option maxRecDepth 100000
namespace Go.Am
open Sx Go.Proofs

instance val0 : Val := ⟨fun _ => 0⟩
noncomputable instance kno0 : Kno := KnoC cc
theorem mixed : cc.P.follows .mixedOrders = true := by kernel_rfl
theorem gl_flat (g : Nat) (vs : List Value) (h : cc.G g = some vs) : vs.all flat = true := by
  unfold cc at h
  simp only at h
  split at h <;> first | (cases h; done) | (obtain rfl := Option.some.inj h; kernel_rfl)
theorem gl_cell (g : Nat) (vs : List Value) (h : cc.G g = some vs) : vs.all cellOk = true := by
  unfold cc at h
  simp only at h
  split at h <;> first | (cases h; done) | (obtain rfl := Option.some.inj h; kernel_rfl)
noncomputable abbrev P1 : Alg Prop HL := PH cc sgTab siteTab
/-- It answers so, and leaves nothing behind. -/
abbrev Cc (g : FuncId) (ls rs : List Lf) : Prop := ∀ H, CallL cc sgTab g ls H rs H

theorem fn_ok {f : FuncId} {fn : Fn1} (hi : FnIs (xc f) sgTab f fn) {ls : List Lf} {H : HL} {K : List Lf → HL → Prop} (hls : goodLs ls = true)
    (h : execF P1 (xc f) sgTab drN fn ls H K) : ∃ rs H', CallL cc sgTab f ls (absH siteTab H) rs (absH siteTab H') ∧ K rs H' := by
  obtain ⟨rs, h', a1, _, a3⟩ := execF_ok (X := xc f) (holds := id) (abs := absH siteTab) (PH_ok cc sgTab siteTab) (fun pts ops h n σ σ' hx => dr_ok neuN_ok pts ops h n σ σ' hx) hi (goodLs_ok hls) h
  exact ⟨rs, h', a1, a3⟩
/-- The rules, here. -/
def qxs := pxs cc sgTab siteTab
/-- The rules, here. -/
def qxc := pxc cc sgTab siteTab
/-- The rules, here. -/
def qxa := pxa cc sgTab siteTab
end Go.Am

/-
  THE FUNCTIONS OVER THE ALGEBRA OF PROPOSITIONS, BY PROGRAM.
-/
set_option maxRecDepth 100000
namespace Go.Am
open Sx Go.Proofs

/-- crimp/crimplaw05.SheetsCell -/
def p7 (A : Alg Prop (HL)) (ls : List Lf) (h : HL) (K : List Lf → HL → Prop) : Prop := A.unI ls (@hid _ ⟨fun n6 l7 => A.unI l7 (@hid _ ⟨fun n8 l9 => A.unI l9 (@hid _ ⟨fun n10 l11 => A.unI l11 (@hid _ ⟨fun n12 l13 => A.unI l13 (@hid _ ⟨fun n14 l15 => A.unI l15 (@hid _ ⟨fun n16 l17 => A.un0 l17 (@hid _ ⟨A.call 17 [(.i n6), (.i n8)] h (@hid _ ⟨fun l18 h19 => A.unI l18 (@hid _ ⟨fun n20 l21 => A.unI l21 (@hid _ ⟨fun n22 l23 => A.un0 l23 (@hid _ ⟨A.call 37 [(.i n20), (.i n22)] h19 (@hid _ ⟨fun l24 h25 => A.unV l24 (@hid _ ⟨fun x26 l27 => A.unI l27 (@hid _ ⟨fun n28 l29 => A.un0 l29 (@hid _ ⟨A.call 30 [(.i n20), (.i n22)] h25 (@hid _ ⟨fun l30 h31 => A.unV l30 (@hid _ ⟨fun x32 l33 => A.un0 l33 (@hid _ ⟨A.cmp .neq n28 0 (@hid _ ⟨fun t34 => A.cond t34 (@hid _ ⟨K [(.b false)] h31⟩) (@hid _ ⟨A.opt (lenS x26) (@hid _ ⟨fun x35 => A.opt (lenS x32) (@hid _ ⟨fun x36 => A.cmp .neq x35 x36 (@hid _ ⟨fun t37 => A.cond t37 (@hid _ ⟨K [(.b false)] h31⟩) (@hid _ ⟨A.opt (capS x26) (@hid _ ⟨fun x38 => A.opt (lenS x26) (@hid _ ⟨fun x39 => A.cmp .neq x38 x39 (@hid _ ⟨fun t40 => A.cond t40 (@hid _ ⟨K [(.b false)] h31⟩) (@hid _ ⟨A.loop (@hid _ ⟨fun s41 l42 h43 => A.unI l42 (@hid _ ⟨fun n44 l45 => A.un0 l45 (@hid _ ⟨A.opt (lenS x32) (@hid _ ⟨fun x46 => A.cmp .lss n44 x46 (@hid _ ⟨fun t47 => A.cond t47 (@hid _ ⟨A.call 35 [(.i n20), (.i n22), (.i n44)] h43 (@hid _ ⟨fun l48 h49 => A.unI l48 (@hid _ ⟨fun n50 l51 => A.unI l51 (@hid _ ⟨fun n52 l53 => A.unI l53 (@hid _ ⟨fun n54 l55 => A.unI l55 (@hid _ ⟨fun n56 l57 => A.un0 l57 (@hid _ ⟨A.opt (idS 3 x32 n44) (@hid _ ⟨fun x58 => A.peek (ldP 3 x58) h49 (@hid _ ⟨fun l59 => A.ucI .i64 l59 (@hid _ ⟨fun n60 l61 => A.ucI .i64 l61 (@hid _ ⟨fun n62 l63 => A.ucI .u8 l63 (@hid _ ⟨fun n64 l65 => A.uc0 l65 (@hid _ ⟨A.call 36 [(.i n20), (.i n22), (.i n60), (.i n62), (.i n64)] h49 (@hid _ ⟨fun l66 h67 => A.unI l66 (@hid _ ⟨fun n68 l69 => A.unI l69 (@hid _ ⟨fun n70 l71 => A.un0 l71 (@hid _ ⟨A.opt (idS 3 x26 n44) (@hid _ ⟨fun x72 => A.peek (ldP 3 x72) h67 (@hid _ ⟨fun l73 => A.ucI .i64 l73 (@hid _ ⟨fun n74 l75 => A.ucI .i64 l75 (@hid _ ⟨fun n76 l77 => A.ucI .u8 l77 (@hid _ ⟨fun n78 l79 => A.uc0 l79 (@hid _ ⟨A.opt (idS 3 x32 n44) (@hid _ ⟨fun x80 => A.peek (ldP 3 x80) h67 (@hid _ ⟨fun l81 => A.ucI .i64 l81 (@hid _ ⟨fun n82 l83 => A.ucI .i64 l83 (@hid _ ⟨fun n84 l85 => A.ucI .u8 l85 (@hid _ ⟨fun n86 l87 => A.uc0 l87 (@hid _ ⟨A.eqs [((.i n74), (.i n82)), ((.i n76), (.i n84)), ((.i n78), (.i n86))] (@hid _ ⟨fun t88 => A.cond (!t88) (@hid _ ⟨K [(.b false)] h67⟩) (@hid _ ⟨A.cmp .neq n56 0 (@hid _ ⟨fun t89 => A.cond t89 (@hid _ ⟨K [(.b false)] h67⟩) (@hid _ ⟨A.opt (idS 3 x32 n44) (@hid _ ⟨fun x90 => A.peek (ldP 3 x90) h67 (@hid _ ⟨fun l91 => A.ucI .i64 l91 (@hid _ ⟨fun n92 l93 => A.ucI .i64 l93 (@hid _ ⟨fun n94 l95 => A.ucI .u8 l95 (@hid _ ⟨fun n96 l97 => A.uc0 l97 (@hid _ ⟨A.eqs [((.i n50), (.i n92)), ((.i n52), (.i n94)), ((.i n54), (.i n96))] (@hid _ ⟨fun t98 => A.cond (!t98) (@hid _ ⟨K [(.b false)] h67⟩) (@hid _ ⟨A.cmp .neq n70 0 (@hid _ ⟨fun t99 => A.cond t99 (@hid _ ⟨K [(.b false)] h67⟩) (@hid _ ⟨A.cmp .neq n68 n44 (@hid _ ⟨fun t100 => A.cond t100 (@hid _ ⟨K [(.b false)] h67⟩) (@hid _ ⟨A.ari .add .i64 n44 1 (@hid _ ⟨fun n101 => s41 [(.i n101)] h67⟩)⟩)⟩)⟩)⟩)⟩)⟩)⟩)⟩)⟩)⟩)⟩)⟩)⟩)⟩)⟩)⟩)⟩)⟩)⟩)⟩)⟩)⟩)⟩)⟩)⟩)⟩)⟩)⟩)⟩)⟩)⟩)⟩)⟩)⟩)⟩)⟩)⟩)⟩)⟩)⟩)⟩)⟩)⟩)⟩)⟩) (@hid _ ⟨A.call 35 [(.i n20), (.i n22), (.i n10)] h43 (@hid _ ⟨fun l102 h103 => A.unI l102 (@hid _ ⟨fun n104 l105 => A.unI l105 (@hid _ ⟨fun n106 l107 => A.unI l107 (@hid _ ⟨fun n108 l109 => A.unI l109 (@hid _ ⟨fun n110 l111 => A.un0 l111 (@hid _ ⟨A.cmp .lss n10 0 (@hid _ ⟨fun t112 => A.cond t112 (@hid _ ⟨A.cmp .neq n110 7 (@hid _ ⟨fun t113 => A.cond t113 (@hid _ ⟨K [(.b false)] h103⟩) (@hid _ ⟨A.eqs [((.i n104), (.i 0)), ((.i n106), (.i 0)), ((.i n108), (.i 0))] (@hid _ ⟨fun t114 => A.cond (!t114) (@hid _ ⟨K [(.b false)] h103⟩) (@hid _ ⟨A.call 36 [(.i n20), (.i n22), (.i n12), (.i n14), (.i n16)] h103 (@hid _ ⟨fun l115 h116 => A.unI l115 (@hid _ ⟨fun n117 l118 => A.unI l118 (@hid _ ⟨fun n119 l120 => A.un0 l120 (@hid _ ⟨A.call 38 [(.i n20), (.i n22), (.i n12), (.i n14), (.i n16)] h116 (@hid _ ⟨fun l121 h122 => A.unI l121 (@hid _ ⟨fun n123 l124 => A.un0 l124 (@hid _ ⟨A.cmp .lss n123 0 (@hid _ ⟨fun t125 => A.cond t125 (@hid _ ⟨A.join (@hid _ ⟨fun l126 h127 => A.unB l126 (@hid _ ⟨fun t128 l129 => A.un0 l129 (@hid _ ⟨K [(.b t128)] h127⟩)⟩)⟩) (@hid _ ⟨fun j130 => A.cmp .eql n119 7 (@hid _ ⟨fun t131 => A.cond t131 (@hid _ ⟨A.cmp .eql n117 0 (@hid _ ⟨fun t132 => A.cond t132 (@hid _ ⟨A.call 21 [] h122 (@hid _ ⟨fun l133 h134 => A.unB l133 (@hid _ ⟨fun t135 l136 => A.un0 l136 (@hid _ ⟨j130 [(.b t135)] h134⟩)⟩)⟩)⟩) (@hid _ ⟨j130 [(.b false)] h122⟩)⟩)⟩) (@hid _ ⟨j130 [(.b false)] h122⟩)⟩)⟩)⟩) (@hid _ ⟨A.join (@hid _ ⟨fun l137 h138 => A.unB l137 (@hid _ ⟨fun t139 l140 => A.un0 l140 (@hid _ ⟨K [(.b t139)] h138⟩)⟩)⟩) (@hid _ ⟨fun j141 => A.cmp .eql n119 0 (@hid _ ⟨fun t142 => A.cond t142 (@hid _ ⟨A.cmp .eql n117 n123 (@hid _ ⟨fun t143 => A.cond t143 (@hid _ ⟨A.call 21 [] h122 (@hid _ ⟨fun l144 h145 => A.unB l144 (@hid _ ⟨fun t146 l147 => A.un0 l147 (@hid _ ⟨j141 [(.b t146)] h145⟩)⟩)⟩)⟩) (@hid _ ⟨j141 [(.b false)] h122⟩)⟩)⟩) (@hid _ ⟨j141 [(.b false)] h122⟩)⟩)⟩)⟩)⟩)⟩)⟩)⟩)⟩)⟩)⟩)⟩)⟩)⟩)⟩)⟩)⟩) (@hid _ ⟨A.opt (lenS x32) (@hid _ ⟨fun x148 => A.cmp .geq n10 x148 (@hid _ ⟨fun t149 => A.join (@hid _ ⟨fun l150 h151 => A.un0 l150 (@hid _ ⟨A.call 36 [(.i n20), (.i n22), (.i n12), (.i n14), (.i n16)] h151 (@hid _ ⟨fun l152 h153 => A.unI l152 (@hid _ ⟨fun n154 l155 => A.unI l155 (@hid _ ⟨fun n156 l157 => A.un0 l157 (@hid _ ⟨A.call 38 [(.i n20), (.i n22), (.i n12), (.i n14), (.i n16)] h153 (@hid _ ⟨fun l158 h159 => A.unI l158 (@hid _ ⟨fun n160 l161 => A.un0 l161 (@hid _ ⟨A.cmp .lss n160 0 (@hid _ ⟨fun t162 => A.cond t162 (@hid _ ⟨A.join (@hid _ ⟨fun l163 h164 => A.unB l163 (@hid _ ⟨fun t165 l166 => A.un0 l166 (@hid _ ⟨K [(.b t165)] h164⟩)⟩)⟩) (@hid _ ⟨fun j167 => A.cmp .eql n156 7 (@hid _ ⟨fun t168 => A.cond t168 (@hid _ ⟨A.cmp .eql n154 0 (@hid _ ⟨fun t169 => A.cond t169 (@hid _ ⟨A.call 21 [] h159 (@hid _ ⟨fun l170 h171 => A.unB l170 (@hid _ ⟨fun t172 l173 => A.un0 l173 (@hid _ ⟨j167 [(.b t172)] h171⟩)⟩)⟩)⟩) (@hid _ ⟨j167 [(.b false)] h159⟩)⟩)⟩) (@hid _ ⟨j167 [(.b false)] h159⟩)⟩)⟩)⟩) (@hid _ ⟨A.join (@hid _ ⟨fun l174 h175 => A.unB l174 (@hid _ ⟨fun t176 l177 => A.un0 l177 (@hid _ ⟨K [(.b t176)] h175⟩)⟩)⟩) (@hid _ ⟨fun j178 => A.cmp .eql n156 0 (@hid _ ⟨fun t179 => A.cond t179 (@hid _ ⟨A.cmp .eql n154 n160 (@hid _ ⟨fun t180 => A.cond t180 (@hid _ ⟨A.call 21 [] h159 (@hid _ ⟨fun l181 h182 => A.unB l181 (@hid _ ⟨fun t183 l184 => A.un0 l184 (@hid _ ⟨j178 [(.b t183)] h182⟩)⟩)⟩)⟩) (@hid _ ⟨j178 [(.b false)] h159⟩)⟩)⟩) (@hid _ ⟨j178 [(.b false)] h159⟩)⟩)⟩)⟩)⟩)⟩)⟩)⟩)⟩)⟩)⟩)⟩)⟩)⟩) (@hid _ ⟨fun j185 => A.cond t149 (@hid _ ⟨A.cmp .neq n110 7 (@hid _ ⟨fun t186 => A.cond t186 (@hid _ ⟨K [(.b false)] h103⟩) (@hid _ ⟨A.eqs [((.i n104), (.i 0)), ((.i n106), (.i 0)), ((.i n108), (.i 0))] (@hid _ ⟨fun t187 => A.cond (!t187) (@hid _ ⟨K [(.b false)] h103⟩) (@hid _ ⟨j185 [] h103⟩)⟩)⟩)⟩)⟩) (@hid _ ⟨j185 [] h103⟩)⟩)⟩)⟩)⟩)⟩)⟩)⟩)⟩)⟩)⟩)⟩)⟩)⟩)⟩)⟩)⟩)⟩) [(.i 0)] h31⟩)⟩)⟩)⟩)⟩)⟩)⟩)⟩)⟩)⟩)⟩)⟩)⟩)⟩)⟩)⟩)⟩)⟩)⟩)⟩)⟩)⟩)⟩)⟩)⟩)⟩)⟩)⟩)
theorem g7 : (fun A : Alg Prop (HL) => p7 A) = fun A => f7 A := by kernel_rfl
theorem h7 (ls : List Lf) (H : HL) (K : List Lf → HL → Prop) : p7 P1 ls H K = execF P1 (xc 7) sgTab drN n7 ls H K :=
  congrFun (congrFun (congrFun ((congrFun g7 P1).trans (congrFun (congrFun (congrFun e7 Prop) (HL)) P1)) ls) H) K
theorem u7 {ls : List Lf} {H : HL} {K : List Lf → HL → Prop} (hls : goodLs ls = true) (h : p7 P1 ls H K) : ∃ rs H', CallL cc sgTab 7 ls (absH siteTab H) rs (absH siteTab H') ∧ K rs H' :=
  fn_ok i7 hls (h7 ls H K ▸ h)
theorem q7 {ls rs : List Lf} (hls : goodLs ls = true) (h : p7 P1 ls [] fun rs' _ => rs' = rs) : Cc 7 ls rs := by
  obtain ⟨_, _, h1, rfl⟩ := u7 hls h
  exact ct_of mixed gl_flat (sg := ⟨[.agg [.i .u8, .i .u8], li, .agg [.i .i64, .i .i64, .i .u8]], [lb]⟩) rfl (by kernel_rfl) h1
/-- (crimp/crimplaw05.W).Of -/
def p17 (A : Alg Prop (HL)) (ls : List Lf) (h : HL) (K : List Lf → HL → Prop) : Prop := A.unI ls (@hid _ ⟨fun n6 l7 => A.unI l7 (@hid _ ⟨fun n8 l9 => A.un0 l9 (@hid _ ⟨A.ari .rem .u8 n6 5 (@hid _ ⟨fun n10 => A.conv .i64 n10 (@hid _ ⟨fun n11 => A.ari .add .i64 1 n11 (@hid _ ⟨fun n12 => A.ari .rem .u8 n8 5 (@hid _ ⟨fun n13 => A.conv .i64 n13 (@hid _ ⟨fun n14 => A.ari .add .i64 1 n14 (@hid _ ⟨fun n15 => K [(.i n12), (.i n15)] h⟩)⟩)⟩)⟩)⟩)⟩)⟩)⟩)⟩)
theorem g17 : (fun A : Alg Prop (HL) => p17 A) = fun A => f17 A := by kernel_rfl
theorem h17 (ls : List Lf) (H : HL) (K : List Lf → HL → Prop) : p17 P1 ls H K = execF P1 (xc 17) sgTab drN n17 ls H K :=
  congrFun (congrFun (congrFun ((congrFun g17 P1).trans (congrFun (congrFun (congrFun e17 Prop) (HL)) P1)) ls) H) K
theorem u17 {ls : List Lf} {H : HL} {K : List Lf → HL → Prop} (hls : goodLs ls = true) (h : p17 P1 ls H K) : ∃ rs H', CallL cc sgTab 17 ls (absH siteTab H) rs (absH siteTab H') ∧ K rs H' :=
  fn_ok i17 hls (h17 ls H K ▸ h)
theorem q17 {ls rs : List Lf} (hls : goodLs ls = true) (h : p17 P1 ls [] fun rs' _ => rs' = rs) : Cc 17 ls rs := by
  obtain ⟨_, _, h1, rfl⟩ := u17 hls h
  exact ct_of mixed gl_flat (sg := ⟨[.agg [.i .u8, .i .u8]], [.agg [.i .i64, .i .i64]]⟩) rfl (by kernel_rfl) h1
/-- crimp/sheets.Check -/
def p33 (A : Alg Prop (HL)) (ls : List Lf) (h : HL) (K : List Lf → HL → Prop) : Prop := A.unI ls (@hid _ ⟨fun n6 l7 => A.unI l7 (@hid _ ⟨fun n8 l9 => A.un0 l9 (@hid _ ⟨A.cmp .lss n6 1 (@hid _ ⟨fun t10 => A.cond t10 (@hid _ ⟨K [(.i 1)] h⟩) (@hid _ ⟨A.cmp .lss n8 1 (@hid _ ⟨fun t11 => A.cond t11 (@hid _ ⟨K [(.i 1)] h⟩) (@hid _ ⟨A.cmp .gtr n6 256 (@hid _ ⟨fun t12 => A.cond t12 (@hid _ ⟨K [(.i 1)] h⟩) (@hid _ ⟨A.cmp .gtr n8 256 (@hid _ ⟨fun t13 => A.cond t13 (@hid _ ⟨K [(.i 1)] h⟩) (@hid _ ⟨A.ari .mul .i64 n6 n8 (@hid _ ⟨fun n14 => A.cmp .gtr n14 256 (@hid _ ⟨fun t15 => A.cond t15 (@hid _ ⟨K [(.i 1)] h⟩) (@hid _ ⟨K [(.i 0)] h⟩)⟩)⟩)⟩)⟩)⟩)⟩)⟩)⟩)⟩)⟩)⟩)⟩)⟩)
theorem g33 : (fun A : Alg Prop (HL) => p33 A) = fun A => f33 A := by kernel_rfl
theorem h33 (ls : List Lf) (H : HL) (K : List Lf → HL → Prop) : p33 P1 ls H K = execF P1 (xc 33) sgTab drN n33 ls H K :=
  congrFun (congrFun (congrFun ((congrFun g33 P1).trans (congrFun (congrFun (congrFun e33 Prop) (HL)) P1)) ls) H) K
theorem u33 {ls : List Lf} {H : HL} {K : List Lf → HL → Prop} (hls : goodLs ls = true) (h : p33 P1 ls H K) : ∃ rs H', CallL cc sgTab 33 ls (absH siteTab H) rs (absH siteTab H') ∧ K rs H' :=
  fn_ok i33 hls (h33 ls H K ▸ h)
theorem q33 {ls rs : List Lf} (hls : goodLs ls = true) (h : p33 P1 ls [] fun rs' _ => rs' = rs) : Cc 33 ls rs := by
  obtain ⟨_, _, h1, rfl⟩ := u33 hls h
  exact ct_of mixed gl_flat (sg := ⟨[.agg [.i .i64, .i .i64]], [li]⟩) rfl (by kernel_rfl) h1
/-- crimp/sheets.Cell -/
def p35 (A : Alg Prop (HL)) (ls : List Lf) (h : HL) (K : List Lf → HL → Prop) : Prop := A.unI ls (@hid _ ⟨fun n6 l7 => A.unI l7 (@hid _ ⟨fun n8 l9 => A.unI l9 (@hid _ ⟨fun n10 l11 => A.un0 l11 (@hid _ ⟨A.call 33 [(.i n6), (.i n8)] h (@hid _ ⟨fun l12 h13 => A.unI l12 (@hid _ ⟨fun n14 l15 => A.un0 l15 (@hid _ ⟨A.cmp .neq n14 0 (@hid _ ⟨fun t16 => A.cond t16 (@hid _ ⟨K [(.i 0), (.i 0), (.i 0), (.i n14)] h13⟩) (@hid _ ⟨A.call 72 [(.i n6), (.i n8), (.i n10)] h13 (@hid _ ⟨fun l17 h18 => A.unB l17 (@hid _ ⟨fun t19 l20 => A.un0 l20 (@hid _ ⟨A.cond (!t19) (@hid _ ⟨K [(.i 0), (.i 0), (.i 0), (.i 7)] h18⟩) (@hid _ ⟨A.call 73 [(.i n6), (.i n8), (.i n10)] h18 (@hid _ ⟨fun l21 h22 => A.unI l21 (@hid _ ⟨fun n23 l24 => A.unI l24 (@hid _ ⟨fun n25 l26 => A.unI l26 (@hid _ ⟨fun n27 l28 => A.un0 l28 (@hid _ ⟨K [(.i n23), (.i n25), (.i n27), (.i 0)] h22⟩)⟩)⟩)⟩)⟩)⟩)⟩)⟩)⟩)⟩)⟩)⟩)⟩)⟩)⟩)⟩)⟩)⟩)
theorem g35 : (fun A : Alg Prop (HL) => p35 A) = fun A => f35 A := by kernel_rfl
theorem h35 (ls : List Lf) (H : HL) (K : List Lf → HL → Prop) : p35 P1 ls H K = execF P1 (xc 35) sgTab drN n35 ls H K :=
  congrFun (congrFun (congrFun ((congrFun g35 P1).trans (congrFun (congrFun (congrFun e35 Prop) (HL)) P1)) ls) H) K
theorem u35 {ls : List Lf} {H : HL} {K : List Lf → HL → Prop} (hls : goodLs ls = true) (h : p35 P1 ls H K) : ∃ rs H', CallL cc sgTab 35 ls (absH siteTab H) rs (absH siteTab H') ∧ K rs H' :=
  fn_ok i35 hls (h35 ls H K ▸ h)
theorem q35 {ls rs : List Lf} (hls : goodLs ls = true) (h : p35 P1 ls [] fun rs' _ => rs' = rs) : Cc 35 ls rs := by
  obtain ⟨_, _, h1, rfl⟩ := u35 hls h
  exact ct_of mixed gl_flat (sg := ⟨[.agg [.i .i64, .i .i64], li], [.agg [.i .i64, .i .i64, .i .u8], li]⟩) rfl (by kernel_rfl) h1
/-- crimp/sheets.Id -/
def p36 (A : Alg Prop (HL)) (ls : List Lf) (h : HL) (K : List Lf → HL → Prop) : Prop := A.unI ls (@hid _ ⟨fun n6 l7 => A.unI l7 (@hid _ ⟨fun n8 l9 => A.unI l9 (@hid _ ⟨fun n10 l11 => A.unI l11 (@hid _ ⟨fun n12 l13 => A.unI l13 (@hid _ ⟨fun n14 l15 => A.un0 l15 (@hid _ ⟨A.call 33 [(.i n6), (.i n8)] h (@hid _ ⟨fun l16 h17 => A.unI l16 (@hid _ ⟨fun n18 l19 => A.un0 l19 (@hid _ ⟨A.cmp .neq n18 0 (@hid _ ⟨fun t20 => A.cond t20 (@hid _ ⟨K [(.i 0), (.i n18)] h17⟩) (@hid _ ⟨A.call 43 [(.i n10), (.i n12), (.i n14)] h17 (@hid _ ⟨fun l21 h22 => A.unI l21 (@hid _ ⟨fun n23 l24 => A.un0 l24 (@hid _ ⟨A.cmp .neq n23 0 (@hid _ ⟨fun t25 => A.cond t25 (@hid _ ⟨K [(.i 0), (.i 7)] h22⟩) (@hid _ ⟨A.cmp .lss n10 0 (@hid _ ⟨fun t26 => A.cond t26 (@hid _ ⟨K [(.i 0), (.i 7)] h22⟩) (@hid _ ⟨A.cmp .geq n10 n6 (@hid _ ⟨fun t27 => A.cond t27 (@hid _ ⟨K [(.i 0), (.i 7)] h22⟩) (@hid _ ⟨A.cmp .lss n12 0 (@hid _ ⟨fun t28 => A.cond t28 (@hid _ ⟨K [(.i 0), (.i 7)] h22⟩) (@hid _ ⟨A.cmp .geq n12 n8 (@hid _ ⟨fun t29 => A.cond t29 (@hid _ ⟨K [(.i 0), (.i 7)] h22⟩) (@hid _ ⟨A.ari .mul .i64 n12 n6 (@hid _ ⟨fun n30 => A.ari .add .i64 n30 n10 (@hid _ ⟨fun n31 => A.ari .mul .i64 4 n31 (@hid _ ⟨fun n32 => A.conv .i64 n14 (@hid _ ⟨fun n33 => A.ari .add .i64 n32 n33 (@hid _ ⟨fun n34 => K [(.i n34), (.i 0)] h22⟩)⟩)⟩)⟩)⟩)⟩)⟩)⟩)⟩)⟩)⟩)⟩)⟩)⟩)⟩)⟩)⟩)⟩)⟩)⟩)⟩)⟩)⟩)⟩)⟩)⟩)⟩)⟩)⟩)
theorem g36 : (fun A : Alg Prop (HL) => p36 A) = fun A => f36 A := by kernel_rfl
theorem h36 (ls : List Lf) (H : HL) (K : List Lf → HL → Prop) : p36 P1 ls H K = execF P1 (xc 36) sgTab drN n36 ls H K :=
  congrFun (congrFun (congrFun ((congrFun g36 P1).trans (congrFun (congrFun (congrFun e36 Prop) (HL)) P1)) ls) H) K
theorem u36 {ls : List Lf} {H : HL} {K : List Lf → HL → Prop} (hls : goodLs ls = true) (h : p36 P1 ls H K) : ∃ rs H', CallL cc sgTab 36 ls (absH siteTab H) rs (absH siteTab H') ∧ K rs H' :=
  fn_ok i36 hls (h36 ls H K ▸ h)
theorem q36 {ls rs : List Lf} (hls : goodLs ls = true) (h : p36 P1 ls [] fun rs' _ => rs' = rs) : Cc 36 ls rs := by
  obtain ⟨_, _, h1, rfl⟩ := u36 hls h
  exact ct_of mixed gl_flat (sg := ⟨[.agg [.i .i64, .i .i64], .agg [.i .i64, .i .i64, .i .u8]], [li, li]⟩) rfl (by kernel_rfl) h1
/-- crimp/crimpref05.Id -/
def p38 (A : Alg Prop (HL)) (ls : List Lf) (h : HL) (K : List Lf → HL → Prop) : Prop := A.unI ls (@hid _ ⟨fun n6 l7 => A.unI l7 (@hid _ ⟨fun n8 l9 => A.unI l9 (@hid _ ⟨fun n10 l11 => A.unI l11 (@hid _ ⟨fun n12 l13 => A.unI l13 (@hid _ ⟨fun n14 l15 => A.un0 l15 (@hid _ ⟨A.cmp .lss n10 0 (@hid _ ⟨fun t16 => A.cond t16 (@hid _ ⟨K [(.i (-1))] h⟩) (@hid _ ⟨A.cmp .lss n12 0 (@hid _ ⟨fun t17 => A.cond t17 (@hid _ ⟨K [(.i (-1))] h⟩) (@hid _ ⟨A.cmp .geq n10 n6 (@hid _ ⟨fun t18 => A.cond t18 (@hid _ ⟨K [(.i (-1))] h⟩) (@hid _ ⟨A.cmp .geq n12 n8 (@hid _ ⟨fun t19 => A.cond t19 (@hid _ ⟨K [(.i (-1))] h⟩) (@hid _ ⟨A.cmp .gtr n14 3 (@hid _ ⟨fun t20 => A.cond t20 (@hid _ ⟨K [(.i (-1))] h⟩) (@hid _ ⟨A.ari .mul .i64 4 n6 (@hid _ ⟨fun n21 => A.ari .mul .i64 n21 n12 (@hid _ ⟨fun n22 => A.ari .mul .i64 4 n10 (@hid _ ⟨fun n23 => A.ari .add .i64 n22 n23 (@hid _ ⟨fun n24 => A.conv .i64 n14 (@hid _ ⟨fun n25 => A.ari .add .i64 n24 n25 (@hid _ ⟨fun n26 => K [(.i n26)] h⟩)⟩)⟩)⟩)⟩)⟩)⟩)⟩)⟩)⟩)⟩)⟩)⟩)⟩)⟩)⟩)⟩)⟩)⟩)⟩)⟩)⟩)
theorem g38 : (fun A : Alg Prop (HL) => p38 A) = fun A => f38 A := by kernel_rfl
theorem h38 (ls : List Lf) (H : HL) (K : List Lf → HL → Prop) : p38 P1 ls H K = execF P1 (xc 38) sgTab drN n38 ls H K :=
  congrFun (congrFun (congrFun ((congrFun g38 P1).trans (congrFun (congrFun (congrFun e38 Prop) (HL)) P1)) ls) H) K
theorem u38 {ls : List Lf} {H : HL} {K : List Lf → HL → Prop} (hls : goodLs ls = true) (h : p38 P1 ls H K) : ∃ rs H', CallL cc sgTab 38 ls (absH siteTab H) rs (absH siteTab H') ∧ K rs H' :=
  fn_ok i38 hls (h38 ls H K ▸ h)
theorem q38 {ls rs : List Lf} (hls : goodLs ls = true) (h : p38 P1 ls [] fun rs' _ => rs' = rs) : Cc 38 ls rs := by
  obtain ⟨_, _, h1, rfl⟩ := u38 hls h
  exact ct_of mixed gl_flat (sg := ⟨[.agg [.i .i64, .i .i64], .agg [.i .i64, .i .i64, .i .u8]], [li]⟩) rfl (by kernel_rfl) h1
/-- crimp/cells.Check -/
def p43 (A : Alg Prop (HL)) (ls : List Lf) (h : HL) (K : List Lf → HL → Prop) : Prop := A.unI ls (@hid _ ⟨fun n6 l7 => A.unI l7 (@hid _ ⟨fun n8 l9 => A.unI l9 (@hid _ ⟨fun n10 l11 => A.un0 l11 (@hid _ ⟨A.cmp .lss n6 (-4096) (@hid _ ⟨fun t12 => A.cond t12 (@hid _ ⟨K [(.i 1)] h⟩) (@hid _ ⟨A.cmp .gtr n6 4096 (@hid _ ⟨fun t13 => A.cond t13 (@hid _ ⟨K [(.i 1)] h⟩) (@hid _ ⟨A.cmp .lss n8 (-4096) (@hid _ ⟨fun t14 => A.cond t14 (@hid _ ⟨K [(.i 1)] h⟩) (@hid _ ⟨A.cmp .gtr n8 4096 (@hid _ ⟨fun t15 => A.cond t15 (@hid _ ⟨K [(.i 1)] h⟩) (@hid _ ⟨A.cmp .gtr n10 3 (@hid _ ⟨fun t16 => A.cond t16 (@hid _ ⟨K [(.i 1)] h⟩) (@hid _ ⟨K [(.i 0)] h⟩)⟩)⟩)⟩)⟩)⟩)⟩)⟩)⟩)⟩)⟩)⟩)⟩)⟩)
theorem g43 : (fun A : Alg Prop (HL) => p43 A) = fun A => f43 A := by kernel_rfl
theorem h43 (ls : List Lf) (H : HL) (K : List Lf → HL → Prop) : p43 P1 ls H K = execF P1 (xc 43) sgTab drN n43 ls H K :=
  congrFun (congrFun (congrFun ((congrFun g43 P1).trans (congrFun (congrFun (congrFun e43 Prop) (HL)) P1)) ls) H) K
theorem u43 {ls : List Lf} {H : HL} {K : List Lf → HL → Prop} (hls : goodLs ls = true) (h : p43 P1 ls H K) : ∃ rs H', CallL cc sgTab 43 ls (absH siteTab H) rs (absH siteTab H') ∧ K rs H' :=
  fn_ok i43 hls (h43 ls H K ▸ h)
theorem q43 {ls rs : List Lf} (hls : goodLs ls = true) (h : p43 P1 ls [] fun rs' _ => rs' = rs) : Cc 43 ls rs := by
  obtain ⟨_, _, h1, rfl⟩ := u43 hls h
  exact ct_of mixed gl_flat (sg := ⟨[.agg [.i .i64, .i .i64, .i .u8]], [li]⟩) rfl (by kernel_rfl) h1
/-- (crimp/sheets.Sheet).has -/
def p72 (A : Alg Prop (HL)) (ls : List Lf) (h : HL) (K : List Lf → HL → Prop) : Prop := A.unI ls (@hid _ ⟨fun n6 l7 => A.unI l7 (@hid _ ⟨fun n8 l9 => A.unI l9 (@hid _ ⟨fun n10 l11 => A.un0 l11 (@hid _ ⟨A.join (@hid _ ⟨fun l12 h13 => A.unB l12 (@hid _ ⟨fun t14 l15 => A.un0 l15 (@hid _ ⟨K [(.b t14)] h13⟩)⟩)⟩) (@hid _ ⟨fun j16 => A.cmp .geq n10 0 (@hid _ ⟨fun t17 => A.cond t17 (@hid _ ⟨A.ari .mul .i64 4 n6 (@hid _ ⟨fun n18 => A.ari .mul .i64 n18 n8 (@hid _ ⟨fun n19 => A.cmp .lss n10 n19 (@hid _ ⟨fun t20 => j16 [(.b t20)] h⟩)⟩)⟩)⟩) (@hid _ ⟨j16 [(.b false)] h⟩)⟩)⟩)⟩)⟩)⟩)⟩)
theorem g72 : (fun A : Alg Prop (HL) => p72 A) = fun A => f72 A := by kernel_rfl
theorem h72 (ls : List Lf) (H : HL) (K : List Lf → HL → Prop) : p72 P1 ls H K = execF P1 (xc 72) sgTab drN n72 ls H K :=
  congrFun (congrFun (congrFun ((congrFun g72 P1).trans (congrFun (congrFun (congrFun e72 Prop) (HL)) P1)) ls) H) K
theorem u72 {ls : List Lf} {H : HL} {K : List Lf → HL → Prop} (hls : goodLs ls = true) (h : p72 P1 ls H K) : ∃ rs H', CallL cc sgTab 72 ls (absH siteTab H) rs (absH siteTab H') ∧ K rs H' :=
  fn_ok i72 hls (h72 ls H K ▸ h)
theorem q72 {ls rs : List Lf} (hls : goodLs ls = true) (h : p72 P1 ls [] fun rs' _ => rs' = rs) : Cc 72 ls rs := by
  obtain ⟨_, _, h1, rfl⟩ := u72 hls h
  exact ct_of mixed gl_flat (sg := ⟨[.agg [.i .i64, .i .i64], li], [lb]⟩) rfl (by kernel_rfl) h1
/-- (crimp/sheets.Sheet).cell -/
def p73 (A : Alg Prop (HL)) (ls : List Lf) (h : HL) (K : List Lf → HL → Prop) : Prop := A.unI ls (@hid _ ⟨fun n6 l7 => A.unI l7 (@hid _ ⟨fun n8 l9 => A.unI l9 (@hid _ ⟨fun n10 l11 => A.un0 l11 (@hid _ ⟨A.ari .quo .i64 n10 4 (@hid _ ⟨fun n12 => A.ari .rem .i64 n12 n6 (@hid _ ⟨fun n13 => A.ari .quo .i64 n10 4 (@hid _ ⟨fun n14 => A.ari .quo .i64 n14 n6 (@hid _ ⟨fun n15 => A.ari .rem .i64 n10 4 (@hid _ ⟨fun n16 => A.conv .u8 n16 (@hid _ ⟨fun n17 => K [(.i n13), (.i n15), (.i n17)] h⟩)⟩)⟩)⟩)⟩)⟩)⟩)⟩)⟩)⟩)
theorem g73 : (fun A : Alg Prop (HL) => p73 A) = fun A => f73 A := by kernel_rfl
theorem h73 (ls : List Lf) (H : HL) (K : List Lf → HL → Prop) : p73 P1 ls H K = execF P1 (xc 73) sgTab drN n73 ls H K :=
  congrFun (congrFun (congrFun ((congrFun g73 P1).trans (congrFun (congrFun (congrFun e73 Prop) (HL)) P1)) ls) H) K
theorem u73 {ls : List Lf} {H : HL} {K : List Lf → HL → Prop} (hls : goodLs ls = true) (h : p73 P1 ls H K) : ∃ rs H', CallL cc sgTab 73 ls (absH siteTab H) rs (absH siteTab H') ∧ K rs H' :=
  fn_ok i73 hls (h73 ls H K ▸ h)
theorem q73 {ls rs : List Lf} (hls : goodLs ls = true) (h : p73 P1 ls [] fun rs' _ => rs' = rs) : Cc 73 ls rs := by
  obtain ⟨_, _, h1, rfl⟩ := u73 hls h
  exact ct_of mixed gl_flat (sg := ⟨[.agg [.i .i64, .i .i64], li], [.agg [.i .i64, .i .i64, .i .u8]]⟩) rfl (by kernel_rfl) h1
end Go.Am

/-
  CONTRACTS, BY PROGRAM: checks, far, mirror images, corners.
-/
set_option maxRecDepth 100000
namespace Go.Am
open Sx Go.Proofs


theorem cellCheck_ok {x y q : Int} (h : ¬ (x < -4096) ∧ ¬ (4096 < x) ∧ ¬ (y < -4096) ∧ ¬ (4096 < y) ∧ ¬ (3 < q)) : Cc 43 [.i x, .i y, .i q] [.i 0] := by
  refine q43 rfl ?_; unfold p43
  simp (disch := omega) only [↓qxs, ↓qxc, ↓qxa]
theorem cellCheck_no {x y q : Int} (h : ¬ (¬ (x < -4096) ∧ ¬ (4096 < x) ∧ ¬ (y < -4096) ∧ ¬ (4096 < y) ∧ ¬ (3 < q))) : Cc 43 [.i x, .i y, .i q] [.i 1] := by
  refine q43 rfl ?_; unfold p43
  by_cases h0 : x < -4096
  · simp (disch := omega) only [↓qxs, ↓qxc, ↓qxa]
  by_cases h1 : 4096 < x
  · simp (disch := omega) only [↓qxs, ↓qxc, ↓qxa]
  by_cases h2 : y < -4096
  · simp (disch := omega) only [↓qxs, ↓qxc, ↓qxa]
  by_cases h3 : 4096 < y
  · simp (disch := omega) only [↓qxs, ↓qxc, ↓qxa]
  simp (disch := omega) only [↓qxs, ↓qxc, ↓qxa]
end Go.Am
/-
  RULES ON TRUTH VALUES.
-/
namespace Go.Am
open Sx Go.Proofs
theorem b_tt {l : List (Lf × Lf)} {K : Bool → Prop} : P1.eqs ((.b true, .b true) :: l) (@hid _ ⟨K⟩) = P1.eqs l (@hid _ ⟨K⟩) := rfl
theorem b_ff {l : List (Lf × Lf)} {K : Bool → Prop} : P1.eqs ((.b false, .b false) :: l) (@hid _ ⟨K⟩) = P1.eqs l (@hid _ ⟨K⟩) := rfl
theorem b_nt {X Y : Prop} : P1.cond (!true) X (@hid _ ⟨Y⟩) = Y := b_cond_f
theorem b_nf {X Y : Prop} : P1.cond (!false) (@hid _ ⟨X⟩) Y = X := b_cond_t
/-- These, in one. -/
def qxb := And.intro @b_tt (And.intro @b_ff (And.intro @b_nt @b_nf))
end Go.Am

/-
  CONTRACTS, BY PROGRAM: sheets.
-/
set_option maxRecDepth 100000
set_option maxHeartbeats 4000000
namespace Go.Am
open Sx Go.Proofs

theorem ofW {a b w v : Int} (h : 0 ≤ a ∧ a ≤ 255 ∧ 0 ≤ b ∧ b ≤ 255 ∧ w = 1 + a % 5 ∧ v = 1 + b % 5) : Cc 17 [.i a, .i b] [.i w, .i v] := by
  refine q17 rfl ?_; unfold p17
  repeat (first | simp (disch := omega) only [↓qxs, ↓qxc, ↓qxa])
  (try simp only [List.cons.injEq, Lf.i.injEq, and_true, true_and]); (try omega)
theorem shCheck_ok {w v : Int} (h : 1 ≤ w ∧ w ≤ 5 ∧ 1 ≤ v ∧ v ≤ 5) : Cc 33 [.i w, .i v] [.i 0] := by
  refine q33 rfl ?_; unfold p33
  obtain rfl | rfl | rfl | rfl | rfl : w = 1 ∨ w = 2 ∨ w = 3 ∨ w = 4 ∨ w = 5 := by omega
  all_goals (obtain rfl | rfl | rfl | rfl | rfl : v = 1 ∨ v = 2 ∨ v = 3 ∨ v = 4 ∨ v = 5 := by omega)
  all_goals (repeat (first | simp (disch := omega) only [↓qxs, ↓qxc, ↓qxa, ↓qxb]); (try simp only [List.cons.injEq, Lf.i.injEq, and_true, true_and]); (try omega))
theorem has_t {w v i : Int} (h : (1 ≤ w ∧ w ≤ 5 ∧ 1 ≤ v ∧ v ≤ 5) ∧ 0 ≤ i ∧ i < 4 * w * v) : Cc 72 [.i w, .i v, .i i] [.b true] := by
  refine q72 rfl ?_; unfold p72
  obtain rfl | rfl | rfl | rfl | rfl : w = 1 ∨ w = 2 ∨ w = 3 ∨ w = 4 ∨ w = 5 := by omega
  all_goals (obtain rfl | rfl | rfl | rfl | rfl : v = 1 ∨ v = 2 ∨ v = 3 ∨ v = 4 ∨ v = 5 := by omega)
  all_goals (repeat (first | simp (disch := omega) only [↓qxs, ↓qxc, ↓qxa, ↓qxb]); (try simp only [List.cons.injEq, Lf.i.injEq, and_true, true_and]); (try omega))
theorem has_f {w v i : Int} (h : (1 ≤ w ∧ w ≤ 5 ∧ 1 ≤ v ∧ v ≤ 5) ∧ ¬ (0 ≤ i ∧ i < 4 * w * v)) : Cc 72 [.i w, .i v, .i i] [.b false] := by
  refine q72 rfl ?_; unfold p72
  obtain rfl | rfl | rfl | rfl | rfl : w = 1 ∨ w = 2 ∨ w = 3 ∨ w = 4 ∨ w = 5 := by omega
  all_goals (obtain rfl | rfl | rfl | rfl | rfl : v = 1 ∨ v = 2 ∨ v = 3 ∨ v = 4 ∨ v = 5 := by omega)
  all_goals (by_cases hn : 0 ≤ i)
  all_goals (repeat (first | simp (disch := omega) only [↓qxs, ↓qxc, ↓qxa, ↓qxb]); (try simp only [List.cons.injEq, Lf.i.injEq, and_true, true_and]); (try omega))
theorem shCell0 {w v i : Int} (h : (1 ≤ w ∧ w ≤ 5 ∧ 1 ≤ v ∧ v ≤ 5) ∧ 0 ≤ i ∧ i < 4 * w * v) : Cc 73 [.i w, .i v, .i i] [.i (i / 4 % w), .i (i / 4 / w), .i (i % 4)] := by
  refine q73 rfl ?_; unfold p73
  obtain rfl | rfl | rfl | rfl | rfl : w = 1 ∨ w = 2 ∨ w = 3 ∨ w = 4 ∨ w = 5 := by omega
  all_goals (obtain rfl | rfl | rfl | rfl | rfl : v = 1 ∨ v = 2 ∨ v = 3 ∨ v = 4 ∨ v = 5 := by omega)
  all_goals (repeat (first | simp (disch := omega) only [↓qxs, ↓qxc, ↓qxa, ↓qxb]); (try simp only [List.cons.injEq, Lf.i.injEq, and_true, true_and]); (try omega))
theorem shCell_ok {w v i : Int} (h : (1 ≤ w ∧ w ≤ 5 ∧ 1 ≤ v ∧ v ≤ 5) ∧ 0 ≤ i ∧ i < 4 * w * v) : Cc 35 [.i w, .i v, .i i] [.i (i / 4 % w), .i (i / 4 / w), .i (i % 4), .i 0] := by
  refine q35 rfl ?_; unfold p35
  obtain rfl | rfl | rfl | rfl | rfl : w = 1 ∨ w = 2 ∨ w = 3 ∨ w = 4 ∨ w = 5 := by omega
  all_goals (obtain rfl | rfl | rfl | rfl | rfl : v = 1 ∨ v = 2 ∨ v = 3 ∨ v = 4 ∨ v = 5 := by omega)
  all_goals (repeat (first | simp (disch := omega) only [↓qxs, ↓qxc, ↓qxa, ↓qxb] | refine p_call (shCheck_ok (by omega)) ?_ | refine p_call (has_t (by omega)) ?_ | refine p_call (shCell0 (by omega)) ?_); (try simp only [List.cons.injEq, Lf.i.injEq, and_true, true_and]); (try omega))
theorem shCell_no {w v i : Int} (h : (1 ≤ w ∧ w ≤ 5 ∧ 1 ≤ v ∧ v ≤ 5) ∧ ¬ (0 ≤ i ∧ i < 4 * w * v)) : Cc 35 [.i w, .i v, .i i] [.i 0, .i 0, .i 0, .i 7] := by
  refine q35 rfl ?_; unfold p35
  obtain rfl | rfl | rfl | rfl | rfl : w = 1 ∨ w = 2 ∨ w = 3 ∨ w = 4 ∨ w = 5 := by omega
  all_goals (obtain rfl | rfl | rfl | rfl | rfl : v = 1 ∨ v = 2 ∨ v = 3 ∨ v = 4 ∨ v = 5 := by omega)
  all_goals (repeat (first | simp (disch := omega) only [↓qxs, ↓qxc, ↓qxa, ↓qxb] | refine p_call (shCheck_ok (by omega)) ?_ | refine p_call (has_f (by omega)) ?_); (try simp only [List.cons.injEq, Lf.i.injEq, and_true, true_and]); (try omega))
end Go.Am
/-
  CONTRACTS, BY PROGRAM: neighbours within a sheet.
-/
set_option maxRecDepth 100000
set_option maxHeartbeats 4000000
namespace Go.Am
open Sx Go.Proofs

theorem shId10 {v x y : Int} (h : (1 ≤ v ∧ v ≤ 5) ∧ 0 ≤ x ∧ x < 1 ∧ 0 ≤ y ∧ y < v) : Cc 36 [.i 1, .i v, .i x, .i y, .i 0] [.i (4 * (y * 1 + x) + 0), .i 0] := by
  refine q36 rfl ?_; unfold p36
  repeat (first | simp (disch := omega) only [↓qxs, ↓qxc, ↓qxa, ↓qxb] | refine p_call (shCheck_ok (by omega)) ?_ | refine p_call (cellCheck_ok (by omega)) ?_)
  (try simp only [List.cons.injEq, Lf.i.injEq, and_true, true_and]); (try omega)
theorem rId10 {v x y : Int} (h : (1 ≤ v ∧ v ≤ 5) ∧ 0 ≤ x ∧ x < 1 ∧ 0 ≤ y ∧ y < v) : Cc 38 [.i 1, .i v, .i x, .i y, .i 0] [.i (4 * (y * 1 + x) + 0)] := by
  refine q38 rfl ?_; unfold p38
  repeat (first | simp (disch := omega) only [↓qxs, ↓qxc, ↓qxa, ↓qxb])
  (try simp only [List.cons.injEq, Lf.i.injEq, and_true, true_and]); (try omega)
theorem shId11 {v x y : Int} (h : (1 ≤ v ∧ v ≤ 5) ∧ 0 ≤ x ∧ x < 1 ∧ 0 ≤ y ∧ y < v) : Cc 36 [.i 1, .i v, .i x, .i y, .i 1] [.i (4 * (y * 1 + x) + 1), .i 0] := by
  refine q36 rfl ?_; unfold p36
  repeat (first | simp (disch := omega) only [↓qxs, ↓qxc, ↓qxa, ↓qxb] | refine p_call (shCheck_ok (by omega)) ?_ | refine p_call (cellCheck_ok (by omega)) ?_)
  (try simp only [List.cons.injEq, Lf.i.injEq, and_true, true_and]); (try omega)
theorem rId11 {v x y : Int} (h : (1 ≤ v ∧ v ≤ 5) ∧ 0 ≤ x ∧ x < 1 ∧ 0 ≤ y ∧ y < v) : Cc 38 [.i 1, .i v, .i x, .i y, .i 1] [.i (4 * (y * 1 + x) + 1)] := by
  refine q38 rfl ?_; unfold p38
  repeat (first | simp (disch := omega) only [↓qxs, ↓qxc, ↓qxa, ↓qxb])
  (try simp only [List.cons.injEq, Lf.i.injEq, and_true, true_and]); (try omega)
theorem shId12 {v x y : Int} (h : (1 ≤ v ∧ v ≤ 5) ∧ 0 ≤ x ∧ x < 1 ∧ 0 ≤ y ∧ y < v) : Cc 36 [.i 1, .i v, .i x, .i y, .i 2] [.i (4 * (y * 1 + x) + 2), .i 0] := by
  refine q36 rfl ?_; unfold p36
  repeat (first | simp (disch := omega) only [↓qxs, ↓qxc, ↓qxa, ↓qxb] | refine p_call (shCheck_ok (by omega)) ?_ | refine p_call (cellCheck_ok (by omega)) ?_)
  (try simp only [List.cons.injEq, Lf.i.injEq, and_true, true_and]); (try omega)
theorem rId12 {v x y : Int} (h : (1 ≤ v ∧ v ≤ 5) ∧ 0 ≤ x ∧ x < 1 ∧ 0 ≤ y ∧ y < v) : Cc 38 [.i 1, .i v, .i x, .i y, .i 2] [.i (4 * (y * 1 + x) + 2)] := by
  refine q38 rfl ?_; unfold p38
  repeat (first | simp (disch := omega) only [↓qxs, ↓qxc, ↓qxa, ↓qxb])
  (try simp only [List.cons.injEq, Lf.i.injEq, and_true, true_and]); (try omega)
theorem shId13 {v x y : Int} (h : (1 ≤ v ∧ v ≤ 5) ∧ 0 ≤ x ∧ x < 1 ∧ 0 ≤ y ∧ y < v) : Cc 36 [.i 1, .i v, .i x, .i y, .i 3] [.i (4 * (y * 1 + x) + 3), .i 0] := by
  refine q36 rfl ?_; unfold p36
  repeat (first | simp (disch := omega) only [↓qxs, ↓qxc, ↓qxa, ↓qxb] | refine p_call (shCheck_ok (by omega)) ?_ | refine p_call (cellCheck_ok (by omega)) ?_)
  (try simp only [List.cons.injEq, Lf.i.injEq, and_true, true_and]); (try omega)
theorem rId13 {v x y : Int} (h : (1 ≤ v ∧ v ≤ 5) ∧ 0 ≤ x ∧ x < 1 ∧ 0 ≤ y ∧ y < v) : Cc 38 [.i 1, .i v, .i x, .i y, .i 3] [.i (4 * (y * 1 + x) + 3)] := by
  refine q38 rfl ?_; unfold p38
  repeat (first | simp (disch := omega) only [↓qxs, ↓qxc, ↓qxa, ↓qxb])
  (try simp only [List.cons.injEq, Lf.i.injEq, and_true, true_and]); (try omega)
theorem shId20 {v x y : Int} (h : (1 ≤ v ∧ v ≤ 5) ∧ 0 ≤ x ∧ x < 2 ∧ 0 ≤ y ∧ y < v) : Cc 36 [.i 2, .i v, .i x, .i y, .i 0] [.i (4 * (y * 2 + x) + 0), .i 0] := by
  refine q36 rfl ?_; unfold p36
  repeat (first | simp (disch := omega) only [↓qxs, ↓qxc, ↓qxa, ↓qxb] | refine p_call (shCheck_ok (by omega)) ?_ | refine p_call (cellCheck_ok (by omega)) ?_)
  (try simp only [List.cons.injEq, Lf.i.injEq, and_true, true_and]); (try omega)
theorem rId20 {v x y : Int} (h : (1 ≤ v ∧ v ≤ 5) ∧ 0 ≤ x ∧ x < 2 ∧ 0 ≤ y ∧ y < v) : Cc 38 [.i 2, .i v, .i x, .i y, .i 0] [.i (4 * (y * 2 + x) + 0)] := by
  refine q38 rfl ?_; unfold p38
  repeat (first | simp (disch := omega) only [↓qxs, ↓qxc, ↓qxa, ↓qxb])
  (try simp only [List.cons.injEq, Lf.i.injEq, and_true, true_and]); (try omega)
theorem shId21 {v x y : Int} (h : (1 ≤ v ∧ v ≤ 5) ∧ 0 ≤ x ∧ x < 2 ∧ 0 ≤ y ∧ y < v) : Cc 36 [.i 2, .i v, .i x, .i y, .i 1] [.i (4 * (y * 2 + x) + 1), .i 0] := by
  refine q36 rfl ?_; unfold p36
  repeat (first | simp (disch := omega) only [↓qxs, ↓qxc, ↓qxa, ↓qxb] | refine p_call (shCheck_ok (by omega)) ?_ | refine p_call (cellCheck_ok (by omega)) ?_)
  (try simp only [List.cons.injEq, Lf.i.injEq, and_true, true_and]); (try omega)
theorem rId21 {v x y : Int} (h : (1 ≤ v ∧ v ≤ 5) ∧ 0 ≤ x ∧ x < 2 ∧ 0 ≤ y ∧ y < v) : Cc 38 [.i 2, .i v, .i x, .i y, .i 1] [.i (4 * (y * 2 + x) + 1)] := by
  refine q38 rfl ?_; unfold p38
  repeat (first | simp (disch := omega) only [↓qxs, ↓qxc, ↓qxa, ↓qxb])
  (try simp only [List.cons.injEq, Lf.i.injEq, and_true, true_and]); (try omega)
theorem shId22 {v x y : Int} (h : (1 ≤ v ∧ v ≤ 5) ∧ 0 ≤ x ∧ x < 2 ∧ 0 ≤ y ∧ y < v) : Cc 36 [.i 2, .i v, .i x, .i y, .i 2] [.i (4 * (y * 2 + x) + 2), .i 0] := by
  refine q36 rfl ?_; unfold p36
  repeat (first | simp (disch := omega) only [↓qxs, ↓qxc, ↓qxa, ↓qxb] | refine p_call (shCheck_ok (by omega)) ?_ | refine p_call (cellCheck_ok (by omega)) ?_)
  (try simp only [List.cons.injEq, Lf.i.injEq, and_true, true_and]); (try omega)
theorem rId22 {v x y : Int} (h : (1 ≤ v ∧ v ≤ 5) ∧ 0 ≤ x ∧ x < 2 ∧ 0 ≤ y ∧ y < v) : Cc 38 [.i 2, .i v, .i x, .i y, .i 2] [.i (4 * (y * 2 + x) + 2)] := by
  refine q38 rfl ?_; unfold p38
  repeat (first | simp (disch := omega) only [↓qxs, ↓qxc, ↓qxa, ↓qxb])
  (try simp only [List.cons.injEq, Lf.i.injEq, and_true, true_and]); (try omega)
theorem shId23 {v x y : Int} (h : (1 ≤ v ∧ v ≤ 5) ∧ 0 ≤ x ∧ x < 2 ∧ 0 ≤ y ∧ y < v) : Cc 36 [.i 2, .i v, .i x, .i y, .i 3] [.i (4 * (y * 2 + x) + 3), .i 0] := by
  refine q36 rfl ?_; unfold p36
  repeat (first | simp (disch := omega) only [↓qxs, ↓qxc, ↓qxa, ↓qxb] | refine p_call (shCheck_ok (by omega)) ?_ | refine p_call (cellCheck_ok (by omega)) ?_)
  (try simp only [List.cons.injEq, Lf.i.injEq, and_true, true_and]); (try omega)
theorem rId23 {v x y : Int} (h : (1 ≤ v ∧ v ≤ 5) ∧ 0 ≤ x ∧ x < 2 ∧ 0 ≤ y ∧ y < v) : Cc 38 [.i 2, .i v, .i x, .i y, .i 3] [.i (4 * (y * 2 + x) + 3)] := by
  refine q38 rfl ?_; unfold p38
  repeat (first | simp (disch := omega) only [↓qxs, ↓qxc, ↓qxa, ↓qxb])
  (try simp only [List.cons.injEq, Lf.i.injEq, and_true, true_and]); (try omega)
theorem shId30 {v x y : Int} (h : (1 ≤ v ∧ v ≤ 5) ∧ 0 ≤ x ∧ x < 3 ∧ 0 ≤ y ∧ y < v) : Cc 36 [.i 3, .i v, .i x, .i y, .i 0] [.i (4 * (y * 3 + x) + 0), .i 0] := by
  refine q36 rfl ?_; unfold p36
  repeat (first | simp (disch := omega) only [↓qxs, ↓qxc, ↓qxa, ↓qxb] | refine p_call (shCheck_ok (by omega)) ?_ | refine p_call (cellCheck_ok (by omega)) ?_)
  (try simp only [List.cons.injEq, Lf.i.injEq, and_true, true_and]); (try omega)
theorem rId30 {v x y : Int} (h : (1 ≤ v ∧ v ≤ 5) ∧ 0 ≤ x ∧ x < 3 ∧ 0 ≤ y ∧ y < v) : Cc 38 [.i 3, .i v, .i x, .i y, .i 0] [.i (4 * (y * 3 + x) + 0)] := by
  refine q38 rfl ?_; unfold p38
  repeat (first | simp (disch := omega) only [↓qxs, ↓qxc, ↓qxa, ↓qxb])
  (try simp only [List.cons.injEq, Lf.i.injEq, and_true, true_and]); (try omega)
theorem shId31 {v x y : Int} (h : (1 ≤ v ∧ v ≤ 5) ∧ 0 ≤ x ∧ x < 3 ∧ 0 ≤ y ∧ y < v) : Cc 36 [.i 3, .i v, .i x, .i y, .i 1] [.i (4 * (y * 3 + x) + 1), .i 0] := by
  refine q36 rfl ?_; unfold p36
  repeat (first | simp (disch := omega) only [↓qxs, ↓qxc, ↓qxa, ↓qxb] | refine p_call (shCheck_ok (by omega)) ?_ | refine p_call (cellCheck_ok (by omega)) ?_)
  (try simp only [List.cons.injEq, Lf.i.injEq, and_true, true_and]); (try omega)
theorem rId31 {v x y : Int} (h : (1 ≤ v ∧ v ≤ 5) ∧ 0 ≤ x ∧ x < 3 ∧ 0 ≤ y ∧ y < v) : Cc 38 [.i 3, .i v, .i x, .i y, .i 1] [.i (4 * (y * 3 + x) + 1)] := by
  refine q38 rfl ?_; unfold p38
  repeat (first | simp (disch := omega) only [↓qxs, ↓qxc, ↓qxa, ↓qxb])
  (try simp only [List.cons.injEq, Lf.i.injEq, and_true, true_and]); (try omega)
theorem shId32 {v x y : Int} (h : (1 ≤ v ∧ v ≤ 5) ∧ 0 ≤ x ∧ x < 3 ∧ 0 ≤ y ∧ y < v) : Cc 36 [.i 3, .i v, .i x, .i y, .i 2] [.i (4 * (y * 3 + x) + 2), .i 0] := by
  refine q36 rfl ?_; unfold p36
  repeat (first | simp (disch := omega) only [↓qxs, ↓qxc, ↓qxa, ↓qxb] | refine p_call (shCheck_ok (by omega)) ?_ | refine p_call (cellCheck_ok (by omega)) ?_)
  (try simp only [List.cons.injEq, Lf.i.injEq, and_true, true_and]); (try omega)
theorem rId32 {v x y : Int} (h : (1 ≤ v ∧ v ≤ 5) ∧ 0 ≤ x ∧ x < 3 ∧ 0 ≤ y ∧ y < v) : Cc 38 [.i 3, .i v, .i x, .i y, .i 2] [.i (4 * (y * 3 + x) + 2)] := by
  refine q38 rfl ?_; unfold p38
  repeat (first | simp (disch := omega) only [↓qxs, ↓qxc, ↓qxa, ↓qxb])
  (try simp only [List.cons.injEq, Lf.i.injEq, and_true, true_and]); (try omega)
theorem shId33 {v x y : Int} (h : (1 ≤ v ∧ v ≤ 5) ∧ 0 ≤ x ∧ x < 3 ∧ 0 ≤ y ∧ y < v) : Cc 36 [.i 3, .i v, .i x, .i y, .i 3] [.i (4 * (y * 3 + x) + 3), .i 0] := by
  refine q36 rfl ?_; unfold p36
  repeat (first | simp (disch := omega) only [↓qxs, ↓qxc, ↓qxa, ↓qxb] | refine p_call (shCheck_ok (by omega)) ?_ | refine p_call (cellCheck_ok (by omega)) ?_)
  (try simp only [List.cons.injEq, Lf.i.injEq, and_true, true_and]); (try omega)
theorem rId33 {v x y : Int} (h : (1 ≤ v ∧ v ≤ 5) ∧ 0 ≤ x ∧ x < 3 ∧ 0 ≤ y ∧ y < v) : Cc 38 [.i 3, .i v, .i x, .i y, .i 3] [.i (4 * (y * 3 + x) + 3)] := by
  refine q38 rfl ?_; unfold p38
  repeat (first | simp (disch := omega) only [↓qxs, ↓qxc, ↓qxa, ↓qxb])
  (try simp only [List.cons.injEq, Lf.i.injEq, and_true, true_and]); (try omega)
theorem shId40 {v x y : Int} (h : (1 ≤ v ∧ v ≤ 5) ∧ 0 ≤ x ∧ x < 4 ∧ 0 ≤ y ∧ y < v) : Cc 36 [.i 4, .i v, .i x, .i y, .i 0] [.i (4 * (y * 4 + x) + 0), .i 0] := by
  refine q36 rfl ?_; unfold p36
  repeat (first | simp (disch := omega) only [↓qxs, ↓qxc, ↓qxa, ↓qxb] | refine p_call (shCheck_ok (by omega)) ?_ | refine p_call (cellCheck_ok (by omega)) ?_)
  (try simp only [List.cons.injEq, Lf.i.injEq, and_true, true_and]); (try omega)
theorem rId40 {v x y : Int} (h : (1 ≤ v ∧ v ≤ 5) ∧ 0 ≤ x ∧ x < 4 ∧ 0 ≤ y ∧ y < v) : Cc 38 [.i 4, .i v, .i x, .i y, .i 0] [.i (4 * (y * 4 + x) + 0)] := by
  refine q38 rfl ?_; unfold p38
  repeat (first | simp (disch := omega) only [↓qxs, ↓qxc, ↓qxa, ↓qxb])
  (try simp only [List.cons.injEq, Lf.i.injEq, and_true, true_and]); (try omega)
theorem shId41 {v x y : Int} (h : (1 ≤ v ∧ v ≤ 5) ∧ 0 ≤ x ∧ x < 4 ∧ 0 ≤ y ∧ y < v) : Cc 36 [.i 4, .i v, .i x, .i y, .i 1] [.i (4 * (y * 4 + x) + 1), .i 0] := by
  refine q36 rfl ?_; unfold p36
  repeat (first | simp (disch := omega) only [↓qxs, ↓qxc, ↓qxa, ↓qxb] | refine p_call (shCheck_ok (by omega)) ?_ | refine p_call (cellCheck_ok (by omega)) ?_)
  (try simp only [List.cons.injEq, Lf.i.injEq, and_true, true_and]); (try omega)
theorem rId41 {v x y : Int} (h : (1 ≤ v ∧ v ≤ 5) ∧ 0 ≤ x ∧ x < 4 ∧ 0 ≤ y ∧ y < v) : Cc 38 [.i 4, .i v, .i x, .i y, .i 1] [.i (4 * (y * 4 + x) + 1)] := by
  refine q38 rfl ?_; unfold p38
  repeat (first | simp (disch := omega) only [↓qxs, ↓qxc, ↓qxa, ↓qxb])
  (try simp only [List.cons.injEq, Lf.i.injEq, and_true, true_and]); (try omega)
theorem shId42 {v x y : Int} (h : (1 ≤ v ∧ v ≤ 5) ∧ 0 ≤ x ∧ x < 4 ∧ 0 ≤ y ∧ y < v) : Cc 36 [.i 4, .i v, .i x, .i y, .i 2] [.i (4 * (y * 4 + x) + 2), .i 0] := by
  refine q36 rfl ?_; unfold p36
  repeat (first | simp (disch := omega) only [↓qxs, ↓qxc, ↓qxa, ↓qxb] | refine p_call (shCheck_ok (by omega)) ?_ | refine p_call (cellCheck_ok (by omega)) ?_)
  (try simp only [List.cons.injEq, Lf.i.injEq, and_true, true_and]); (try omega)
theorem rId42 {v x y : Int} (h : (1 ≤ v ∧ v ≤ 5) ∧ 0 ≤ x ∧ x < 4 ∧ 0 ≤ y ∧ y < v) : Cc 38 [.i 4, .i v, .i x, .i y, .i 2] [.i (4 * (y * 4 + x) + 2)] := by
  refine q38 rfl ?_; unfold p38
  repeat (first | simp (disch := omega) only [↓qxs, ↓qxc, ↓qxa, ↓qxb])
  (try simp only [List.cons.injEq, Lf.i.injEq, and_true, true_and]); (try omega)
theorem shId43 {v x y : Int} (h : (1 ≤ v ∧ v ≤ 5) ∧ 0 ≤ x ∧ x < 4 ∧ 0 ≤ y ∧ y < v) : Cc 36 [.i 4, .i v, .i x, .i y, .i 3] [.i (4 * (y * 4 + x) + 3), .i 0] := by
  refine q36 rfl ?_; unfold p36
  repeat (first | simp (disch := omega) only [↓qxs, ↓qxc, ↓qxa, ↓qxb] | refine p_call (shCheck_ok (by omega)) ?_ | refine p_call (cellCheck_ok (by omega)) ?_)
  (try simp only [List.cons.injEq, Lf.i.injEq, and_true, true_and]); (try omega)
theorem rId43 {v x y : Int} (h : (1 ≤ v ∧ v ≤ 5) ∧ 0 ≤ x ∧ x < 4 ∧ 0 ≤ y ∧ y < v) : Cc 38 [.i 4, .i v, .i x, .i y, .i 3] [.i (4 * (y * 4 + x) + 3)] := by
  refine q38 rfl ?_; unfold p38
  repeat (first | simp (disch := omega) only [↓qxs, ↓qxc, ↓qxa, ↓qxb])
  (try simp only [List.cons.injEq, Lf.i.injEq, and_true, true_and]); (try omega)
theorem shId50 {v x y : Int} (h : (1 ≤ v ∧ v ≤ 5) ∧ 0 ≤ x ∧ x < 5 ∧ 0 ≤ y ∧ y < v) : Cc 36 [.i 5, .i v, .i x, .i y, .i 0] [.i (4 * (y * 5 + x) + 0), .i 0] := by
  refine q36 rfl ?_; unfold p36
  repeat (first | simp (disch := omega) only [↓qxs, ↓qxc, ↓qxa, ↓qxb] | refine p_call (shCheck_ok (by omega)) ?_ | refine p_call (cellCheck_ok (by omega)) ?_)
  (try simp only [List.cons.injEq, Lf.i.injEq, and_true, true_and]); (try omega)
theorem rId50 {v x y : Int} (h : (1 ≤ v ∧ v ≤ 5) ∧ 0 ≤ x ∧ x < 5 ∧ 0 ≤ y ∧ y < v) : Cc 38 [.i 5, .i v, .i x, .i y, .i 0] [.i (4 * (y * 5 + x) + 0)] := by
  refine q38 rfl ?_; unfold p38
  repeat (first | simp (disch := omega) only [↓qxs, ↓qxc, ↓qxa, ↓qxb])
  (try simp only [List.cons.injEq, Lf.i.injEq, and_true, true_and]); (try omega)
theorem shId51 {v x y : Int} (h : (1 ≤ v ∧ v ≤ 5) ∧ 0 ≤ x ∧ x < 5 ∧ 0 ≤ y ∧ y < v) : Cc 36 [.i 5, .i v, .i x, .i y, .i 1] [.i (4 * (y * 5 + x) + 1), .i 0] := by
  refine q36 rfl ?_; unfold p36
  repeat (first | simp (disch := omega) only [↓qxs, ↓qxc, ↓qxa, ↓qxb] | refine p_call (shCheck_ok (by omega)) ?_ | refine p_call (cellCheck_ok (by omega)) ?_)
  (try simp only [List.cons.injEq, Lf.i.injEq, and_true, true_and]); (try omega)
theorem rId51 {v x y : Int} (h : (1 ≤ v ∧ v ≤ 5) ∧ 0 ≤ x ∧ x < 5 ∧ 0 ≤ y ∧ y < v) : Cc 38 [.i 5, .i v, .i x, .i y, .i 1] [.i (4 * (y * 5 + x) + 1)] := by
  refine q38 rfl ?_; unfold p38
  repeat (first | simp (disch := omega) only [↓qxs, ↓qxc, ↓qxa, ↓qxb])
  (try simp only [List.cons.injEq, Lf.i.injEq, and_true, true_and]); (try omega)
theorem shId52 {v x y : Int} (h : (1 ≤ v ∧ v ≤ 5) ∧ 0 ≤ x ∧ x < 5 ∧ 0 ≤ y ∧ y < v) : Cc 36 [.i 5, .i v, .i x, .i y, .i 2] [.i (4 * (y * 5 + x) + 2), .i 0] := by
  refine q36 rfl ?_; unfold p36
  repeat (first | simp (disch := omega) only [↓qxs, ↓qxc, ↓qxa, ↓qxb] | refine p_call (shCheck_ok (by omega)) ?_ | refine p_call (cellCheck_ok (by omega)) ?_)
  (try simp only [List.cons.injEq, Lf.i.injEq, and_true, true_and]); (try omega)
theorem rId52 {v x y : Int} (h : (1 ≤ v ∧ v ≤ 5) ∧ 0 ≤ x ∧ x < 5 ∧ 0 ≤ y ∧ y < v) : Cc 38 [.i 5, .i v, .i x, .i y, .i 2] [.i (4 * (y * 5 + x) + 2)] := by
  refine q38 rfl ?_; unfold p38
  repeat (first | simp (disch := omega) only [↓qxs, ↓qxc, ↓qxa, ↓qxb])
  (try simp only [List.cons.injEq, Lf.i.injEq, and_true, true_and]); (try omega)
theorem shId53 {v x y : Int} (h : (1 ≤ v ∧ v ≤ 5) ∧ 0 ≤ x ∧ x < 5 ∧ 0 ≤ y ∧ y < v) : Cc 36 [.i 5, .i v, .i x, .i y, .i 3] [.i (4 * (y * 5 + x) + 3), .i 0] := by
  refine q36 rfl ?_; unfold p36
  repeat (first | simp (disch := omega) only [↓qxs, ↓qxc, ↓qxa, ↓qxb] | refine p_call (shCheck_ok (by omega)) ?_ | refine p_call (cellCheck_ok (by omega)) ?_)
  (try simp only [List.cons.injEq, Lf.i.injEq, and_true, true_and]); (try omega)
theorem rId53 {v x y : Int} (h : (1 ≤ v ∧ v ≤ 5) ∧ 0 ≤ x ∧ x < 5 ∧ 0 ≤ y ∧ y < v) : Cc 38 [.i 5, .i v, .i x, .i y, .i 3] [.i (4 * (y * 5 + x) + 3)] := by
  refine q38 rfl ?_; unfold p38
  repeat (first | simp (disch := omega) only [↓qxs, ↓qxc, ↓qxa, ↓qxb])
  (try simp only [List.cons.injEq, Lf.i.injEq, and_true, true_and]); (try omega)
theorem shIdo {w v x y q : Int} (h : (1 ≤ w ∧ w ≤ 5 ∧ 1 ≤ v ∧ v ≤ 5) ∧ ¬ (0 ≤ x ∧ x < w ∧ 0 ≤ y ∧ y < v ∧ q ≤ 3)) : Cc 36 [.i w, .i v, .i x, .i y, .i q] [.i 0, .i 7] := by
  refine q36 rfl ?_; unfold p36
  by_cases hv : -4096 ≤ x ∧ x ≤ 4096 ∧ -4096 ≤ y ∧ y ≤ 4096 ∧ q ≤ 3
  · by_cases h1 : x < 0
    · repeat (first | simp (disch := omega) only [↓qxs, ↓qxc, ↓qxa, ↓qxb] | refine p_call (shCheck_ok (by omega)) ?_ | refine p_call (cellCheck_ok (by omega)) ?_); (try simp only [List.cons.injEq, Lf.i.injEq, and_true, true_and]); (try omega)
    by_cases h2 : w ≤ x
    · repeat (first | simp (disch := omega) only [↓qxs, ↓qxc, ↓qxa, ↓qxb] | refine p_call (shCheck_ok (by omega)) ?_ | refine p_call (cellCheck_ok (by omega)) ?_); (try simp only [List.cons.injEq, Lf.i.injEq, and_true, true_and]); (try omega)
    by_cases h3 : y < 0
    · repeat (first | simp (disch := omega) only [↓qxs, ↓qxc, ↓qxa, ↓qxb] | refine p_call (shCheck_ok (by omega)) ?_ | refine p_call (cellCheck_ok (by omega)) ?_); (try simp only [List.cons.injEq, Lf.i.injEq, and_true, true_and]); (try omega)
    repeat (first | simp (disch := omega) only [↓qxs, ↓qxc, ↓qxa, ↓qxb] | refine p_call (shCheck_ok (by omega)) ?_ | refine p_call (cellCheck_ok (by omega)) ?_); (try simp only [List.cons.injEq, Lf.i.injEq, and_true, true_and]); (try omega)
  repeat (first | simp (disch := omega) only [↓qxs, ↓qxc, ↓qxa, ↓qxb] | refine p_call (shCheck_ok (by omega)) ?_ | refine p_call (cellCheck_no (by omega)) ?_); (try simp only [List.cons.injEq, Lf.i.injEq, and_true, true_and]); (try omega)
theorem rIdo {w v x y q : Int} (h : (1 ≤ w ∧ w ≤ 5 ∧ 1 ≤ v ∧ v ≤ 5) ∧ ¬ (0 ≤ x ∧ x < w ∧ 0 ≤ y ∧ y < v ∧ q ≤ 3)) : Cc 38 [.i w, .i v, .i x, .i y, .i q] [.i (-1)] := by
  refine q38 rfl ?_; unfold p38
  by_cases h0 : x < 0
  · simp (disch := omega) only [↓qxs, ↓qxc, ↓qxa]
  by_cases h1 : y < 0
  · simp (disch := omega) only [↓qxs, ↓qxc, ↓qxa]
  by_cases h2 : w ≤ x
  · simp (disch := omega) only [↓qxs, ↓qxc, ↓qxa]
  by_cases h3 : v ≤ y
  · simp (disch := omega) only [↓qxs, ↓qxc, ↓qxa]
  simp (disch := omega) only [↓qxs, ↓qxc, ↓qxa]
end Go.Am
/-
  CLOSED FUNCTIONS THAT THE KERNEL RUNS: their contracts.
-/
set_option maxRecDepth 100000
namespace Go.Am
open Sx Go.Proofs

/-- A closed function that a run shows to say true. -/
theorem ran {g : FuncId} {n : Nat} (hs : sgTab g = some ⟨[], [lb]⟩) (h : runR [] n (.f g) [] [] isT = true) : Cc g [] [.b true] := by
  obtain ⟨H', h1⟩ := closed_true (run_ok [] (fun _ h => by cases h) n) hs h
  intro H
  refine ⟨⟨[], [lb]⟩, [], [.leaf (.b true)], hs, ⟨rfl, rfl, fun _ h => by cases h⟩, ⟨rfl, rfl, fun x hx => ?_⟩, ⟨0, fun H => frame_ok gl_flat (uCallC_ok mixed h1) rfl rfl H, rfl⟩⟩
  simp only [List.mem_singleton] at hx
  subst hx
  intro y hy
  simp only [S0.cells, List.mem_singleton] at hy
  subst hy; trivial
end Go.Am

/-
  The examples of chapter 5.
-/
set_option maxRecDepth 100000
namespace Go.Am
open Sx Go.Proofs
theorem lives5 : Cc 21 [] [.b true] := ran (n := 60) rfl (by kernel_rfl)
end Go.Am

/-
  ARGUMENTS WITHOUT ADDRESSES, as the row reads them.
-/
namespace Go.Am
namespace Sx
open Go.ChangeShapes Go.WideShapes Go.ChangeAt Go.WideMaps Go.WideElems Go.RowKit

/-- The cells are of these kinds, in their ranges. -/
def FitC : List LK → List Value → Prop
  | [], [] => True
  | .i k :: ks, v :: vs => (∃ n, v = .int k n ∧ (Lit.int k n).wf = true) ∧ FitC ks vs
  | .b :: ks, v :: vs => (∃ t, v = .bool t) ∧ FitC ks vs
  | _, _ => False
/-- The leaves are of these kinds, in their ranges. -/
def FitL : List LK → List Lf → Prop
  | [], [] => True
  | .i k :: ks, .i n :: ls => (Lit.int k n).wf = true ∧ FitL ks ls
  | .b :: ks, .b _ :: ls => FitL ks ls
  | _, _ => False

theorem FitC.len : ∀ {ks : List LK} {vs : List Value}, FitC ks vs → vs.length = ks.length
  | [], [], _ => rfl
  | .i k :: ks, v :: vs, h => by simp [FitC.len h.2]
  | .b :: ks, v :: vs, h => by simp [FitC.len h.2]
  | .v :: _, _, h => by cases h
  | [], _ :: _, h => by cases h
  | .i _ :: _, [], h => by cases h
  | .b :: _, [], h => by cases h
theorem FitC.app : ∀ {ks ks' : List LK} {vs vs' : List Value}, FitC ks vs → FitC ks' vs' → FitC (ks ++ ks') (vs ++ vs')
  | [], _, [], _, _, h => h
  | .i k :: ks, _, v :: vs, _, h, h' => ⟨h.1, FitC.app h.2 h'⟩
  | .b :: ks, _, v :: vs, _, h, h' => ⟨h.1, FitC.app h.2 h'⟩
  | .v :: _, _, _, _, h, _ => by cases h
  | [], _, _ :: _, _, h, _ => by cases h
  | .i _ :: _, _, [], _, h, _ => by cases h
  | .b :: _, _, [], _, h, _ => by cases h
theorem FitL.app : ∀ {ks ks' : List LK} {vs vs' : List Lf}, FitL ks vs → FitL ks' vs' → FitL (ks ++ ks') (vs ++ vs')
  | [], _, [], _, _, h => h
  | .i k :: ks, _, .i v :: vs, _, h, h' => ⟨h.1, FitL.app h.2 h'⟩
  | .b :: ks, _, .b v :: vs, _, h, h' => FitL.app (ks := ks) h h'
  | .v :: _, _, _, _, h, _ => by cases h
  | [], _, _ :: _, _, h, _ => by cases h
  | .i _ :: _, _, [], _, h, _ => by cases h
  | .b :: _, _, [], _, h, _ => by cases h
  | .i _ :: _, _, .b _ :: _, _, h, _ => by cases h
  | .i _ :: _, _, .v _ :: _, _, h, _ => by cases h
  | .b :: _, _, .i _ :: _, _, h, _ => by cases h
  | .b :: _, _, .v _ :: _, _, h, _ => by cases h
/-- Cells as leaves. -/
theorem FitC.sl : ∀ {ks : List LK} {vs : List Value}, FitC ks vs → ∃ xs : List SL, xs.map SL.val = vs ∧ allIs xs ks = true ∧ (∀ x ∈ xs, x.good) ∧ FitL ks (xs.map SL.lf)
  | [], [], _ => ⟨[], rfl, rfl, fun _ h => (by cases h), trivial⟩
  | .i k :: ks, v :: vs, h => by
    obtain ⟨⟨n, rfl, hw⟩, h2⟩ := h
    obtain ⟨xs, a, b, c, d⟩ := FitC.sl h2
    exact ⟨.i k n :: xs, by simp [a, SL.val], by simp [allIs, b, SL.is, kSame_self], fun x hx => by
      rcases List.mem_cons.1 hx with rfl | hx
      · trivial
      · exact c x hx, hw, d⟩
  | .b :: ks, v :: vs, h => by
    obtain ⟨⟨n, rfl⟩, h2⟩ := h
    obtain ⟨xs, a, b, c, d⟩ := FitC.sl h2
    exact ⟨.b n :: xs, by simp [a, SL.val], by simp [allIs, b, SL.is], fun x hx => by
      rcases List.mem_cons.1 hx with rfl | hx
      · trivial
      · exact c x hx, d⟩
  | .v :: _, _, h => by cases h
  | [], _ :: _, h => by cases h
  | .i _ :: _, [], h => by cases h
  | .b :: _, [], h => by cases h

/-- The kinds of the cells of a type of numbers, truth values and structs. -/
def flatF (F : TypeId → Option (List LK)) : List Field → Nat → Option (List LK)
  | [], _ => some []
  | f :: fs, off => match Nat.beq f.offset off, F f.type with
    | true, some ks => (flatF F fs (off + ks.length)).map (ks ++ ·)
    | _, _ => none
def flatT (P : Program) : Nat → TypeId → Option (List LK)
  | 0, _ => none
  | d + 1, t => match P.underlying t with
    | some (.int k) => some [.i k]
    | some .bool => some [.b]
    | some (.struct fs) => match flatF (flatT P d) fs.toList 0 with
      | some ks => match Nat.beq ks.length (P.cellsOf t) with
        | true => some ks
        | false => none
      | none => none
    | _ => none
def skT (P : Program) (t : TypeId) : Option SK :=
  match P.underlying t with
  | some (.int k) => some (.leaf (.i k))
  | some .bool => some (.leaf .b)
  | some (.struct _) => (flatT P 20 t).map .agg
  | _ => none

section
variable {H : Type} {enc : TypeId × Value → H} {P : Program}

theorem take_take_len {α : Type} (l : List α) (c : Nat) : l.take (l.take c).length = l.take c := by
  rw [List.length_take]
  rcases Nat.le_total c l.length with h | h
  · rw [Nat.min_eq_left h]
  · rw [Nat.min_eq_right h, List.take_of_length_le h, List.take_of_length_le (Nat.le_refl _)]

theorem flatF_ok {F : TypeId → Option (List LK)} {w : World} {base : Nat} {sp : Nat → Bool} {held : Bool} {fuel : Nat}
    (hF : ∀ t ks, F t = some ks → ∀ cs (x : DataW H × List MemPlace), DataW.trod enc P w base sp held fuel t cs = some x → x.2 = [] ∧ FitC ks cs ∧ ∀ w' b' s' h', DataW.trod enc P w' b' s' h' fuel t cs = some x) (cs : List Value) :
    ∀ (fs : List Field) (off : Nat) (ks : List LK) (xs : List (DataW H × List MemPlace)), flatF F fs off = some ks → fs.mapM (fun f => DataW.trod enc P w base sp held fuel f.type ((cs.drop f.offset).take (P.cellsOf f.type))) = some xs →
      xs.flatMap (·.2) = [] ∧ FitC ks ((cs.drop off).take ks.length) ∧ ∀ w' b' s' h', fs.mapM (fun f => DataW.trod enc P w' b' s' h' fuel f.type ((cs.drop f.offset).take (P.cellsOf f.type))) = some xs
  | [], off, ks, xs, h1, h2 => by
    simp only [flatF, Option.some.injEq] at h1
    subst h1
    simp only [List.mapM_nil, Option.pure_def, Option.some.injEq] at h2
    subst h2
    refine ⟨rfl, by simp [FitC], fun _ _ _ _ => by simp⟩
  | f :: fs, off, ks, xs, h1, h2 => by
    simp only [flatF] at h1
    split at h1
    · rename_i k1 e1 e2
      obtain ⟨k2, e3, rfl⟩ := Option.map_eq_some_iff.1 h1
      have e1 := Nat.eq_of_beq_eq_true e1
      rw [List.mapM_cons] at h2
      obtain ⟨x, h3, h2⟩ := Option.bind_eq_some_iff.1 h2
      obtain ⟨ys, h4, h2⟩ := Option.bind_eq_some_iff.1 h2
      cases h2
      obtain ⟨a1, a2, a3⟩ := hF _ _ e2 _ _ h3
      obtain ⟨b1, b2, b3⟩ := flatF_ok hF cs fs _ k2 ys e3 h4
      refine ⟨by simp [a1, b1], ?_, fun w' b' s' h' => ?_⟩
      · rw [List.length_append, List.take_add]
        refine FitC.app ?_ (by rw [List.drop_drop]; exact b2)
        have hl := FitC.len a2
        rw [e1] at a2 hl
        rw [← hl, take_take_len]
        exact a2
      · rw [List.mapM_cons, a3 w' b' s' h', b3 w' b' s' h']
        rfl
    · cases h1

theorem flatT_ok : ∀ (d : Nat) (t : TypeId) (ks : List LK), flatT P d t = some ks → ∀ (w : World) (base : Nat) (sp : Nat → Bool) (held : Bool) (fuel : Nat) (cs : List Value) (x : DataW H × List MemPlace), DataW.trod enc P w base sp held fuel t cs = some x →
    x.2 = [] ∧ FitC ks cs ∧ ∀ w' b' s' h', DataW.trod enc P w' b' s' h' fuel t cs = some x
  | 0, _, _, h => by cases h
  | d + 1, t, ks, h => by
    intro w base sp held fuel cs x hx
    simp only [flatT] at h
    split at h
    · rename_i k e
      cases h
      obtain ⟨n, rfl, rfl, hw⟩ := DataW.trod_int e hx
      refine ⟨rfl, ⟨⟨n, rfl, hw⟩, trivial⟩, fun w' b' s' h' => ?_⟩
      cases fuel with
      | zero => simp [DataW.trod] at hx
      | succ m => simp [DataW.trod, e, hw]
    · rename_i e
      cases h
      obtain ⟨n, rfl, rfl⟩ := DataW.trod_bool e hx
      refine ⟨rfl, ⟨⟨n, rfl⟩, trivial⟩, fun w' b' s' h' => ?_⟩
      cases fuel with
      | zero => simp [DataW.trod] at hx
      | succ m => simp [DataW.trod, e]
    · rename_i fs e
      split at h
      · rename_i k2 e2
        split at h
        · rename_i e3
          cases h
          have e3 := Nat.eq_of_beq_eq_true e3
          cases fuel with
          | zero => simp [DataW.trod] at hx
          | succ m =>
            simp only [DataW.trod, e] at hx
            split at hx
            · rename_i hl
              obtain ⟨xs, h5, rfl⟩ := Option.map_eq_some_iff.1 hx
              obtain ⟨a1, a2, a3⟩ := flatF_ok (fun t ks h cs x hx => flatT_ok d t ks h w base sp held m cs x hx) cs fs.toList 0 ks xs e2 h5
              rw [List.drop_zero, List.take_of_length_le (by omega)] at a2
              refine ⟨a1, a2, fun w' b' s' h' => ?_⟩
              simp only [DataW.trod, e, hl, if_true]
              rw [a3 w' b' s' h']
              rfl
            · cases hx
        · cases h
      · cases h
    · cases h

theorem open_flat {w : World} {r : Reach} {b0 base : Nat} {sp : Nat → Bool} {held : Bool} {t : TypeId} {sk : SK} {v : Value} {d : DataW H} {ps : List MemPlace} (h : skT P t = some sk) (hval : Value.okWide P w r b0 t v) (hd : DataW.Trod enc P w base sp held t v d ps) :
    ∃ x : S0, v = x.val ∧ x.is sk = true ∧ x.good ∧ FitL (skKs sk) (x.cells.map SL.lf) ∧ ps = [] ∧ ∀ w' b' s' h', DataW.Trod enc P w' b' s' h' t v d [] := by
  unfold skT at h
  split at h
  · rename_i k e
    cases h
    obtain ⟨n, rfl, rfl, rfl, hw⟩ := open_int e hval hd
    refine ⟨.leaf (.i k n), rfl, by simp [S0.is, SL.is, kSame_self], fun x hx => ?_, ⟨hw, trivial⟩, rfl, fun w' b' s' h' => shut_int e hw⟩
    simp only [S0.cells, List.mem_singleton] at hx
    subst hx; trivial
  · rename_i e
    cases h
    obtain ⟨n, rfl, rfl, rfl⟩ := open_bool e hval hd
    refine ⟨.leaf (.b n), rfl, rfl, fun x hx => ?_, trivial, rfl, fun w' b' s' h' => shut_bool e n⟩
    simp only [S0.cells, List.mem_singleton] at hx
    subst hx; trivial
  · rename_i fs e
    obtain ⟨ks, e2, rfl⟩ := Option.map_eq_some_iff.1 h
    obtain ⟨cs, rfl, hc⟩ := okWide_struct e hval
    obtain ⟨fuel, hf⟩ := hd
    obtain ⟨a1, a2, a3⟩ := flatT_ok 20 t ks e2 w base sp held fuel _ _ hf
    obtain ⟨xs, b1, b2, b3, b4⟩ := FitC.sl a2
    have a1 : ps = [] := a1
    subst a1
    refine ⟨.agg xs, ?_, b2, b3, b4, rfl, fun w' b' s' h' => ⟨fuel, a3 w' b' s' h'⟩⟩
    show Value.agg cs = .agg ⟨xs.map SL.val⟩
    rw [b1]
    rfl
  · cases h

def skTs (P : Program) : List TypeId → Option (List SK)
  | [] => some []
  | t :: ts => match skT P t, skTs P ts with
    | some k, some ks => some (k :: ks)
    | _, _ => none

theorem open_args {w : World} {b0 base : Nat} {r : Reach} {sp : Nat → Bool} {held : Bool} : ∀ (ts : List TypeId) (sks : List SK) (vs : List Value) (ds : List (DataW H)) (ps : List MemPlace), skTs P ts = some sks →
    (∀ (j : Nat) t v, ts[j]? = some t → vs[j]? = some v → Value.okWide P w r b0 t v) → DataW.TrodAll enc P w base sp held ts vs ds ps →
    ∃ xs : List S0, vs = valsOf xs ∧ areIs xs sks = true ∧ (∀ x ∈ xs, x.good) ∧ FitL (sks.flatMap skKs) (lfsOf xs) ∧ ps = [] ∧ ∀ w' b' s' h', DataW.TrodAll enc P w' b' s' h' ts vs ds []
  | [], sks, [], [], ps, h, _, ht => by
    cases h
    have ht : ps = [] := ht
    exact ⟨[], rfl, rfl, fun _ h => (by cases h), trivial, ht, fun _ _ _ _ => rfl⟩
  | t :: ts, sks, v :: vs, d :: ds, ps, h, hv, ht => by
    simp only [skTs] at h
    split at h
    · rename_i k ks e1 e2
      cases h
      obtain ⟨p, q, h1, h2, rfl⟩ := ht
      obtain ⟨x, a1, a2, a3, a4, rfl, a6⟩ := open_flat e1 (hv 0 t v rfl rfl) h1
      obtain ⟨xs, b1, b2, b3, b4, rfl, b6⟩ := open_args ts ks vs ds q e2 (fun j t v h1 h2 => hv (j + 1) t v h1 h2) h2
      refine ⟨x :: xs, by rw [a1, b1]; rfl, by simp [areIs, a2, b2], fun y hy => ?_, ?_, rfl, fun w' b' s' h' => ⟨[], [], a6 w' b' s' h', b6 w' b' s' h', rfl⟩⟩
      · rcases List.mem_cons.1 hy with rfl | hy
        · exact a3
        · exact b3 y hy
      · exact FitL.app a4 b4
    · cases h
  | [], _, _ :: _, _, _, _, _, ht => by cases ht
  | [], _, [], _ :: _, _, _, _, ht => by cases ht
  | _ :: _, _, [], _, _, _, _, ht => by cases ht
  | _ :: _, _, _ :: _, [], _, _, _, ht => by cases ht
end

section
variable [Val]
/-- A contract, as a call. -/
theorem callok_of_ct {C : Cfg} {Sg : FuncId → Option Sig} (hm : C.P.follows .mixedOrders = true) {g : FuncId} {sg : Sig} (hs : Sg g = some sg) {ls rs : List Lf} (hc : Ct C Sg g ls rs) {xs ys : List S0} (h1 : areIs xs sg.ps = true) (h2 : lfsOf xs = ls) (h3 : areIs ys sg.rs = true) (h4 : lfsOf ys = rs) (H : List HObj) :
    CallOk C g (valsOf xs) H (packA (valsOf ys)) H := by
  let _ : Kno := KnoC C
  obtain ⟨sg', xs', ys', c1, c2, c3, c4⟩ := hc H
  rw [hs] at c1
  cases c1
  obtain ⟨w1, _⟩ := areIs_val c2.1 h1 (c2.2.1.trans h2.symm)
  obtain ⟨w2, _⟩ := areIs_val c3.1 h3 (c3.2.1.trans h4.symm)
  rw [w1, w2] at c4
  exact uCallC_ok hm c4
end
end Sx
end Go.Am
namespace Go.Am
namespace Sx
theorem FitL.i {k : IntKind} {ks : List LK} {ls : List Lf} (h : FitL (.i k :: ks) ls) : ∃ n r, ls = .i n :: r ∧ (Lit.int k n).wf = true ∧ FitL ks r := by
  match ls, h with
  | .i n :: r, h => exact ⟨n, r, rfl, h.1, h.2⟩
theorem FitL.b {ks : List LK} {ls : List Lf} (h : FitL (.b :: ks) ls) : ∃ n r, ls = .b n :: r ∧ FitL ks r := by
  match ls, h with
  | .b n :: r, h => exact ⟨n, r, rfl, h⟩
theorem FitL.nil {ls : List Lf} (h : FitL [] ls) : ls = [] := by
  match ls, h with
  | [], _ => rfl
theorem wf_i64 {n : Int} (h : (Lit.int .i64 n).wf = true) : -9223372036854775808 ≤ n ∧ n ≤ 9223372036854775807 := by
  simp only [Lit.wf, Bool.and_eq_true, decide_eq_true_eq] at h
  exact h
theorem wf_u8 {n : Int} (h : (Lit.int .u8 n).wf = true) : 0 ≤ n ∧ n ≤ 255 := by
  simp only [Lit.wf, Bool.and_eq_true, decide_eq_true_eq] at h
  exact h
theorem wf_i8 {n : Int} (h : (Lit.int .i8 n).wf = true) : -128 ≤ n ∧ n ≤ 127 := by
  simp only [Lit.wf, Bool.and_eq_true, decide_eq_true_eq] at h
  exact h
theorem trodAll_len {H : Type} {enc : TypeId × Value → H} {P : Program} {w : World} {base : Nat} {sp : Nat → Bool} {held : Bool} : ∀ {ts : List TypeId} {vs : List Value} {ds : List (DataW H)} {ps : List MemPlace}, DataW.TrodAll enc P w base sp held ts vs ds ps → ds.length = ts.length
  | [], [], [], _, _ => rfl
  | _ :: _, _ :: _, _ :: _, _, h => by
    obtain ⟨p, q, _, h2, _⟩ := h
    simp [trodAll_len h2]
  | [], _ :: _, _, _, h => by cases h
  | [], [], _ :: _, _, h => by cases h
  | _ :: _, [], _, _, h => by cases h
  | _ :: _, _ :: _, [], _, h => by cases h
end Sx
end Go.Am

/-
  CONTRACTS, BY PROGRAM: runs that take the examples as known.
-/
set_option maxRecDepth 100000
set_option maxHeartbeats 4000000
namespace Go.Am
open Sx Go.Proofs
theorem kn21 (H : List HObj) : CallOk cc 21 [] H (.bool true) H := callok_of_ct mixed (Sg := sgTab) (sg := ⟨[], [lb]⟩) rfl lives5 (xs := []) rfl rfl (ys := [.leaf (.b true)]) rfl rfl H
/-- Runs that take the examples as known. -/
noncomputable abbrev run5 : CallB := runR [(21, true)] 60
theorem hc5 : CallBOk cc sgTab siteTab run5 := run_ok _ (fun p hp => by
  simp only [List.mem_singleton] at hp
  subst hp
  exact ⟨by kernel_rfl, kn21⟩) 60
theorem isT_le : KLe isT (fun rs _ => rs = [.b true]) := by
  intro ls h hk
  match ls, hk with
  | [.b true], _ => rfl
  | [.b false], hk => exact absurd (show false = true from hk) (by decide)
  | .b false :: _ :: _, hk => exact absurd (show false = true from hk) (by decide)
theorem mem_nat {f : Nat → Bool} {n : Nat} (h : (List.range n).all f = true) {i : Int} (h0 : 0 ≤ i) (h1 : i < n) : ∃ k : Nat, i = .ofNat k ∧ f k = true := by
  obtain ⟨k, rfl⟩ := Int.eq_ofNat_of_zero_le h0
  exact ⟨k, rfl, List.all_eq_true.1 h k (List.mem_range.2 (by omega))⟩
end Go.Am

/-
  PARTS OF FUNCTIONS, BY PROGRAM: what a run of them shows, holds.
-/
set_option maxRecDepth 100000
namespace Go.Am
open Sx Go.Proofs
section
variable {R HT : Type} (A : Alg R HT)

noncomputable def ft7 (l18 : List Lf) (h19 : HT) (E : Int → Int → Value → HT → R) (K : List Lf → HT → R) : R := A.unI l18 (fun n20 l21 => A.unI l21 (fun n22 l23 => A.un0 l23 ( A.call 37 [(.i n20), (.i n22)] h19 (fun l24 h25 => A.unV l24 (fun x26 l27 => A.unI l27 (fun n28 l29 => A.un0 l29 ( A.call 30 [(.i n20), (.i n22)] h25 (fun l30 h31 => A.unV l30 (fun x32 l33 => A.un0 l33 ( A.cmp .neq n28 (.ofNat 0) (fun t34 => A.cond t34 ( K [(.b false)] h31) ( A.opt (lenS x26) (fun x35 => A.opt (lenS x32) (fun x36 => A.cmp .neq x35 x36 (fun t37 => A.cond t37 ( K [(.b false)] h31) ( A.opt (capS x26) (fun x38 => A.opt (lenS x26) (fun x39 => A.cmp .neq x38 x39 (fun t40 => A.cond t40 ( K [(.b false)] h31) ( A.loop (fun s41 l42 h43 => A.unI l42 (fun n44 l45 => A.un0 l45 ( A.opt (lenS x32) (fun x46 => A.cmp .lss n44 x46 (fun t47 => A.cond t47 ( A.call 35 [(.i n20), (.i n22), (.i n44)] h43 (fun l48 h49 => A.unI l48 (fun n50 l51 => A.unI l51 (fun n52 l53 => A.unI l53 (fun n54 l55 => A.unI l55 (fun n56 l57 => A.un0 l57 ( A.opt (idS 3 x32 n44) (fun x58 => A.peek (ldP 3 x58) h49 (fun l59 => A.ucI .i64 l59 (fun n60 l61 => A.ucI .i64 l61 (fun n62 l63 => A.ucI .u8 l63 (fun n64 l65 => A.uc0 l65 ( A.call 36 [(.i n20), (.i n22), (.i n60), (.i n62), (.i n64)] h49 (fun l66 h67 => A.unI l66 (fun n68 l69 => A.unI l69 (fun n70 l71 => A.un0 l71 ( A.opt (idS 3 x26 n44) (fun x72 => A.peek (ldP 3 x72) h67 (fun l73 => A.ucI .i64 l73 (fun n74 l75 => A.ucI .i64 l75 (fun n76 l77 => A.ucI .u8 l77 (fun n78 l79 => A.uc0 l79 ( A.opt (idS 3 x32 n44) (fun x80 => A.peek (ldP 3 x80) h67 (fun l81 => A.ucI .i64 l81 (fun n82 l83 => A.ucI .i64 l83 (fun n84 l85 => A.ucI .u8 l85 (fun n86 l87 => A.uc0 l87 ( A.eqs [((.i n74), (.i n82)), ((.i n76), (.i n84)), ((.i n78), (.i n86))] (fun t88 => A.cond (!t88) ( K [(.b false)] h67) ( A.cmp .neq n56 (.ofNat 0) (fun t89 => A.cond t89 ( K [(.b false)] h67) ( A.opt (idS 3 x32 n44) (fun x90 => A.peek (ldP 3 x90) h67 (fun l91 => A.ucI .i64 l91 (fun n92 l93 => A.ucI .i64 l93 (fun n94 l95 => A.ucI .u8 l95 (fun n96 l97 => A.uc0 l97 ( A.eqs [((.i n50), (.i n92)), ((.i n52), (.i n94)), ((.i n54), (.i n96))] (fun t98 => A.cond (!t98) ( K [(.b false)] h67) ( A.cmp .neq n70 (.ofNat 0) (fun t99 => A.cond t99 ( K [(.b false)] h67) ( A.cmp .neq n68 n44 (fun t100 => A.cond t100 ( K [(.b false)] h67) ( A.ari .add .i64 n44 (.ofNat 1) (fun n101 => s41 [(.i n101)] h67)))))))))))))))))))))))))))))))))))))))))))))) ( E n20 n22 x32 h43)))))) [(.i (.ofNat 0))] h31))))))))))))))))))))

noncomputable def ft7e (n10 : Int) (n12 : Int) (n14 : Int) (n16 : Int) (n20 : Int) (n22 : Int) (x32 : Value) (h43 : HT) (K : List Lf → HT → R) : R := A.call 35 [(.i n20), (.i n22), (.i n10)] h43 (fun l102 h103 => A.unI l102 (fun n104 l105 => A.unI l105 (fun n106 l107 => A.unI l107 (fun n108 l109 => A.unI l109 (fun n110 l111 => A.un0 l111 ( A.cmp .lss n10 (.ofNat 0) (fun t112 => A.cond t112 ( A.cmp .neq n110 (.ofNat 7) (fun t113 => A.cond t113 ( K [(.b false)] h103) ( A.eqs [((.i n104), (.i (.ofNat 0))), ((.i n106), (.i (.ofNat 0))), ((.i n108), (.i (.ofNat 0)))] (fun t114 => A.cond (!t114) ( K [(.b false)] h103) ( A.call 36 [(.i n20), (.i n22), (.i n12), (.i n14), (.i n16)] h103 (fun l115 h116 => A.unI l115 (fun n117 l118 => A.unI l118 (fun n119 l120 => A.un0 l120 ( A.call 38 [(.i n20), (.i n22), (.i n12), (.i n14), (.i n16)] h116 (fun l121 h122 => A.unI l121 (fun n123 l124 => A.un0 l124 ( A.cmp .lss n123 (.ofNat 0) (fun t125 => A.cond t125 ( A.join (fun l126 h127 => A.unB l126 (fun t128 l129 => A.un0 l129 ( K [(.b t128)] h127))) (fun j130 => A.cmp .eql n119 (.ofNat 7) (fun t131 => A.cond t131 ( A.cmp .eql n117 (.ofNat 0) (fun t132 => A.cond t132 ( A.call 21 [] h122 (fun l133 h134 => A.unB l133 (fun t135 l136 => A.un0 l136 ( j130 [(.b t135)] h134)))) ( j130 [(.b false)] h122))) ( j130 [(.b false)] h122)))) ( A.join (fun l137 h138 => A.unB l137 (fun t139 l140 => A.un0 l140 ( K [(.b t139)] h138))) (fun j141 => A.cmp .eql n119 (.ofNat 0) (fun t142 => A.cond t142 ( A.cmp .eql n117 n123 (fun t143 => A.cond t143 ( A.call 21 [] h122 (fun l144 h145 => A.unB l144 (fun t146 l147 => A.un0 l147 ( j141 [(.b t146)] h145)))) ( j141 [(.b false)] h122))) ( j141 [(.b false)] h122))))))))))))))))) ( A.opt (lenS x32) (fun x148 => A.cmp .geq n10 x148 (fun t149 => A.join (fun l150 h151 => A.un0 l150 ( A.call 36 [(.i n20), (.i n22), (.i n12), (.i n14), (.i n16)] h151 (fun l152 h153 => A.unI l152 (fun n154 l155 => A.unI l155 (fun n156 l157 => A.un0 l157 ( A.call 38 [(.i n20), (.i n22), (.i n12), (.i n14), (.i n16)] h153 (fun l158 h159 => A.unI l158 (fun n160 l161 => A.un0 l161 ( A.cmp .lss n160 (.ofNat 0) (fun t162 => A.cond t162 ( A.join (fun l163 h164 => A.unB l163 (fun t165 l166 => A.un0 l166 ( K [(.b t165)] h164))) (fun j167 => A.cmp .eql n156 (.ofNat 7) (fun t168 => A.cond t168 ( A.cmp .eql n154 (.ofNat 0) (fun t169 => A.cond t169 ( A.call 21 [] h159 (fun l170 h171 => A.unB l170 (fun t172 l173 => A.un0 l173 ( j167 [(.b t172)] h171)))) ( j167 [(.b false)] h159))) ( j167 [(.b false)] h159)))) ( A.join (fun l174 h175 => A.unB l174 (fun t176 l177 => A.un0 l177 ( K [(.b t176)] h175))) (fun j178 => A.cmp .eql n156 (.ofNat 0) (fun t179 => A.cond t179 ( A.cmp .eql n154 n160 (fun t180 => A.cond t180 ( A.call 21 [] h159 (fun l181 h182 => A.unB l181 (fun t183 l184 => A.un0 l184 ( j178 [(.b t183)] h182)))) ( j178 [(.b false)] h159))) ( j178 [(.b false)] h159)))))))))))))) (fun j185 => A.cond t149 ( A.cmp .neq n110 (.ofNat 7) (fun t186 => A.cond t186 ( K [(.b false)] h103) ( A.eqs [((.i n104), (.i (.ofNat 0))), ((.i n106), (.i (.ofNat 0))), ((.i n108), (.i (.ofNat 0)))] (fun t187 => A.cond (!t187) ( K [(.b false)] h103) ( j185 [] h103))))) ( j185 [] h103))))))))))))

end

def pt7 (A : Alg Prop HL) (l18 : List Lf) (h19 : HL) (E : Int → Int → Value → HL → Prop) (K : List Lf → HL → Prop) : Prop := A.unI l18 (@hid _ ⟨fun n20 l21 => A.unI l21 (@hid _ ⟨fun n22 l23 => A.un0 l23 (@hid _ ⟨A.call 37 [(.i n20), (.i n22)] h19 (@hid _ ⟨fun l24 h25 => A.unV l24 (@hid _ ⟨fun x26 l27 => A.unI l27 (@hid _ ⟨fun n28 l29 => A.un0 l29 (@hid _ ⟨A.call 30 [(.i n20), (.i n22)] h25 (@hid _ ⟨fun l30 h31 => A.unV l30 (@hid _ ⟨fun x32 l33 => A.un0 l33 (@hid _ ⟨A.cmp .neq n28 0 (@hid _ ⟨fun t34 => A.cond t34 (@hid _ ⟨K [(.b false)] h31⟩) (@hid _ ⟨A.opt (lenS x26) (@hid _ ⟨fun x35 => A.opt (lenS x32) (@hid _ ⟨fun x36 => A.cmp .neq x35 x36 (@hid _ ⟨fun t37 => A.cond t37 (@hid _ ⟨K [(.b false)] h31⟩) (@hid _ ⟨A.opt (capS x26) (@hid _ ⟨fun x38 => A.opt (lenS x26) (@hid _ ⟨fun x39 => A.cmp .neq x38 x39 (@hid _ ⟨fun t40 => A.cond t40 (@hid _ ⟨K [(.b false)] h31⟩) (@hid _ ⟨A.loop (@hid _ ⟨fun s41 l42 h43 => A.unI l42 (@hid _ ⟨fun n44 l45 => A.un0 l45 (@hid _ ⟨A.opt (lenS x32) (@hid _ ⟨fun x46 => A.cmp .lss n44 x46 (@hid _ ⟨fun t47 => A.cond t47 (@hid _ ⟨A.call 35 [(.i n20), (.i n22), (.i n44)] h43 (@hid _ ⟨fun l48 h49 => A.unI l48 (@hid _ ⟨fun n50 l51 => A.unI l51 (@hid _ ⟨fun n52 l53 => A.unI l53 (@hid _ ⟨fun n54 l55 => A.unI l55 (@hid _ ⟨fun n56 l57 => A.un0 l57 (@hid _ ⟨A.opt (idS 3 x32 n44) (@hid _ ⟨fun x58 => A.peek (ldP 3 x58) h49 (@hid _ ⟨fun l59 => A.ucI .i64 l59 (@hid _ ⟨fun n60 l61 => A.ucI .i64 l61 (@hid _ ⟨fun n62 l63 => A.ucI .u8 l63 (@hid _ ⟨fun n64 l65 => A.uc0 l65 (@hid _ ⟨A.call 36 [(.i n20), (.i n22), (.i n60), (.i n62), (.i n64)] h49 (@hid _ ⟨fun l66 h67 => A.unI l66 (@hid _ ⟨fun n68 l69 => A.unI l69 (@hid _ ⟨fun n70 l71 => A.un0 l71 (@hid _ ⟨A.opt (idS 3 x26 n44) (@hid _ ⟨fun x72 => A.peek (ldP 3 x72) h67 (@hid _ ⟨fun l73 => A.ucI .i64 l73 (@hid _ ⟨fun n74 l75 => A.ucI .i64 l75 (@hid _ ⟨fun n76 l77 => A.ucI .u8 l77 (@hid _ ⟨fun n78 l79 => A.uc0 l79 (@hid _ ⟨A.opt (idS 3 x32 n44) (@hid _ ⟨fun x80 => A.peek (ldP 3 x80) h67 (@hid _ ⟨fun l81 => A.ucI .i64 l81 (@hid _ ⟨fun n82 l83 => A.ucI .i64 l83 (@hid _ ⟨fun n84 l85 => A.ucI .u8 l85 (@hid _ ⟨fun n86 l87 => A.uc0 l87 (@hid _ ⟨A.eqs [((.i n74), (.i n82)), ((.i n76), (.i n84)), ((.i n78), (.i n86))] (@hid _ ⟨fun t88 => A.cond (!t88) (@hid _ ⟨K [(.b false)] h67⟩) (@hid _ ⟨A.cmp .neq n56 0 (@hid _ ⟨fun t89 => A.cond t89 (@hid _ ⟨K [(.b false)] h67⟩) (@hid _ ⟨A.opt (idS 3 x32 n44) (@hid _ ⟨fun x90 => A.peek (ldP 3 x90) h67 (@hid _ ⟨fun l91 => A.ucI .i64 l91 (@hid _ ⟨fun n92 l93 => A.ucI .i64 l93 (@hid _ ⟨fun n94 l95 => A.ucI .u8 l95 (@hid _ ⟨fun n96 l97 => A.uc0 l97 (@hid _ ⟨A.eqs [((.i n50), (.i n92)), ((.i n52), (.i n94)), ((.i n54), (.i n96))] (@hid _ ⟨fun t98 => A.cond (!t98) (@hid _ ⟨K [(.b false)] h67⟩) (@hid _ ⟨A.cmp .neq n70 0 (@hid _ ⟨fun t99 => A.cond t99 (@hid _ ⟨K [(.b false)] h67⟩) (@hid _ ⟨A.cmp .neq n68 n44 (@hid _ ⟨fun t100 => A.cond t100 (@hid _ ⟨K [(.b false)] h67⟩) (@hid _ ⟨A.ari .add .i64 n44 1 (@hid _ ⟨fun n101 => s41 [(.i n101)] h67⟩)⟩)⟩)⟩)⟩)⟩)⟩)⟩)⟩)⟩)⟩)⟩)⟩)⟩)⟩)⟩)⟩)⟩)⟩)⟩)⟩)⟩)⟩)⟩)⟩)⟩)⟩)⟩)⟩)⟩)⟩)⟩)⟩)⟩)⟩)⟩)⟩)⟩)⟩)⟩)⟩)⟩)⟩)⟩)⟩)⟩) (@hid _ ⟨E n20 n22 x32 h43⟩)⟩)⟩)⟩)⟩)⟩) [(.i 0)] h31⟩)⟩)⟩)⟩)⟩)⟩)⟩)⟩)⟩)⟩)⟩)⟩)⟩)⟩)⟩)⟩)⟩)⟩)⟩)⟩)
theorem gt7 : (fun A : Alg Prop HL => pt7 A) = fun A => ft7 A := by kernel_rfl
theorem st7 {call : CallB} (hc : CallBOk cc sgTab siteTab call) (l18 : List Lf) (h19 : HL) {E : Int → Int → Value → HL → Bool} {E' : Int → Int → Value → HL → Prop} (hE : ∀ n20 n22 x32 h43, E n20 n22 x32 h43 = true → E' n20 n22 x32 h43) {K : List Lf → HL → Bool} {K' : List Lf → HL → Prop} (hK : KLe K K') :
    ft7 (BA sgTab siteTab call) l18 h19 E K = true → pt7 P1 l18 h19 E' K' := by
  have e : pt7 P1 l18 h19 E' K' = ft7 P1 l18 h19 E' K' := congrFun (congrFun (congrFun (congrFun (congrFun gt7 P1) l18) h19) E') K'
  rw [e]
  exact s_unI hc (fun n20 l21 => s_unI hc (fun n22 l23 => s_un0 hc (s_call hc (fun l24 h25 => s_unV hc (fun x26 l27 => s_unI hc (fun n28 l29 => s_un0 hc (s_call hc (fun l30 h31 => s_unV hc (fun x32 l33 => s_un0 hc (s_cmp hc (fun t34 => s_cond hc (hK _ _) (s_opt hc (fun x35 => s_opt hc (fun x36 => s_cmp hc (fun t37 => s_cond hc (hK _ _) (s_opt hc (fun x38 => s_opt hc (fun x39 => s_cmp hc (fun t40 => s_cond hc (hK _ _) (s_loop hc (fun s41 s41p h_s41 l42 h43 => s_unI hc (fun n44 l45 => s_un0 hc (s_opt hc (fun x46 => s_cmp hc (fun t47 => s_cond hc (s_call hc (fun l48 h49 => s_unI hc (fun n50 l51 => s_unI hc (fun n52 l53 => s_unI hc (fun n54 l55 => s_unI hc (fun n56 l57 => s_un0 hc (s_opt hc (fun x58 => s_peek hc (fun l59 => s_ucI hc (fun n60 l61 => s_ucI hc (fun n62 l63 => s_ucI hc (fun n64 l65 => s_uc0 hc (s_call hc (fun l66 h67 => s_unI hc (fun n68 l69 => s_unI hc (fun n70 l71 => s_un0 hc (s_opt hc (fun x72 => s_peek hc (fun l73 => s_ucI hc (fun n74 l75 => s_ucI hc (fun n76 l77 => s_ucI hc (fun n78 l79 => s_uc0 hc (s_opt hc (fun x80 => s_peek hc (fun l81 => s_ucI hc (fun n82 l83 => s_ucI hc (fun n84 l85 => s_ucI hc (fun n86 l87 => s_uc0 hc (s_eqs hc (fun t88 => s_cond hc (hK _ _) (s_cmp hc (fun t89 => s_cond hc (hK _ _) (s_opt hc (fun x90 => s_peek hc (fun l91 => s_ucI hc (fun n92 l93 => s_ucI hc (fun n94 l95 => s_ucI hc (fun n96 l97 => s_uc0 hc (s_eqs hc (fun t98 => s_cond hc (hK _ _) (s_cmp hc (fun t99 => s_cond hc (hK _ _) (s_cmp hc (fun t100 => s_cond hc (hK _ _) (s_ari hc (fun n101 => h_s41 _ _)))))))))))))))))))))))))))))))))))))))))))))) (hE _ _ _ _))))))))))))))))))))))))))
def pt7e (A : Alg Prop HL) (n10 : Int) (n12 : Int) (n14 : Int) (n16 : Int) (n20 : Int) (n22 : Int) (x32 : Value) (h43 : HL) (K : List Lf → HL → Prop) : Prop := A.call 35 [(.i n20), (.i n22), (.i n10)] h43 (@hid _ ⟨fun l102 h103 => A.unI l102 (@hid _ ⟨fun n104 l105 => A.unI l105 (@hid _ ⟨fun n106 l107 => A.unI l107 (@hid _ ⟨fun n108 l109 => A.unI l109 (@hid _ ⟨fun n110 l111 => A.un0 l111 (@hid _ ⟨A.cmp .lss n10 0 (@hid _ ⟨fun t112 => A.cond t112 (@hid _ ⟨A.cmp .neq n110 7 (@hid _ ⟨fun t113 => A.cond t113 (@hid _ ⟨K [(.b false)] h103⟩) (@hid _ ⟨A.eqs [((.i n104), (.i 0)), ((.i n106), (.i 0)), ((.i n108), (.i 0))] (@hid _ ⟨fun t114 => A.cond (!t114) (@hid _ ⟨K [(.b false)] h103⟩) (@hid _ ⟨A.call 36 [(.i n20), (.i n22), (.i n12), (.i n14), (.i n16)] h103 (@hid _ ⟨fun l115 h116 => A.unI l115 (@hid _ ⟨fun n117 l118 => A.unI l118 (@hid _ ⟨fun n119 l120 => A.un0 l120 (@hid _ ⟨A.call 38 [(.i n20), (.i n22), (.i n12), (.i n14), (.i n16)] h116 (@hid _ ⟨fun l121 h122 => A.unI l121 (@hid _ ⟨fun n123 l124 => A.un0 l124 (@hid _ ⟨A.cmp .lss n123 0 (@hid _ ⟨fun t125 => A.cond t125 (@hid _ ⟨A.join (@hid _ ⟨fun l126 h127 => A.unB l126 (@hid _ ⟨fun t128 l129 => A.un0 l129 (@hid _ ⟨K [(.b t128)] h127⟩)⟩)⟩) (@hid _ ⟨fun j130 => A.cmp .eql n119 7 (@hid _ ⟨fun t131 => A.cond t131 (@hid _ ⟨A.cmp .eql n117 0 (@hid _ ⟨fun t132 => A.cond t132 (@hid _ ⟨A.call 21 [] h122 (@hid _ ⟨fun l133 h134 => A.unB l133 (@hid _ ⟨fun t135 l136 => A.un0 l136 (@hid _ ⟨j130 [(.b t135)] h134⟩)⟩)⟩)⟩) (@hid _ ⟨j130 [(.b false)] h122⟩)⟩)⟩) (@hid _ ⟨j130 [(.b false)] h122⟩)⟩)⟩)⟩) (@hid _ ⟨A.join (@hid _ ⟨fun l137 h138 => A.unB l137 (@hid _ ⟨fun t139 l140 => A.un0 l140 (@hid _ ⟨K [(.b t139)] h138⟩)⟩)⟩) (@hid _ ⟨fun j141 => A.cmp .eql n119 0 (@hid _ ⟨fun t142 => A.cond t142 (@hid _ ⟨A.cmp .eql n117 n123 (@hid _ ⟨fun t143 => A.cond t143 (@hid _ ⟨A.call 21 [] h122 (@hid _ ⟨fun l144 h145 => A.unB l144 (@hid _ ⟨fun t146 l147 => A.un0 l147 (@hid _ ⟨j141 [(.b t146)] h145⟩)⟩)⟩)⟩) (@hid _ ⟨j141 [(.b false)] h122⟩)⟩)⟩) (@hid _ ⟨j141 [(.b false)] h122⟩)⟩)⟩)⟩)⟩)⟩)⟩)⟩)⟩)⟩)⟩)⟩)⟩)⟩)⟩)⟩)⟩) (@hid _ ⟨A.opt (lenS x32) (@hid _ ⟨fun x148 => A.cmp .geq n10 x148 (@hid _ ⟨fun t149 => A.join (@hid _ ⟨fun l150 h151 => A.un0 l150 (@hid _ ⟨A.call 36 [(.i n20), (.i n22), (.i n12), (.i n14), (.i n16)] h151 (@hid _ ⟨fun l152 h153 => A.unI l152 (@hid _ ⟨fun n154 l155 => A.unI l155 (@hid _ ⟨fun n156 l157 => A.un0 l157 (@hid _ ⟨A.call 38 [(.i n20), (.i n22), (.i n12), (.i n14), (.i n16)] h153 (@hid _ ⟨fun l158 h159 => A.unI l158 (@hid _ ⟨fun n160 l161 => A.un0 l161 (@hid _ ⟨A.cmp .lss n160 0 (@hid _ ⟨fun t162 => A.cond t162 (@hid _ ⟨A.join (@hid _ ⟨fun l163 h164 => A.unB l163 (@hid _ ⟨fun t165 l166 => A.un0 l166 (@hid _ ⟨K [(.b t165)] h164⟩)⟩)⟩) (@hid _ ⟨fun j167 => A.cmp .eql n156 7 (@hid _ ⟨fun t168 => A.cond t168 (@hid _ ⟨A.cmp .eql n154 0 (@hid _ ⟨fun t169 => A.cond t169 (@hid _ ⟨A.call 21 [] h159 (@hid _ ⟨fun l170 h171 => A.unB l170 (@hid _ ⟨fun t172 l173 => A.un0 l173 (@hid _ ⟨j167 [(.b t172)] h171⟩)⟩)⟩)⟩) (@hid _ ⟨j167 [(.b false)] h159⟩)⟩)⟩) (@hid _ ⟨j167 [(.b false)] h159⟩)⟩)⟩)⟩) (@hid _ ⟨A.join (@hid _ ⟨fun l174 h175 => A.unB l174 (@hid _ ⟨fun t176 l177 => A.un0 l177 (@hid _ ⟨K [(.b t176)] h175⟩)⟩)⟩) (@hid _ ⟨fun j178 => A.cmp .eql n156 0 (@hid _ ⟨fun t179 => A.cond t179 (@hid _ ⟨A.cmp .eql n154 n160 (@hid _ ⟨fun t180 => A.cond t180 (@hid _ ⟨A.call 21 [] h159 (@hid _ ⟨fun l181 h182 => A.unB l181 (@hid _ ⟨fun t183 l184 => A.un0 l184 (@hid _ ⟨j178 [(.b t183)] h182⟩)⟩)⟩)⟩) (@hid _ ⟨j178 [(.b false)] h159⟩)⟩)⟩) (@hid _ ⟨j178 [(.b false)] h159⟩)⟩)⟩)⟩)⟩)⟩)⟩)⟩)⟩)⟩)⟩)⟩)⟩)⟩) (@hid _ ⟨fun j185 => A.cond t149 (@hid _ ⟨A.cmp .neq n110 7 (@hid _ ⟨fun t186 => A.cond t186 (@hid _ ⟨K [(.b false)] h103⟩) (@hid _ ⟨A.eqs [((.i n104), (.i 0)), ((.i n106), (.i 0)), ((.i n108), (.i 0))] (@hid _ ⟨fun t187 => A.cond (!t187) (@hid _ ⟨K [(.b false)] h103⟩) (@hid _ ⟨j185 [] h103⟩)⟩)⟩)⟩)⟩) (@hid _ ⟨j185 [] h103⟩)⟩)⟩)⟩)⟩)⟩)⟩)⟩)⟩)⟩)⟩)⟩)
theorem gt7e : (fun A : Alg Prop HL => pt7e A) = fun A => ft7e A := by kernel_rfl
theorem st7e {call : CallB} (hc : CallBOk cc sgTab siteTab call) (n10 : Int) (n12 : Int) (n14 : Int) (n16 : Int) (n20 : Int) (n22 : Int) (x32 : Value) (h43 : HL) {K : List Lf → HL → Bool} {K' : List Lf → HL → Prop} (hK : KLe K K') :
    ft7e (BA sgTab siteTab call) n10 n12 n14 n16 n20 n22 x32 h43 K = true → pt7e P1 n10 n12 n14 n16 n20 n22 x32 h43 K' := by
  have e : pt7e P1 n10 n12 n14 n16 n20 n22 x32 h43 K' = ft7e P1 n10 n12 n14 n16 n20 n22 x32 h43 K' := congrFun (congrFun (congrFun (congrFun (congrFun (congrFun (congrFun (congrFun (congrFun (congrFun gt7e P1) n10) n12) n14) n16) n20) n22) x32) h43) K'
  rw [e]
  exact s_call hc (fun l102 h103 => s_unI hc (fun n104 l105 => s_unI hc (fun n106 l107 => s_unI hc (fun n108 l109 => s_unI hc (fun n110 l111 => s_un0 hc (s_cmp hc (fun t112 => s_cond hc (s_cmp hc (fun t113 => s_cond hc (hK _ _) (s_eqs hc (fun t114 => s_cond hc (hK _ _) (s_call hc (fun l115 h116 => s_unI hc (fun n117 l118 => s_unI hc (fun n119 l120 => s_un0 hc (s_call hc (fun l121 h122 => s_unI hc (fun n123 l124 => s_un0 hc (s_cmp hc (fun t125 => s_cond hc (s_join hc (fun l126 h127 => s_unB hc (fun t128 l129 => s_un0 hc (hK _ _))) (fun j130 j130p h_j130 => s_cmp hc (fun t131 => s_cond hc (s_cmp hc (fun t132 => s_cond hc (s_call hc (fun l133 h134 => s_unB hc (fun t135 l136 => s_un0 hc (h_j130 _ _)))) (h_j130 _ _))) (h_j130 _ _)))) (s_join hc (fun l137 h138 => s_unB hc (fun t139 l140 => s_un0 hc (hK _ _))) (fun j141 j141p h_j141 => s_cmp hc (fun t142 => s_cond hc (s_cmp hc (fun t143 => s_cond hc (s_call hc (fun l144 h145 => s_unB hc (fun t146 l147 => s_un0 hc (h_j141 _ _)))) (h_j141 _ _))) (h_j141 _ _))))))))))))))))) (s_opt hc (fun x148 => s_cmp hc (fun t149 => s_join hc (fun l150 h151 => s_un0 hc (s_call hc (fun l152 h153 => s_unI hc (fun n154 l155 => s_unI hc (fun n156 l157 => s_un0 hc (s_call hc (fun l158 h159 => s_unI hc (fun n160 l161 => s_un0 hc (s_cmp hc (fun t162 => s_cond hc (s_join hc (fun l163 h164 => s_unB hc (fun t165 l166 => s_un0 hc (hK _ _))) (fun j167 j167p h_j167 => s_cmp hc (fun t168 => s_cond hc (s_cmp hc (fun t169 => s_cond hc (s_call hc (fun l170 h171 => s_unB hc (fun t172 l173 => s_un0 hc (h_j167 _ _)))) (h_j167 _ _))) (h_j167 _ _)))) (s_join hc (fun l174 h175 => s_unB hc (fun t176 l177 => s_un0 hc (hK _ _))) (fun j178 j178p h_j178 => s_cmp hc (fun t179 => s_cond hc (s_cmp hc (fun t180 => s_cond hc (s_call hc (fun l181 h182 => s_unB hc (fun t183 l184 => s_un0 hc (h_j178 _ _)))) (h_j178 _ _))) (h_j178 _ _)))))))))))))) (fun j185 j185p h_j185 => s_cond hc (s_cmp hc (fun t186 => s_cond hc (hK _ _) (s_eqs hc (fun t187 => s_cond hc (hK _ _) (h_j185 _ _))))) (h_j185 _ _))))))))))))
end Go.Am

/-
  CONTRACTS, BY PROGRAM: SheetsCell.
-/
set_option maxRecDepth 100000
set_option maxHeartbeats 4000000
namespace Go.Am
open Sx Go.Proofs

noncomputable def ok7 (w v : Nat) : Bool := ft7 (BA sgTab siteTab run5) [.i (.ofNat w), .i (.ofNat v)] [] (fun a b x _ => eqI a (.ofNat w) && eqI b (.ofNat v) && (match lenS x with | some n => eqI n (.ofNat (4 * w * v)) | none => false)) isT
theorem ok7_11 : ok7 1 1 = true := by kernel_rfl
theorem ok7_12 : ok7 1 2 = true := by kernel_rfl
theorem ok7_13 : ok7 1 3 = true := by kernel_rfl
theorem ok7_14 : ok7 1 4 = true := by kernel_rfl
theorem ok7_15 : ok7 1 5 = true := by kernel_rfl
theorem ok7_21 : ok7 2 1 = true := by kernel_rfl
theorem ok7_22 : ok7 2 2 = true := by kernel_rfl
theorem ok7_23 : ok7 2 3 = true := by kernel_rfl
theorem ok7_24 : ok7 2 4 = true := by kernel_rfl
theorem ok7_25 : ok7 2 5 = true := by kernel_rfl
theorem ok7_31 : ok7 3 1 = true := by kernel_rfl
theorem ok7_32 : ok7 3 2 = true := by kernel_rfl
theorem ok7_33 : ok7 3 3 = true := by kernel_rfl
theorem ok7_34 : ok7 3 4 = true := by kernel_rfl
theorem ok7_35 : ok7 3 5 = true := by kernel_rfl
theorem ok7_41 : ok7 4 1 = true := by kernel_rfl
theorem ok7_42 : ok7 4 2 = true := by kernel_rfl
theorem ok7_43 : ok7 4 3 = true := by kernel_rfl
theorem ok7_44 : ok7 4 4 = true := by kernel_rfl
theorem ok7_45 : ok7 4 5 = true := by kernel_rfl
theorem ok7_51 : ok7 5 1 = true := by kernel_rfl
theorem ok7_52 : ok7 5 2 = true := by kernel_rfl
theorem ok7_53 : ok7 5 3 = true := by kernel_rfl
theorem ok7_54 : ok7 5 4 = true := by kernel_rfl
theorem ok7_55 : ok7 5 5 = true := by kernel_rfl
theorem in7 {w v : Nat} (h : ok7 w v = true) {i x y q : Int} (he : ∀ (s : Value) (g : HL), lenS s = some (.ofNat (4 * w * v)) → pt7e P1 i x y q (.ofNat w) (.ofNat v) s g (fun rs _ => rs = [.b true])) :
    pt7 P1 [.i (.ofNat w), .i (.ofNat v)] [] (fun a b s g => pt7e P1 i x y q a b s g (fun rs _ => rs = [.b true])) (fun rs _ => rs = [.b true]) := by
  refine st7 hc5 _ _ (fun a b s g hk => ?_) isT_le h
  simp only [Bool.and_eq_true] at hk
  obtain ⟨⟨h1, h2⟩, h3⟩ := hk
  have h1 := eqI_iff.1 h1
  have h2 := eqI_iff.1 h2
  subst h1 h2
  refine he s g ?_
  split at h3
  · rename_i n e; rw [e, eqI_iff.1 h3]
  · cases h3
theorem end7_1 {v i x y q : Int} (h : 1 ≤ v ∧ v ≤ 5 ∧ -9223372036854775808 ≤ i ∧ i ≤ 9223372036854775807 ∧ -9223372036854775808 ≤ x ∧ x ≤ 9223372036854775807 ∧ -9223372036854775808 ≤ y ∧ y ≤ 9223372036854775807 ∧ 0 ≤ q ∧ q ≤ 255) (s : Value) (g : HL) (hl : lenS s = some (4 * 1 * v)) : pt7e P1 i x y q 1 v s g (fun rs _ => rs = [.b true]) := by
  unfold pt7e
  by_cases hc : 0 ≤ x ∧ x < 1 ∧ 0 ≤ y ∧ y < v ∧ q ≤ 3
  · obtain rfl | rfl | rfl | rfl : q = 0 ∨ q = 1 ∨ q = 2 ∨ q = 3 := by omega
    all_goals (by_cases hi : i < 0)
    all_goals (by_cases hj : i < 4 * 1 * v)
    all_goals first | (exfalso; omega) | (repeat (first | refine p_opt_r hl ?_ | simp (disch := omega) only [↓qxs, ↓qxc, ↓qxa, ↓qxb] | refine p_call (shCell_ok (by omega)) ?_ | refine p_call (shCell_no (by omega)) ?_ | refine p_call (shId10 (by omega)) ?_ | refine p_call (shId11 (by omega)) ?_ | refine p_call (shId12 (by omega)) ?_ | refine p_call (shId13 (by omega)) ?_ | refine p_call (shIdo (by omega)) ?_ | refine p_call (rId10 (by omega)) ?_ | refine p_call (rId11 (by omega)) ?_ | refine p_call (rId12 (by omega)) ?_ | refine p_call (rId13 (by omega)) ?_ | refine p_call (rIdo (by omega)) ?_ | refine p_call lives5 ?_))
  · by_cases hi : i < 0
    all_goals (by_cases hj : i < 4 * 1 * v)
    all_goals first | (exfalso; omega) | (repeat (first | refine p_opt_r hl ?_ | simp (disch := omega) only [↓qxs, ↓qxc, ↓qxa, ↓qxb] | refine p_call (shCell_ok (by omega)) ?_ | refine p_call (shCell_no (by omega)) ?_ | refine p_call (shId10 (by omega)) ?_ | refine p_call (shId11 (by omega)) ?_ | refine p_call (shId12 (by omega)) ?_ | refine p_call (shId13 (by omega)) ?_ | refine p_call (shIdo (by omega)) ?_ | refine p_call (rId10 (by omega)) ?_ | refine p_call (rId11 (by omega)) ?_ | refine p_call (rId12 (by omega)) ?_ | refine p_call (rId13 (by omega)) ?_ | refine p_call (rIdo (by omega)) ?_ | refine p_call lives5 ?_))
theorem end7_2 {v i x y q : Int} (h : 1 ≤ v ∧ v ≤ 5 ∧ -9223372036854775808 ≤ i ∧ i ≤ 9223372036854775807 ∧ -9223372036854775808 ≤ x ∧ x ≤ 9223372036854775807 ∧ -9223372036854775808 ≤ y ∧ y ≤ 9223372036854775807 ∧ 0 ≤ q ∧ q ≤ 255) (s : Value) (g : HL) (hl : lenS s = some (4 * 2 * v)) : pt7e P1 i x y q 2 v s g (fun rs _ => rs = [.b true]) := by
  unfold pt7e
  by_cases hc : 0 ≤ x ∧ x < 2 ∧ 0 ≤ y ∧ y < v ∧ q ≤ 3
  · obtain rfl | rfl | rfl | rfl : q = 0 ∨ q = 1 ∨ q = 2 ∨ q = 3 := by omega
    all_goals (by_cases hi : i < 0)
    all_goals (by_cases hj : i < 4 * 2 * v)
    all_goals first | (exfalso; omega) | (repeat (first | refine p_opt_r hl ?_ | simp (disch := omega) only [↓qxs, ↓qxc, ↓qxa, ↓qxb] | refine p_call (shCell_ok (by omega)) ?_ | refine p_call (shCell_no (by omega)) ?_ | refine p_call (shId20 (by omega)) ?_ | refine p_call (shId21 (by omega)) ?_ | refine p_call (shId22 (by omega)) ?_ | refine p_call (shId23 (by omega)) ?_ | refine p_call (shIdo (by omega)) ?_ | refine p_call (rId20 (by omega)) ?_ | refine p_call (rId21 (by omega)) ?_ | refine p_call (rId22 (by omega)) ?_ | refine p_call (rId23 (by omega)) ?_ | refine p_call (rIdo (by omega)) ?_ | refine p_call lives5 ?_))
  · by_cases hi : i < 0
    all_goals (by_cases hj : i < 4 * 2 * v)
    all_goals first | (exfalso; omega) | (repeat (first | refine p_opt_r hl ?_ | simp (disch := omega) only [↓qxs, ↓qxc, ↓qxa, ↓qxb] | refine p_call (shCell_ok (by omega)) ?_ | refine p_call (shCell_no (by omega)) ?_ | refine p_call (shId20 (by omega)) ?_ | refine p_call (shId21 (by omega)) ?_ | refine p_call (shId22 (by omega)) ?_ | refine p_call (shId23 (by omega)) ?_ | refine p_call (shIdo (by omega)) ?_ | refine p_call (rId20 (by omega)) ?_ | refine p_call (rId21 (by omega)) ?_ | refine p_call (rId22 (by omega)) ?_ | refine p_call (rId23 (by omega)) ?_ | refine p_call (rIdo (by omega)) ?_ | refine p_call lives5 ?_))
theorem end7_3 {v i x y q : Int} (h : 1 ≤ v ∧ v ≤ 5 ∧ -9223372036854775808 ≤ i ∧ i ≤ 9223372036854775807 ∧ -9223372036854775808 ≤ x ∧ x ≤ 9223372036854775807 ∧ -9223372036854775808 ≤ y ∧ y ≤ 9223372036854775807 ∧ 0 ≤ q ∧ q ≤ 255) (s : Value) (g : HL) (hl : lenS s = some (4 * 3 * v)) : pt7e P1 i x y q 3 v s g (fun rs _ => rs = [.b true]) := by
  unfold pt7e
  by_cases hc : 0 ≤ x ∧ x < 3 ∧ 0 ≤ y ∧ y < v ∧ q ≤ 3
  · obtain rfl | rfl | rfl | rfl : q = 0 ∨ q = 1 ∨ q = 2 ∨ q = 3 := by omega
    all_goals (by_cases hi : i < 0)
    all_goals (by_cases hj : i < 4 * 3 * v)
    all_goals first | (exfalso; omega) | (repeat (first | refine p_opt_r hl ?_ | simp (disch := omega) only [↓qxs, ↓qxc, ↓qxa, ↓qxb] | refine p_call (shCell_ok (by omega)) ?_ | refine p_call (shCell_no (by omega)) ?_ | refine p_call (shId30 (by omega)) ?_ | refine p_call (shId31 (by omega)) ?_ | refine p_call (shId32 (by omega)) ?_ | refine p_call (shId33 (by omega)) ?_ | refine p_call (shIdo (by omega)) ?_ | refine p_call (rId30 (by omega)) ?_ | refine p_call (rId31 (by omega)) ?_ | refine p_call (rId32 (by omega)) ?_ | refine p_call (rId33 (by omega)) ?_ | refine p_call (rIdo (by omega)) ?_ | refine p_call lives5 ?_))
  · by_cases hi : i < 0
    all_goals (by_cases hj : i < 4 * 3 * v)
    all_goals first | (exfalso; omega) | (repeat (first | refine p_opt_r hl ?_ | simp (disch := omega) only [↓qxs, ↓qxc, ↓qxa, ↓qxb] | refine p_call (shCell_ok (by omega)) ?_ | refine p_call (shCell_no (by omega)) ?_ | refine p_call (shId30 (by omega)) ?_ | refine p_call (shId31 (by omega)) ?_ | refine p_call (shId32 (by omega)) ?_ | refine p_call (shId33 (by omega)) ?_ | refine p_call (shIdo (by omega)) ?_ | refine p_call (rId30 (by omega)) ?_ | refine p_call (rId31 (by omega)) ?_ | refine p_call (rId32 (by omega)) ?_ | refine p_call (rId33 (by omega)) ?_ | refine p_call (rIdo (by omega)) ?_ | refine p_call lives5 ?_))
theorem end7_4 {v i x y q : Int} (h : 1 ≤ v ∧ v ≤ 5 ∧ -9223372036854775808 ≤ i ∧ i ≤ 9223372036854775807 ∧ -9223372036854775808 ≤ x ∧ x ≤ 9223372036854775807 ∧ -9223372036854775808 ≤ y ∧ y ≤ 9223372036854775807 ∧ 0 ≤ q ∧ q ≤ 255) (s : Value) (g : HL) (hl : lenS s = some (4 * 4 * v)) : pt7e P1 i x y q 4 v s g (fun rs _ => rs = [.b true]) := by
  unfold pt7e
  by_cases hc : 0 ≤ x ∧ x < 4 ∧ 0 ≤ y ∧ y < v ∧ q ≤ 3
  · obtain rfl | rfl | rfl | rfl : q = 0 ∨ q = 1 ∨ q = 2 ∨ q = 3 := by omega
    all_goals (by_cases hi : i < 0)
    all_goals (by_cases hj : i < 4 * 4 * v)
    all_goals first | (exfalso; omega) | (repeat (first | refine p_opt_r hl ?_ | simp (disch := omega) only [↓qxs, ↓qxc, ↓qxa, ↓qxb] | refine p_call (shCell_ok (by omega)) ?_ | refine p_call (shCell_no (by omega)) ?_ | refine p_call (shId40 (by omega)) ?_ | refine p_call (shId41 (by omega)) ?_ | refine p_call (shId42 (by omega)) ?_ | refine p_call (shId43 (by omega)) ?_ | refine p_call (shIdo (by omega)) ?_ | refine p_call (rId40 (by omega)) ?_ | refine p_call (rId41 (by omega)) ?_ | refine p_call (rId42 (by omega)) ?_ | refine p_call (rId43 (by omega)) ?_ | refine p_call (rIdo (by omega)) ?_ | refine p_call lives5 ?_))
  · by_cases hi : i < 0
    all_goals (by_cases hj : i < 4 * 4 * v)
    all_goals first | (exfalso; omega) | (repeat (first | refine p_opt_r hl ?_ | simp (disch := omega) only [↓qxs, ↓qxc, ↓qxa, ↓qxb] | refine p_call (shCell_ok (by omega)) ?_ | refine p_call (shCell_no (by omega)) ?_ | refine p_call (shId40 (by omega)) ?_ | refine p_call (shId41 (by omega)) ?_ | refine p_call (shId42 (by omega)) ?_ | refine p_call (shId43 (by omega)) ?_ | refine p_call (shIdo (by omega)) ?_ | refine p_call (rId40 (by omega)) ?_ | refine p_call (rId41 (by omega)) ?_ | refine p_call (rId42 (by omega)) ?_ | refine p_call (rId43 (by omega)) ?_ | refine p_call (rIdo (by omega)) ?_ | refine p_call lives5 ?_))
theorem end7_5 {v i x y q : Int} (h : 1 ≤ v ∧ v ≤ 5 ∧ -9223372036854775808 ≤ i ∧ i ≤ 9223372036854775807 ∧ -9223372036854775808 ≤ x ∧ x ≤ 9223372036854775807 ∧ -9223372036854775808 ≤ y ∧ y ≤ 9223372036854775807 ∧ 0 ≤ q ∧ q ≤ 255) (s : Value) (g : HL) (hl : lenS s = some (4 * 5 * v)) : pt7e P1 i x y q 5 v s g (fun rs _ => rs = [.b true]) := by
  unfold pt7e
  by_cases hc : 0 ≤ x ∧ x < 5 ∧ 0 ≤ y ∧ y < v ∧ q ≤ 3
  · obtain rfl | rfl | rfl | rfl : q = 0 ∨ q = 1 ∨ q = 2 ∨ q = 3 := by omega
    all_goals (by_cases hi : i < 0)
    all_goals (by_cases hj : i < 4 * 5 * v)
    all_goals first | (exfalso; omega) | (repeat (first | refine p_opt_r hl ?_ | simp (disch := omega) only [↓qxs, ↓qxc, ↓qxa, ↓qxb] | refine p_call (shCell_ok (by omega)) ?_ | refine p_call (shCell_no (by omega)) ?_ | refine p_call (shId50 (by omega)) ?_ | refine p_call (shId51 (by omega)) ?_ | refine p_call (shId52 (by omega)) ?_ | refine p_call (shId53 (by omega)) ?_ | refine p_call (shIdo (by omega)) ?_ | refine p_call (rId50 (by omega)) ?_ | refine p_call (rId51 (by omega)) ?_ | refine p_call (rId52 (by omega)) ?_ | refine p_call (rId53 (by omega)) ?_ | refine p_call (rIdo (by omega)) ?_ | refine p_call lives5 ?_))
  · by_cases hi : i < 0
    all_goals (by_cases hj : i < 4 * 5 * v)
    all_goals first | (exfalso; omega) | (repeat (first | refine p_opt_r hl ?_ | simp (disch := omega) only [↓qxs, ↓qxc, ↓qxa, ↓qxb] | refine p_call (shCell_ok (by omega)) ?_ | refine p_call (shCell_no (by omega)) ?_ | refine p_call (shId50 (by omega)) ?_ | refine p_call (shId51 (by omega)) ?_ | refine p_call (shId52 (by omega)) ?_ | refine p_call (shId53 (by omega)) ?_ | refine p_call (shIdo (by omega)) ?_ | refine p_call (rId50 (by omega)) ?_ | refine p_call (rId51 (by omega)) ?_ | refine p_call (rId52 (by omega)) ?_ | refine p_call (rId53 (by omega)) ?_ | refine p_call (rIdo (by omega)) ?_ | refine p_call lives5 ?_))
theorem shC1 {a b v i x y q : Int} (h : 0 ≤ a ∧ a ≤ 255 ∧ 0 ≤ b ∧ b ≤ 255 ∧ 1 = 1 + a % 5 ∧ v = 1 + b % 5) (hb : -9223372036854775808 ≤ i ∧ i ≤ 9223372036854775807 ∧ -9223372036854775808 ≤ x ∧ x ≤ 9223372036854775807 ∧ -9223372036854775808 ≤ y ∧ y ≤ 9223372036854775807 ∧ 0 ≤ q ∧ q ≤ 255) : Cc 7 [.i a, .i b, .i i, .i x, .i y, .i q] [.b true] := by
  refine q7 rfl ?_; unfold p7
  simp (disch := omega) only [↓qxs, ↓qxc, ↓qxa, ↓qxb]
  refine p_call (ofW (w := 1) (v := v) (by omega)) ?_
  have hv : 1 ≤ v ∧ v ≤ 5 := by omega
  show pt7 P1 [.i 1, .i v] [] (fun a b s g => pt7e P1 i x y q a b s g (fun rs _ => rs = [.b true])) (fun rs _ => rs = [.b true])
  have he := fun s g => end7_1 (v := v) (i := i) (x := x) (y := y) (q := q) (by omega) s g
  clear h
  obtain rfl | rfl | rfl | rfl | rfl : v = 1 ∨ v = 2 ∨ v = 3 ∨ v = 4 ∨ v = 5 := by omega
  · exact in7 ok7_11 he
  · exact in7 ok7_12 he
  · exact in7 ok7_13 he
  · exact in7 ok7_14 he
  · exact in7 ok7_15 he
theorem shC2 {a b v i x y q : Int} (h : 0 ≤ a ∧ a ≤ 255 ∧ 0 ≤ b ∧ b ≤ 255 ∧ 2 = 1 + a % 5 ∧ v = 1 + b % 5) (hb : -9223372036854775808 ≤ i ∧ i ≤ 9223372036854775807 ∧ -9223372036854775808 ≤ x ∧ x ≤ 9223372036854775807 ∧ -9223372036854775808 ≤ y ∧ y ≤ 9223372036854775807 ∧ 0 ≤ q ∧ q ≤ 255) : Cc 7 [.i a, .i b, .i i, .i x, .i y, .i q] [.b true] := by
  refine q7 rfl ?_; unfold p7
  simp (disch := omega) only [↓qxs, ↓qxc, ↓qxa, ↓qxb]
  refine p_call (ofW (w := 2) (v := v) (by omega)) ?_
  have hv : 1 ≤ v ∧ v ≤ 5 := by omega
  show pt7 P1 [.i 2, .i v] [] (fun a b s g => pt7e P1 i x y q a b s g (fun rs _ => rs = [.b true])) (fun rs _ => rs = [.b true])
  have he := fun s g => end7_2 (v := v) (i := i) (x := x) (y := y) (q := q) (by omega) s g
  clear h
  obtain rfl | rfl | rfl | rfl | rfl : v = 1 ∨ v = 2 ∨ v = 3 ∨ v = 4 ∨ v = 5 := by omega
  · exact in7 ok7_21 he
  · exact in7 ok7_22 he
  · exact in7 ok7_23 he
  · exact in7 ok7_24 he
  · exact in7 ok7_25 he
theorem shC3 {a b v i x y q : Int} (h : 0 ≤ a ∧ a ≤ 255 ∧ 0 ≤ b ∧ b ≤ 255 ∧ 3 = 1 + a % 5 ∧ v = 1 + b % 5) (hb : -9223372036854775808 ≤ i ∧ i ≤ 9223372036854775807 ∧ -9223372036854775808 ≤ x ∧ x ≤ 9223372036854775807 ∧ -9223372036854775808 ≤ y ∧ y ≤ 9223372036854775807 ∧ 0 ≤ q ∧ q ≤ 255) : Cc 7 [.i a, .i b, .i i, .i x, .i y, .i q] [.b true] := by
  refine q7 rfl ?_; unfold p7
  simp (disch := omega) only [↓qxs, ↓qxc, ↓qxa, ↓qxb]
  refine p_call (ofW (w := 3) (v := v) (by omega)) ?_
  have hv : 1 ≤ v ∧ v ≤ 5 := by omega
  show pt7 P1 [.i 3, .i v] [] (fun a b s g => pt7e P1 i x y q a b s g (fun rs _ => rs = [.b true])) (fun rs _ => rs = [.b true])
  have he := fun s g => end7_3 (v := v) (i := i) (x := x) (y := y) (q := q) (by omega) s g
  clear h
  obtain rfl | rfl | rfl | rfl | rfl : v = 1 ∨ v = 2 ∨ v = 3 ∨ v = 4 ∨ v = 5 := by omega
  · exact in7 ok7_31 he
  · exact in7 ok7_32 he
  · exact in7 ok7_33 he
  · exact in7 ok7_34 he
  · exact in7 ok7_35 he
theorem shC4 {a b v i x y q : Int} (h : 0 ≤ a ∧ a ≤ 255 ∧ 0 ≤ b ∧ b ≤ 255 ∧ 4 = 1 + a % 5 ∧ v = 1 + b % 5) (hb : -9223372036854775808 ≤ i ∧ i ≤ 9223372036854775807 ∧ -9223372036854775808 ≤ x ∧ x ≤ 9223372036854775807 ∧ -9223372036854775808 ≤ y ∧ y ≤ 9223372036854775807 ∧ 0 ≤ q ∧ q ≤ 255) : Cc 7 [.i a, .i b, .i i, .i x, .i y, .i q] [.b true] := by
  refine q7 rfl ?_; unfold p7
  simp (disch := omega) only [↓qxs, ↓qxc, ↓qxa, ↓qxb]
  refine p_call (ofW (w := 4) (v := v) (by omega)) ?_
  have hv : 1 ≤ v ∧ v ≤ 5 := by omega
  show pt7 P1 [.i 4, .i v] [] (fun a b s g => pt7e P1 i x y q a b s g (fun rs _ => rs = [.b true])) (fun rs _ => rs = [.b true])
  have he := fun s g => end7_4 (v := v) (i := i) (x := x) (y := y) (q := q) (by omega) s g
  clear h
  obtain rfl | rfl | rfl | rfl | rfl : v = 1 ∨ v = 2 ∨ v = 3 ∨ v = 4 ∨ v = 5 := by omega
  · exact in7 ok7_41 he
  · exact in7 ok7_42 he
  · exact in7 ok7_43 he
  · exact in7 ok7_44 he
  · exact in7 ok7_45 he
theorem shC5 {a b v i x y q : Int} (h : 0 ≤ a ∧ a ≤ 255 ∧ 0 ≤ b ∧ b ≤ 255 ∧ 5 = 1 + a % 5 ∧ v = 1 + b % 5) (hb : -9223372036854775808 ≤ i ∧ i ≤ 9223372036854775807 ∧ -9223372036854775808 ≤ x ∧ x ≤ 9223372036854775807 ∧ -9223372036854775808 ≤ y ∧ y ≤ 9223372036854775807 ∧ 0 ≤ q ∧ q ≤ 255) : Cc 7 [.i a, .i b, .i i, .i x, .i y, .i q] [.b true] := by
  refine q7 rfl ?_; unfold p7
  simp (disch := omega) only [↓qxs, ↓qxc, ↓qxa, ↓qxb]
  refine p_call (ofW (w := 5) (v := v) (by omega)) ?_
  have hv : 1 ≤ v ∧ v ≤ 5 := by omega
  show pt7 P1 [.i 5, .i v] [] (fun a b s g => pt7e P1 i x y q a b s g (fun rs _ => rs = [.b true])) (fun rs _ => rs = [.b true])
  have he := fun s g => end7_5 (v := v) (i := i) (x := x) (y := y) (q := q) (by omega) s g
  clear h
  obtain rfl | rfl | rfl | rfl | rfl : v = 1 ∨ v = 2 ∨ v = 3 ∨ v = 4 ∨ v = 5 := by omega
  · exact in7 ok7_51 he
  · exact in7 ok7_52 he
  · exact in7 ok7_53 he
  · exact in7 ok7_54 he
  · exact in7 ok7_55 he
theorem sheetsCell_any {a b i x y q : Int} (h : 0 ≤ a ∧ a ≤ 255 ∧ 0 ≤ b ∧ b ≤ 255 ∧ -9223372036854775808 ≤ i ∧ i ≤ 9223372036854775807 ∧ -9223372036854775808 ≤ x ∧ x ≤ 9223372036854775807 ∧ -9223372036854775808 ≤ y ∧ y ≤ 9223372036854775807 ∧ 0 ≤ q ∧ q ≤ 255) : Cc 7 [.i a, .i b, .i i, .i x, .i y, .i q] [.b true] := by
  obtain ⟨v, hv⟩ : ∃ v, v = 1 + b % 5 := ⟨_, rfl⟩
  obtain hw | hw | hw | hw | hw : 1 = 1 + a % 5 ∨ 2 = 1 + a % 5 ∨ 3 = 1 + a % 5 ∨ 4 = 1 + a % 5 ∨ 5 = 1 + a % 5 := by omega
  · exact shC1 (v := v) (by omega) (by omega)
  · exact shC2 (v := v) (by omega) (by omega)
  · exact shC3 (v := v) (by omega) (by omega)
  · exact shC4 (v := v) (by omega) (by omega)
  · exact shC5 (v := v) (by omega) (by omega)
end Go.Am
/-
  WHAT THE ROW SAYS OF THE LISTED VARIABLES: the table of the quarters.
-/
set_option maxRecDepth 100000
namespace Go.Proofs.YtdngmncaohgacaaDoor
open Go Go.Am Go.Am.Sx
open Go.ChangeShapes Go.WideShapes Go.ChangeAt Go.WideMaps Go.WideElems Go.RowKit

abbrev laidC : List (String × DataW Unit) := [("crimp/cells.quarters", Rows.laid_crimp_cells_quarters)]
theorem name0 : Tryd.prog.globalNamed "crimp/cells.quarters" = some 0 := by kernel_rfl
/-- What the list gives. -/
theorem of_laid {W : World} (h : laidMetH Tryd.prog laidC W) (g : Nat) (vs : List Value) (hg : cc.G g = some vs) :
    g < W.heap.size ∧ vs.all cellOk = true ∧ vs.all flat = true ∧ ∃ c e fr, W.heap[g]? = some (.cells c e fr) ∧ c.toList = vs := by
  rw [MakeChecks.laidMetH_plain _ _ _ (by kernel_rfl)] at h
  obtain ⟨ps, h, _, _⟩ := h
  have main : ∃ c e fr, W.heap[g]? = some (.cells c e fr) ∧ c.toList = vs := by
    unfold cc at hg
    simp only at hg
    split at hg
    · cases hg
      exact laid_cells h "crimp/cells.quarters" Rows.laid_crimp_cells_quarters List.mem_cons_self 0 137 8 gl0 name0 (by kernel_rfl) (by kernel_rfl)
    · cases hg
  refine ⟨?_, gl_cell g vs hg, gl_flat g vs hg, main⟩
  obtain ⟨c, e, fr, h1, _⟩ := main
  rcases Nat.lt_or_ge g W.heap.size with h | h
  · exact h
  · rw [Array.getElem?_eq_none h] at h1; cases h1
theorem own : ownKnob Tryd.prog.godebug = none := by kernel_rfl
theorem door_met (os : Os) (args : Array Value) : laidMetH Tryd.prog laidC ((World.doorLaid Tryd.prog 400 os).forCall (fun _ _ => 0) ⟨#[], args, []⟩).memory :=
  laidMetH_of_parts3 (fuel := 8) (laidMet_of_run' 8 (by kernel_rfl) (by kernel_rfl)) (by kernel_rfl) (by kernel_rfl)
end Go.Proofs.YtdngmncaohgacaaDoor

