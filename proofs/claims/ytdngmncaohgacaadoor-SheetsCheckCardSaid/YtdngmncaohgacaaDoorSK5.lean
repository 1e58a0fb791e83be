/-
  PART 5 OF THE PROOF: Px1 Ph1 Ph2 Pq Gp C1 C3 Pb D1 Lv Lv5 Ls6 Cd1 Cd2 (no conditions).
-/
import Derived.Test.YtdngmncaohgacaaDoorSK4
import Derived.SevenTiedAt
import Derived.Test.YtdngmncaohgacaaDoorCards
import Derived.Test.YtdngmncaohgacaaDoorTie
set_option linter.unusedSectionVars false
set_option linter.unusedSimpArgs false
set_option linter.unusedVariables false
set_option linter.constructorNameAsVariable false
set_option linter.defProp false
/-
  THE ALGEBRA OF PROPOSITIONS: what must hold, that code does as it is told to do.
-/
namespace Go.Am
def LK.plain : LK → Bool
  | .v => false
  | _ => true
def SK.plain : SK → Bool
  | .leaf k => k.plain
  | .agg ks => ks.all LK.plain
def Sig.plain (s : Sig) : Bool := s.ps.all SK.plain && s.rs.all SK.plain
namespace Sx

section
variable [Val] [Kno]

abbrev HO' := List HObj
def condP (b : Bool) (x y : Prop) : Prop := (b = true → x) ∧ (b = false → y)
def ariP (op : BinOp) (k : IntKind) (a b : Int) (K : Int → Prop) : Prop :=
  match op with
  | .add => K (k.wrap (a + b))
  | .sub => K (k.wrap (a - b))
  | .mul => K (k.wrap (a * b))
  | .quo => b ≠ 0 ∧ K (k.wrap (a.tdiv b))
  | .rem => b ≠ 0 ∧ K (a.tmod b)
  | .and => (b = 1 ∧ K (a % 2)) ∨ (b ≠ 1 ∧ ∃ n, ArRun .and k a b n ∧ K n)
  | op => ∃ n, ArRun op k a b n ∧ K n
def cmpP (op : BinOp) (a b : Int) (K : Bool → Prop) : Prop :=
  match op with
  | .eql => K (a == b)
  | .neq => K (a != b)
  | .lss => K (decide (a < b))
  | .leq => K (decide (a ≤ b))
  | .gtr => K (decide (a > b))
  | .geq => K (decide (a ≥ b))
  | _ => False
def optP {α : Type} (o : Option α) (K : α → Prop) : Prop := ∃ x, o = some x ∧ K x
def unIP (ls : List Lf) (K : Int → List Lf → Prop) : Prop := match ls with | .i n :: r => K n r | _ => False
def unBP (ls : List Lf) (K : Bool → List Lf → Prop) : Prop := match ls with | .b n :: r => K n r | _ => False
def unVP (ls : List Lf) (K : Value → List Lf → Prop) : Prop := match ls with | .v n :: r => K n r | _ => False
def un0P (ls : List Lf) (K : Prop) : Prop := match ls with | [] => K | _ => False
def ucIP (k : IntKind) (ls : List Value) (K : Int → List Value → Prop) : Prop := match ls with | .int k' n :: r => k = k' ∧ K n r | _ => False
def ucBP (ls : List Value) (K : Bool → List Value → Prop) : Prop := match ls with | .bool n :: r => K n r | _ => False
def ucVP (ls : List Value) (K : Value → List Value → Prop) : Prop := match ls with | n :: r => K n r | _ => False
def uc0P (ls : List Value) (K : Prop) : Prop := match ls with | [] => K | _ => False
def getL (h : List HObj) : Getter := fun i => h[i]?
def peekP (f : Getter → Option (List Value)) (h : List HObj) (K : List Value → Prop) : Prop := ∃ cs, f (getL h) = some cs ∧ K cs
def heapP (f : Getter → Nat → Option (List Act1 × List Value)) (h : List HObj) (K : List Value → List HObj → Prop) : Prop := ∃ acts cs, f (getL h) h.length = some (acts, cs) ∧ K cs (actsOn h acts)
def callP (C : Cfg) (Sg : FuncId → Option Sig) (g : FuncId) (ls : List Lf) (h : List HObj) (K : List Lf → List HObj → Prop) : Prop := ∃ rs h', CallL C Sg g ls h rs h' ∧ K rs h'
def callvP (C : Cfg) (v : Value) (args : List Value) (hs : List SK) (h : List HObj) (K : List Lf → List HObj → Prop) : Prop := ∃ rs h', CallV C v args hs h rs h' ∧ K rs h'
def itP (F : (List Lf → List HObj → Prop) → List Lf → List HObj → Prop) (n : Nat) : List Lf → List HObj → Prop :=
  match n with
  | 0 => fun _ _ => False
  | n + 1 => F (itP F n)
def loopP (F : (List Lf → List HObj → Prop) → List Lf → List HObj → Prop) (ls : List Lf) (h : List HObj) : Prop := ∃ n, itP F n ls h
def rfunP (C : Cfg) (T : Nat → Site) (κ : Nat) (v : Value) (vals : List Value) (h : List HObj) (K : Option Code → List HObj → Prop) : Prop :=
  ∃ g first cap r H1 lp, v = .func (.func g) first cap ∧
    uCall C g (first.toList ++ [.func (.yield h.length) #[] #[]] ++ cap.toList) (h ++ [.loop (lpOf (T κ) κ vals)]) r H1 ∧
    hloop H1 h.length = some lp ∧ lp.state ≠ .busy ∧ K lp.pending (H1.set h.length (.loop { lp with state := .exhausted }))
def pendP (pd : Option Code) (kn kr : Prop) (ks : List (Nat × Prop)) : Prop :=
  match pd with
  | none => kn
  | some .ret => kr
  | some (.exit id) => ∃ x, (id, x) ∈ ks ∧ x
  | _ => False
def lp1P (l : Nat) (h : List HObj) (K : List HObj → Prop) : Prop := ∃ lp, hloop h l = some lp ∧ lp.state = .ready ∧ K (h.set l (.loop { lp with state := .busy }))
def lp2P (l : Nat) (j : Option Code) (h : List HObj) (K : List HObj → Prop) : Prop := ∃ lp, hloop h l = some lp ∧ K (h.set l (.loop { lp with state := if j.isNone then .ready else .done, pending := j }))

def PA (C : Cfg) (Sg : FuncId → Option Sig) (T : Nat → Site) : Alg Prop (List HObj) where
  fail := False
  cond := condP
  ari := ariP
  shf := fun op k a k' b K => ∃ n, ShRun op k a k' b n ∧ K n
  cmp := cmpP
  eqs := fun l K => K (eqAll l)
  conv := fun k a K => K (k.wrap a)
  sel := fun t a b K => K (if t then a else b)
  opt := optP
  chk := fun v K => goodV v = true ∧ K
  unI := unIP
  unB := unBP
  unV := unVP
  un0 := un0P
  ucI := ucIP
  ucB := ucBP
  ucV := ucVP
  uc0 := uc0P
  peek := peekP
  heap := heapP
  new := fun o h K => K h.length (h ++ [o])
  call := callP C Sg
  callv := callvP C
  join := fun b m => m b
  loop := loopP
  rfun := rfunP C T
  pend := pendP
  lp1 := lp1P
  lp2 := lp2P

theorem PA_ok (C : Cfg) (Sg : FuncId → Option Sig) (T : Nat → Site) : AlgOk (PA C Sg T) C Sg T id id where
  fail := fun h => h
  cond := by
    intro b x y h
    cases b
    · exact .inr ⟨rfl, h.2 rfl⟩
    · exact .inl ⟨rfl, h.1 rfl⟩
  ari := by
    intro op k a b K h
    have h : ariP op k a b K := h
    cases op <;> simp only [ariP] at h
    · exact ⟨_, fun P t w => by simp [binOp, Op.intArith], h⟩
    · exact ⟨_, fun P t w => by simp [binOp, Op.intArith], h⟩
    · exact ⟨_, fun P t w => by simp [binOp, Op.intArith], h⟩
    · obtain ⟨hb, h⟩ := h
      exact ⟨_, fun P t w => by simp [binOp, Op.intDiv, hb], h⟩
    · obtain ⟨hb, h⟩ := h
      exact ⟨_, fun P t w => by simp [binOp, Op.intDiv, hb], h⟩
    · rcases h with ⟨rfl, h'⟩ | ⟨_, n, h1, h2⟩
      · exact ⟨_, run_and_one rfl, h'⟩
      · exact ⟨n, h1, h2⟩
    all_goals exact h
  shf := fun op k a k' b K h => h
  cmp := by
    intro op a b K h
    have h : cmpP op a b K := h
    cases op <;> simp only [cmpP] at h <;> exact ⟨_, rfl, h⟩
  eqs := fun l K h => h
  conv := fun k a K h => h
  sel := fun t a b K h => h
  opt := fun o K h => h
  chk := fun v K h => h
  unI := by
    intro ls K h
    match ls, h with
    | .i n :: r, h => exact ⟨n, r, rfl, h⟩
  unB := by
    intro ls K h
    match ls, h with
    | .b n :: r, h => exact ⟨n, r, rfl, h⟩
  unV := by
    intro ls K h
    match ls, h with
    | .v n :: r, h => exact ⟨n, r, rfl, h⟩
  un0 := by
    intro ls K h
    match ls, h with
    | [], h => exact ⟨rfl, h⟩
  ucI := by
    intro k ls K h
    match ls, h with
    | .int k' n :: r, h =>
      obtain ⟨rfl, h⟩ : k = k' ∧ K n r := h
      exact ⟨n, r, rfl, h⟩
  ucB := by
    intro ls K h
    match ls, h with
    | .bool n :: r, h => exact ⟨n, r, rfl, h⟩
  ucV := by
    intro ls K h
    match ls, h with
    | n :: r, h => exact ⟨n, r, rfl, h⟩
  uc0 := by
    intro ls K h
    match ls, h with
    | [], h => exact ⟨rfl, h⟩
  peek := fun f h K hk => hk
  heap := by
    intro f h K hk
    obtain ⟨acts, cs, h1, h2⟩ := hk
    exact ⟨acts, cs, _, h1, rfl, h2⟩
  new := fun o h K hk => ⟨_, rfl, hk⟩
  call := fun g ls h K hk => hk
  callv := fun v args hs h K hk => hk
  join := fun b m h => h
  loop := by
    intro F ls h hk
    obtain ⟨n, hk⟩ := hk
    exact ⟨itP F, fun ls h => (id : False → False), fun n ls h => rfl, n, hk⟩
  rfun := by
    intro κ v vals h K hk
    obtain ⟨g, first, cap, r, H1, lp, h1, h2, h3, h4, h5⟩ := hk
    exact ⟨g, first, cap, r, H1, lp, _, h1, h2, h3, h4, rfl, h5⟩
  pend := by
    intro pd kn kr ks h
    have h : pendP pd kn kr ks := h
    unfold pendP at h
    split at h
    · exact .inl ⟨rfl, h⟩
    · exact .inr (.inl ⟨rfl, h⟩)
    · obtain ⟨x, h1, h2⟩ := h
      exact .inr (.inr ⟨_, x, rfl, h1, h2⟩)
    · exact h.elim
  lp1 := by
    intro l h K hk
    obtain ⟨lp, h1, h2, h3⟩ := hk
    exact ⟨lp, _, h1, h2, rfl, h3⟩
  lp2 := by
    intro l j h K hk
    obtain ⟨lp, h1, h2⟩ := hk
    exact ⟨lp, _, h1, rfl, h2⟩

/-! ### Calls that leave nothing behind -/


theorem SL.plain_scalar {l : SL} {k : LK} (h : l.is k = true) (hk : k.plain = true) : scalar l.val = true := by
  cases l <;> cases k <;> first | (cases hk; done) | (cases h; done) | rfl
theorem allIs_scalar : ∀ {cs : List SL} {ks : List LK}, allIs cs ks = true → ks.all LK.plain = true → (cs.map SL.val).all scalar = true
  | [], [], _, _ => rfl
  | c :: cs, k :: ks, h, hk => by
    simp only [allIs, Bool.and_eq_true] at h
    simp only [List.all_cons, Bool.and_eq_true] at hk
    simp only [List.map_cons, List.all_cons, Bool.and_eq_true]
    exact ⟨SL.plain_scalar h.1 hk.1, allIs_scalar h.2 hk.2⟩
  | [], _ :: _, h, _ => by cases h
  | _ :: _, [], h, _ => by cases h
theorem S0.plain_flat1 {x : S0} {k : SK} (h : x.is k = true) (hk : k.plain = true) : flat1 x.val = true := by
  cases x with
  | leaf l =>
    cases k with
    | leaf k =>
      have := SL.plain_scalar h hk
      show flat1 l.val = true
      cases hv : l.val <;> rw [hv] at this <;> first | exact this | cases this
    | agg _ => cases h
  | agg cs =>
    cases k with
    | leaf k => cases h
    | agg ks => exact allIs_scalar h hk
theorem flat_of_flat1 {v : Value} (h : flat1 v = true) : flat v = true := by
  cases v <;> first | exact h | cases h
theorem areIs_flat1 : ∀ {xs : List S0} {sks : List SK}, areIs xs sks = true → sks.all SK.plain = true → (valsOf xs).all flat1 = true
  | [], [], _, _ => rfl
  | x :: xs, k :: ks, h, hk => by
    simp only [areIs, Bool.and_eq_true] at h
    simp only [List.all_cons, Bool.and_eq_true] at hk
    simp only [valsOf, List.map_cons, List.all_cons, Bool.and_eq_true]
    exact ⟨S0.plain_flat1 h.1 hk.1, areIs_flat1 h.2 hk.2⟩
  | [], _ :: _, h, _ => by cases h
  | _ :: _, [], h, _ => by cases h
theorem areIs_flat {xs : List S0} {sks : List SK} (h : areIs xs sks = true) (hk : sks.all SK.plain = true) : (valsOf xs).all flat = true := by
  have := areIs_flat1 h hk
  rw [List.all_eq_true] at this ⊢
  exact fun v hv => flat_of_flat1 (this v hv)
theorem packA_flat {vs : List Value} (h : vs.all flat1 = true) : flat (packA vs) = true := by
  match vs, h with
  | [], _ => rfl
  | [v], h =>
    simp only [List.all_cons, List.all_nil, Bool.and_true] at h
    exact flat_of_flat1 h
  | a :: b :: l, h =>
    show flat (.tuple (a :: b :: l).toArray) = true
    simp only [flat, Bool.and_eq_true]
    exact ⟨by simp, h⟩

end

/-- What is known: whatever has been shown of calls that leave nothing behind. -/
@[reducible] def KnoC (C : Cfg) [Val] : Kno := ⟨fun f args r => ∀ H, CallOk C f args H r H⟩

section
variable [Val]
/-- THE CONTRACT: the function answers so, and leaves nothing behind. -/
def Ct (C : Cfg) (Sg : FuncId → Option Sig) (g : FuncId) (ls rs : List Lf) : Prop := let _ : Kno := KnoC C; ∀ H, CallL C Sg g ls H rs H

theorem uCallC_ok {C : Cfg} (hm : C.P.follows .mixedOrders = true) {f : FuncId} {args : List Value} {H : List HObj} {r : Value} {H' : List HObj} (h : let _ : Kno := KnoC C; uCall C f args H r H') : CallOk C f args H r H' :=
  @uCall_ok _ _ (KnoC C) hm (fun _ _ _ h => h) _ _ _ _ _ h

theorem ct_of {C : Cfg} {Sg : FuncId → Option Sig} (hm : C.P.follows .mixedOrders = true) (hG : ∀ g vs, C.G g = some vs → vs.all flat = true) {g : FuncId} {sg : Sig} (hs : Sg g = some sg) (hp : sg.plain = true) {ls rs : List Lf} {H' : List HObj}
    (h : let _ : Kno := KnoC C; CallL C Sg g ls [] rs H') : Ct C Sg g ls rs := by
  let _ : Kno := KnoC C
  obtain ⟨sg', xs, ys, c1, c2, c3, c4⟩ := h
  rw [hs] at c1
  cases c1
  simp only [Sig.plain, Bool.and_eq_true] at hp
  have ha := areIs_flat c2.1 hp.1
  have hr := packA_flat (areIs_flat1 c3.1 hp.2)
  intro H
  exact ⟨sg, xs, ys, hs, c2, c3, ⟨0, fun H => frame_ok hG (uCallC_ok hm c4) ha hr H, rfl⟩⟩

theorem call_ct {C : Cfg} {Sg : FuncId → Option Sig} {g : FuncId} {ls rs : List Lf} {h : List HObj} {K : List Lf → List HObj → Prop} (hc : Ct C Sg g ls rs) (hk : K rs h) : let _ : Kno := KnoC C; callP C Sg g ls h K :=
  ⟨rs, h, hc h, hk⟩
end

section
variable [Val] [Kno]
theorem it_rule {F : (List Lf → List HObj → Prop) → List Lf → List HObj → Prop} (Inv : Nat → List Lf → List HObj → Prop)
    (step : ∀ m ls h, Inv m ls h → ∀ self : List Lf → List HObj → Prop, (∀ m' ls h, m' < m → Inv m' ls h → self ls h) → F self ls h) : ∀ n m ls h, m < n → Inv m ls h → itP F n ls h
  | 0, _, _, _, hm, _ => absurd hm (Nat.not_lt_zero _)
  | n + 1, m, ls, h, hm, hi => step m ls h hi (itP F n) fun m' ls h h' hi' => it_rule Inv step n m' ls h (by omega) hi'
/-- A loop: a measure and what holds. -/
theorem loop_rule {F : (List Lf → List HObj → Prop) → List Lf → List HObj → Prop} (Inv : Nat → List Lf → List HObj → Prop) {m : Nat} {ls : List Lf} {h : List HObj} (hi : Inv m ls h)
    (step : ∀ m ls h, Inv m ls h → ∀ self : List Lf → List HObj → Prop, (∀ m' ls h, m' < m → Inv m' ls h → self ls h) → F self ls h) : loopP F ls h :=
  ⟨m + 1, it_rule Inv step (m + 1) m ls h (Nat.lt_succ_self m) hi⟩

/-- Numbers that fit are as they are. -/
theorem wrap_i64 {n : Int} (h1 : -9223372036854775808 ≤ n) (h2 : n ≤ 9223372036854775807) : IntKind.wrap .i64 n = n := by
  simp only [IntKind.wrap, IntKind.bits, IntKind.signed, Bool.true_and, ge_iff_le, decide_eq_true_eq]
  split <;> omega
theorem wrap_u8 {n : Int} (h1 : 0 ≤ n) (h2 : n ≤ 255) : IntKind.wrap .u8 n = n := by
  simp only [IntKind.wrap, IntKind.bits, IntKind.signed, Bool.false_and, Bool.false_eq_true, if_false]
  omega
end
end Sx
end Go.Am

/-
  THE ALGEBRA OF PROPOSITIONS OVER THE HEAPS OF RUNS; what a run shows holds in it.
-/
namespace Go.Am
namespace Sx

section
variable [Val] [Kno]

def peekH (T : Nat → Site) (f : Getter → Option (List Value)) (h : HL) (K : List Value → Prop) : Prop := ∃ cs, f (getH T h) = some cs ∧ K cs
def heapH (T : Nat → Site) (f : Getter → Nat → Option (List Act1 × List Value)) (h : HL) (K : List Value → HL → Prop) : Prop := ∃ acts cs, f (getH T h) h.length = some (acts, cs) ∧ K cs (actsOnH h acts)
def callH (C : Cfg) (Sg : FuncId → Option Sig) (T : Nat → Site) (g : FuncId) (ls : List Lf) (h : HL) (K : List Lf → HL → Prop) : Prop := ∃ rs h', CallL C Sg g ls (absH T h) rs (absH T h') ∧ K rs h'
def callvH (C : Cfg) (T : Nat → Site) (v : Value) (args : List Value) (hs : List SK) (h : HL) (K : List Lf → HL → Prop) : Prop := ∃ rs h', CallV C v args hs (absH T h) rs (absH T h') ∧ K rs h'
def itH (F : (List Lf → HL → Prop) → List Lf → HL → Prop) (n : Nat) : List Lf → HL → Prop :=
  match n with
  | 0 => fun _ _ => False
  | n + 1 => F (itH F n)
def loopH (F : (List Lf → HL → Prop) → List Lf → HL → Prop) (ls : List Lf) (h : HL) : Prop := ∃ n, itH F n ls h
def rfunH (C : Cfg) (T : Nat → Site) (κ : Nat) (v : Value) (vals : List Value) (h : HL) (K : Option Code → HL → Prop) : Prop :=
  ∃ g first cap r H1 lp h2, v = .func (.func g) first cap ∧
    uCall C g (first.toList ++ [.func (.yield (absH T h).length) #[] #[]] ++ cap.toList) (absH T h ++ [.loop (lpOf (T κ) κ vals)]) r H1 ∧
    hloop H1 (absH T h).length = some lp ∧ lp.state ≠ .busy ∧ absH T h2 = H1.set (absH T h).length (.loop { lp with state := .exhausted }) ∧ K lp.pending h2
def lp1H (T : Nat → Site) (l : Nat) (h : HL) (K : HL → Prop) : Prop := ∃ lp h', hloop (absH T h) l = some lp ∧ lp.state = .ready ∧ absH T h' = (absH T h).set l (.loop { lp with state := .busy }) ∧ K h'
def lp2H (T : Nat → Site) (l : Nat) (j : Option Code) (h : HL) (K : HL → Prop) : Prop := ∃ lp h', hloop (absH T h) l = some lp ∧ absH T h' = (absH T h).set l (.loop { lp with state := if j.isNone then .ready else .done, pending := j }) ∧ K h'

def PH (C : Cfg) (Sg : FuncId → Option Sig) (T : Nat → Site) : Alg Prop HL where
  fail := False
  cond := condP
  ari := ariP
  shf := fun op k a k' b K => ∃ n, ShRun op k a k' b n ∧ K n
  cmp := cmpP
  eqs := fun l K => K (eqAll l)
  conv := fun k a K => K (k.wrap a)
  sel := fun t a b K => K (if t then a else b)
  opt := optP
  chk := fun v K => goodV v = true ∧ K
  unI := unIP
  unB := unBP
  unV := unVP
  un0 := un0P
  ucI := ucIP
  ucB := ucBP
  ucV := ucVP
  uc0 := uc0P
  peek := peekH T
  heap := heapH T
  new := fun o h K => K h.length (h ++ [.o o])
  call := callH C Sg T
  callv := callvH C T
  join := fun b m => m b
  loop := loopH
  rfun := rfunH C T
  pend := pendP
  lp1 := lp1H T
  lp2 := lp2H T

theorem PH_ok (C : Cfg) (Sg : FuncId → Option Sig) (T : Nat → Site) : AlgOk (PH C Sg T) C Sg T id (absH T) where
  fail := (PA_ok C Sg T).fail
  cond := (PA_ok C Sg T).cond
  ari := (PA_ok C Sg T).ari
  shf := (PA_ok C Sg T).shf
  cmp := (PA_ok C Sg T).cmp
  eqs := (PA_ok C Sg T).eqs
  conv := (PA_ok C Sg T).conv
  sel := (PA_ok C Sg T).sel
  opt := (PA_ok C Sg T).opt
  chk := (PA_ok C Sg T).chk
  unI := (PA_ok C Sg T).unI
  unB := (PA_ok C Sg T).unB
  unV := (PA_ok C Sg T).unV
  un0 := (PA_ok C Sg T).un0
  ucI := (PA_ok C Sg T).ucI
  ucB := (PA_ok C Sg T).ucB
  ucV := (PA_ok C Sg T).ucV
  uc0 := (PA_ok C Sg T).uc0
  peek := by
    intro f h K hk
    obtain ⟨cs, h1, h2⟩ := hk
    exact ⟨cs, by rw [← getH_eq]; exact h1, h2⟩
  heap := by
    intro f h K hk
    obtain ⟨acts, cs, h1, h2⟩ := hk
    exact ⟨acts, cs, _, by rw [← getH_eq, absH_len]; exact h1, actsOnH_ok T acts h, h2⟩
  new := fun o h K hk => ⟨_, absH_push T h _, by rw [absH_len]; exact hk⟩
  call := fun g ls h K hk => hk
  callv := fun v args hs h K hk => hk
  join := fun b m h => h
  loop := by
    intro F ls h hk
    obtain ⟨n, hk⟩ := hk
    exact ⟨itH F, fun ls h => (id : False → False), fun n ls h => rfl, n, hk⟩
  rfun := fun κ v vals h K hk => hk
  pend := (PA_ok C Sg T).pend
  lp1 := fun l h K hk => hk
  lp2 := fun l j h K hk => hk

/-! ### What a run shows -/
section
variable {C : Cfg} {Sg : FuncId → Option Sig} {T : Nat → Site} {call : CallB} (hc : CallBOk C Sg T call)
abbrev KLe (K : List Lf → HL → Bool) (K' : List Lf → HL → Prop) : Prop := ∀ ls h, K ls h = true → K' ls h
include hc

theorem s_fail {X : Prop} : (BA Sg T call).fail = true → X := fun h => by cases h
theorem s_cond {b : Bool} {x y : Bool} {x' y' : Prop} (hx : x = true → x') (hy : y = true → y') (h : (BA Sg T call).cond b x y = true) : (PH C Sg T).cond b x' y' := by
  rcases (BA_ok hc).cond b x y h with ⟨rfl, h⟩ | ⟨rfl, h⟩
  · exact ⟨fun _ => hx h, fun e => (by cases e)⟩
  · exact ⟨fun e => (by cases e), fun _ => hy h⟩
theorem s_ari {op : BinOp} {k : IntKind} {a b : Int} {K : Int → Bool} {K' : Int → Prop} (hk : ∀ n, K n = true → K' n) (h : (BA Sg T call).ari op k a b K = true) : (PH C Sg T).ari op k a b K' := by
  replace h : ariB op k a b K = true := h
  show ariP op k a b K'
  cases op <;> simp only [ariB, Bool.false_eq_true] at h <;> simp only [ariP]
  · rw [forceI_eq] at h; exact hk _ (fitsK h)
  · rw [forceI_eq] at h; exact hk _ (fitsK h)
  · rw [forceI_eq] at h; exact hk _ (fitsK h)
  · split at h
    · cases h
    · rename_i hb
      rw [forceI_eq] at h; exact ⟨eqI_false.1 hb, hk _ (fitsK h)⟩
  · split at h
    · cases h
    · rename_i hb
      rw [forceI_eq] at h; exact ⟨eqI_false.1 hb, hk _ h⟩
  · split at h
    · rename_i hb
      have hb := eqI_iff.1 hb
      subst hb
      rw [forceI_eq] at h
      exact .inl ⟨rfl, hk _ h⟩
    · rename_i hb
      split at h
      · rw [forceI_eq] at h
        exact .inr ⟨eqI_false.1 hb, _, run_and_nat _ _, hk _ (fitsK h)⟩
      · cases h
theorem s_cmp {op : BinOp} {a b : Int} {K : Bool → Bool} {K' : Bool → Prop} (hk : ∀ n, K n = true → K' n) (h : (BA Sg T call).cmp op a b K = true) : (PH C Sg T).cmp op a b K' := by
  obtain ⟨t, h1, h2⟩ := cmpB_ok h
  show cmpP op a b K'
  cases op <;> simp only [cmpRes, Option.some.injEq] at h1 <;> first | (cases h1; done) | (simp only [cmpP]; rw [h1]; exact hk _ h2)
theorem s_eqs {l : List (Lf × Lf)} {K : Bool → Bool} {K' : Bool → Prop} (hk : ∀ n, K n = true → K' n) (h : (BA Sg T call).eqs l K = true) : (PH C Sg T).eqs l K' := hk _ (eqsB_ok h)
theorem s_conv {k : IntKind} {a : Int} {K : Int → Bool} {K' : Int → Prop} (hk : ∀ n, K n = true → K' n) (h : (BA Sg T call).conv k a K = true) : (PH C Sg T).conv k a K' := hk _ ((BA_ok hc).conv k a K h)
theorem s_sel {t : Bool} {a b : Int} {K : Int → Bool} {K' : Int → Prop} (hk : ∀ n, K n = true → K' n) (h : (BA Sg T call).sel t a b K = true) : (PH C Sg T).sel t a b K' := hk _ ((BA_ok hc).sel t a b K h)
theorem s_opt {α : Type} {o : Option α} {K : α → Bool} {K' : α → Prop} (hk : ∀ n, K n = true → K' n) (h : (BA Sg T call).opt o K = true) : (PH C Sg T).opt o K' := by
  obtain ⟨x, h1, h2⟩ := (BA_ok hc).opt o K h
  exact ⟨x, h1, hk _ h2⟩
theorem s_chk {v : Value} {K : Bool} {K' : Prop} (hk : K = true → K') (h : (BA Sg T call).chk v K = true) : (PH C Sg T).chk v K' := by
  obtain ⟨h1, h2⟩ := (BA_ok hc).chk v K h
  exact ⟨h1, hk h2⟩
theorem s_unI {l : List Lf} {K : Int → List Lf → Bool} {K' : Int → List Lf → Prop} (hk : ∀ n r, K n r = true → K' n r) (h : (BA Sg T call).unI l K = true) : (PH C Sg T).unI l K' := by
  obtain ⟨n, r, rfl, h2⟩ := (BA_ok hc).unI l K h
  exact hk _ _ h2
theorem s_unB {l : List Lf} {K : Bool → List Lf → Bool} {K' : Bool → List Lf → Prop} (hk : ∀ n r, K n r = true → K' n r) (h : (BA Sg T call).unB l K = true) : (PH C Sg T).unB l K' := by
  obtain ⟨n, r, rfl, h2⟩ := (BA_ok hc).unB l K h
  exact hk _ _ h2
theorem s_unV {l : List Lf} {K : Value → List Lf → Bool} {K' : Value → List Lf → Prop} (hk : ∀ n r, K n r = true → K' n r) (h : (BA Sg T call).unV l K = true) : (PH C Sg T).unV l K' := by
  obtain ⟨n, r, rfl, h2⟩ := (BA_ok hc).unV l K h
  exact hk _ _ h2
theorem s_un0 {l : List Lf} {K : Bool} {K' : Prop} (hk : K = true → K') (h : (BA Sg T call).un0 l K = true) : (PH C Sg T).un0 l K' := by
  obtain ⟨rfl, h2⟩ := (BA_ok hc).un0 l K h
  exact hk h2
theorem s_ucI {k : IntKind} {l : List Value} {K : Int → List Value → Bool} {K' : Int → List Value → Prop} (hk : ∀ n r, K n r = true → K' n r) (h : (BA Sg T call).ucI k l K = true) : (PH C Sg T).ucI k l K' := by
  obtain ⟨n, r, rfl, h2⟩ := (BA_ok hc).ucI k l K h
  exact ⟨rfl, hk _ _ h2⟩
theorem s_ucB {l : List Value} {K : Bool → List Value → Bool} {K' : Bool → List Value → Prop} (hk : ∀ n r, K n r = true → K' n r) (h : (BA Sg T call).ucB l K = true) : (PH C Sg T).ucB l K' := by
  obtain ⟨n, r, rfl, h2⟩ := (BA_ok hc).ucB l K h
  exact hk _ _ h2
theorem s_ucV {l : List Value} {K : Value → List Value → Bool} {K' : Value → List Value → Prop} (hk : ∀ n r, K n r = true → K' n r) (h : (BA Sg T call).ucV l K = true) : (PH C Sg T).ucV l K' := by
  obtain ⟨n, r, rfl, h2⟩ := (BA_ok hc).ucV l K h
  exact hk _ _ h2
theorem s_uc0 {l : List Value} {K : Bool} {K' : Prop} (hk : K = true → K') (h : (BA Sg T call).uc0 l K = true) : (PH C Sg T).uc0 l K' := by
  obtain ⟨rfl, h2⟩ := (BA_ok hc).uc0 l K h
  exact hk h2
theorem s_peek {f : Getter → Option (List Value)} {h : HL} {K : List Value → Bool} {K' : List Value → Prop} (hk : ∀ n, K n = true → K' n) (e : (BA Sg T call).peek f h K = true) : (PH C Sg T).peek f h K' := by
  obtain ⟨cs, h1, h2⟩ := (BA_ok hc).peek f h K e
  exact ⟨cs, by rw [getH_eq]; exact h1, hk _ h2⟩
theorem s_heap {f : Getter → Nat → Option (List Act1 × List Value)} {h : HL} {K : List Value → HL → Bool} {K' : List Value → HL → Prop} (hk : ∀ l h, K l h = true → K' l h) (e : (BA Sg T call).heap f h K = true) : (PH C Sg T).heap f h K' := by
  have e : heapB T f h K = true := e
  unfold heapB at e
  split at e
  · rename_i p e2; exact ⟨p.1, p.2, e2, hk _ _ e⟩
  · cases e
theorem s_new {o : HObj} {h : HL} {K : Nat → HL → Bool} {K' : Nat → HL → Prop} (hk : ∀ l h, K l h = true → K' l h) (e : (BA Sg T call).new o h K = true) : (PH C Sg T).new o h K' := by
  have e : newB o h K = true := e
  unfold newB at e
  rw [forceN_eq'] at e
  exact hk _ _ e
theorem s_call {g : FuncId} {l : List Lf} {h : HL} {K : List Lf → HL → Bool} {K' : List Lf → HL → Prop} (hk : ∀ l h, K l h = true → K' l h) (e : (BA Sg T call).call g l h K = true) : (PH C Sg T).call g l h K' := by
  obtain ⟨rs, h', h1, h2⟩ := callB_ok hc e
  exact ⟨rs, h', h1, hk _ _ h2⟩
theorem s_callv {v : Value} {l : List Value} {hs : List SK} {h : HL} {K : List Lf → HL → Bool} {K' : List Lf → HL → Prop} (hk : ∀ l h, K l h = true → K' l h) (e : (BA Sg T call).callv v l hs h K = true) : (PH C Sg T).callv v l hs h K' := by
  obtain ⟨rs, h', h1, h2⟩ := callvB_ok hc e
  exact ⟨rs, h', h1, hk _ _ h2⟩
theorem s_join {b : List Lf → HL → Bool} {b' : List Lf → HL → Prop} {m : (List Lf → HL → Bool) → Bool} {m' : (List Lf → HL → Prop) → Prop} (hb : KLe b b') (hm : ∀ j j', KLe j j' → m j = true → m' j') (e : (BA Sg T call).join b m = true) : (PH C Sg T).join b' m' := hm _ _ hb e
theorem s_loop {F : (List Lf → HL → Bool) → List Lf → HL → Bool} {F' : (List Lf → HL → Prop) → List Lf → HL → Prop} {l : List Lf} {h : HL} (hF : ∀ s s', KLe s s' → ∀ l h, F s l h = true → F' s' l h) (e : (BA Sg T call).loop F l h = true) : (PH C Sg T).loop F' l h := by
  obtain ⟨it, i0, i1, n, hn⟩ := (BA_ok hc).loop F l h e
  refine ⟨n, ?_⟩
  have : ∀ n l h, it n l h = true → itH F' n l h := by
    intro n
    induction n with
    | zero => intro l h hn; exact absurd hn (i0 l h)
    | succ n ih =>
      intro l h hn
      rw [i1] at hn
      exact hF _ _ (fun l h => ih l h) l h hn
  exact this n l h hn
theorem s_rfun {κ : Nat} {v : Value} {vals : List Value} {h : HL} {K : Option Code → HL → Bool} {K' : Option Code → HL → Prop} (hk : ∀ l h, K l h = true → K' l h) (e : (BA Sg T call).rfun κ v vals h K = true) : (PH C Sg T).rfun κ v vals h K' := by
  obtain ⟨g, first, cap, r, H1, lp, h2, a1, a2, a3, a4, a5, a6⟩ := rfunB_ok hc e
  exact ⟨g, first, cap, r, H1, lp, h2, a1, a2, a3, a4, a5, hk _ _ a6⟩
/-- Answers to how a round ended, side by side. -/
inductive SL2 : List (Nat × Bool) → List (Nat × Prop) → Prop
  | nil : SL2 [] []
  | cons {id : Nat} {x : Bool} {x' : Prop} {l : List (Nat × Bool)} {l' : List (Nat × Prop)} (hx : x = true → x') (hl : SL2 l l') : SL2 ((id, x) :: l) ((id, x') :: l')
omit hc in
theorem SL2.mem {l : List (Nat × Bool)} {l' : List (Nat × Prop)} (h : SL2 l l') {id : Nat} {x : Bool} (hm : (id, x) ∈ l) (hx : x = true) : ∃ y, (id, y) ∈ l' ∧ y := by
  induction h with
  | nil => cases hm
  | cons h1 h2 ih =>
    rcases List.mem_cons.1 hm with e | hm
    · cases e; exact ⟨_, List.mem_cons_self, h1 hx⟩
    · obtain ⟨y, a, b⟩ := ih hm
      exact ⟨y, List.mem_cons_of_mem _ a, b⟩
theorem s_pend {pd : Option Code} {kn kr : Bool} {kn' kr' : Prop} {ks : List (Nat × Bool)} {ks' : List (Nat × Prop)} (h1 : kn = true → kn') (h2 : kr = true → kr') (h3 : SL2 ks ks') (e : (BA Sg T call).pend pd kn kr ks = true) : (PH C Sg T).pend pd kn' kr' ks' := by
  rcases (BA_ok hc).pend pd kn kr ks e with ⟨rfl, h⟩ | ⟨rfl, h⟩ | ⟨id, x, rfl, hm, hx⟩
  · exact h1 h
  · exact h2 h
  · exact h3.mem hm hx
theorem s_lp1 {l : Nat} {h : HL} {K : HL → Bool} {K' : HL → Prop} (hk : ∀ h, K h = true → K' h) (e : (BA Sg T call).lp1 l h K = true) : (PH C Sg T).lp1 l h K' := by
  obtain ⟨lp, h', a1, a2, a3, a4⟩ := (BA_ok hc).lp1 l h K e
  exact ⟨lp, h', a1, a2, a3, hk _ a4⟩
theorem s_lp2 {l : Nat} {j : Option Code} {h : HL} {K : HL → Bool} {K' : HL → Prop} (hk : ∀ h, K h = true → K' h) (e : (BA Sg T call).lp2 l j h K = true) : (PH C Sg T).lp2 l j h K' := by
  obtain ⟨lp, h', a1, a3, a4⟩ := (BA_ok hc).lp2 l j h K e
  exact ⟨lp, h', a1, a3, hk _ a4⟩
end

theorem itH_rule {F : (List Lf → HL → Prop) → List Lf → HL → Prop} (Inv : Nat → List Lf → HL → Prop)
    (step : ∀ m ls h, Inv m ls h → ∀ self : List Lf → HL → Prop, (∀ m' ls h, m' < m → Inv m' ls h → self ls h) → F self ls h) : ∀ n m ls h, m < n → Inv m ls h → itH F n ls h
  | 0, _, _, _, hm, _ => absurd hm (Nat.not_lt_zero _)
  | n + 1, m, ls, h, hm, hi => step m ls h hi (itH F n) fun m' ls h h' hi' => itH_rule Inv step n m' ls h (by omega) hi'
/-- A loop: a measure and what holds. -/
theorem loopH_rule {F : (List Lf → HL → Prop) → List Lf → HL → Prop} (Inv : Nat → List Lf → HL → Prop) {m : Nat} {ls : List Lf} {h : HL} (hi : Inv m ls h)
    (step : ∀ m ls h, Inv m ls h → ∀ self : List Lf → HL → Prop, (∀ m' ls h, m' < m → Inv m' ls h → self ls h) → F self ls h) : loopH F ls h :=
  ⟨m + 1, itH_rule Inv step (m + 1) m ls h (Nat.lt_succ_self m) hi⟩
end
end Sx
end Go.Am

/-
  THE ALGEBRA OF PROPOSITIONS, its rules as equations: a step each.
-/
namespace Go.Am
namespace Sx

/-- What comes behind, put away: no step looks into it. -/
class Bx (α : Sort _) where
  v : α
def hid {α : Sort _} [b : Bx α] : α := b.v
section
variable [Val] [Kno] {C : Cfg} {Sg : FuncId → Option Sig} {T : Nat → Site}

theorem b_unI {n : Int} {r : List Lf} {K : Int → List Lf → Prop} : (PH C Sg T).unI (.i n :: r) K = K n r := rfl
theorem b_unB {n : Bool} {r : List Lf} {K : Bool → List Lf → Prop} : (PH C Sg T).unB (.b n :: r) K = K n r := rfl
theorem b_unV {n : Value} {r : List Lf} {K : Value → List Lf → Prop} : (PH C Sg T).unV (.v n :: r) K = K n r := rfl
theorem b_un0 {K : Prop} : (PH C Sg T).un0 [] K = K := rfl
theorem b_ucI {k : IntKind} {n : Int} {r : List Value} {K : Int → List Value → Prop} : (PH C Sg T).ucI k (.int k n :: r) K = K n r := by
  show (k = k ∧ K n r) = K n r
  simp
theorem b_ucB {n : Bool} {r : List Value} {K : Bool → List Value → Prop} : (PH C Sg T).ucB (.bool n :: r) K = K n r := rfl
theorem b_ucV {n : Value} {r : List Value} {K : Value → List Value → Prop} : (PH C Sg T).ucV (n :: r) K = K n r := rfl
theorem b_uc0 {K : Prop} : (PH C Sg T).uc0 [] K = K := rfl
theorem p_chk {v : Value} {K : Prop} (h : goodV v = true) : (PH C Sg T).chk v K = K := by
  show (goodV v = true ∧ K) = K
  simp [h]
theorem b_cond_t {X Y : Prop} : (PH C Sg T).cond true X Y = X := by
  show ((true = true → X) ∧ (true = false → Y)) = X
  simp
theorem b_cond_f {X Y : Prop} : (PH C Sg T).cond false X Y = Y := by
  show ((false = true → X) ∧ (false = false → Y)) = Y
  simp
theorem b_lss_t {a b : Int} {K : Bool → Prop} (h : a < b) : (PH C Sg T).cmp .lss a b K = K true := by
  show K (decide (a < b)) = _; rw [decide_eq_true h]
theorem b_lss_f {a b : Int} {K : Bool → Prop} (h : b ≤ a) : (PH C Sg T).cmp .lss a b K = K false := by
  show K (decide (a < b)) = _; rw [decide_eq_false (by omega)]
theorem b_leq_t {a b : Int} {K : Bool → Prop} (h : a ≤ b) : (PH C Sg T).cmp .leq a b K = K true := by
  show K (decide (a ≤ b)) = _; rw [decide_eq_true h]
theorem b_leq_f {a b : Int} {K : Bool → Prop} (h : b < a) : (PH C Sg T).cmp .leq a b K = K false := by
  show K (decide (a ≤ b)) = _; rw [decide_eq_false (by omega)]
theorem b_gtr_t {a b : Int} {K : Bool → Prop} (h : b < a) : (PH C Sg T).cmp .gtr a b K = K true := by
  show K (decide (a > b)) = _; rw [decide_eq_true h]
theorem b_gtr_f {a b : Int} {K : Bool → Prop} (h : a ≤ b) : (PH C Sg T).cmp .gtr a b K = K false := by
  show K (decide (a > b)) = _; rw [decide_eq_false (by omega)]
theorem b_geq_t {a b : Int} {K : Bool → Prop} (h : b ≤ a) : (PH C Sg T).cmp .geq a b K = K true := by
  show K (decide (a ≥ b)) = _; rw [decide_eq_true h]
theorem b_geq_f {a b : Int} {K : Bool → Prop} (h : a < b) : (PH C Sg T).cmp .geq a b K = K false := by
  show K (decide (a ≥ b)) = _; rw [decide_eq_false (by omega)]
theorem b_eql_t {a b : Int} {K : Bool → Prop} (h : a = b) : (PH C Sg T).cmp .eql a b K = K true := by
  show K (a == b) = _; rw [beq_iff_eq.2 h]
theorem b_eql_f {a b : Int} {K : Bool → Prop} (h : a ≠ b) : (PH C Sg T).cmp .eql a b K = K false := by
  show K (a == b) = _; rw [beq_false_of_ne h]
theorem b_neq_t {a b : Int} {K : Bool → Prop} (h : a ≠ b) : (PH C Sg T).cmp .neq a b K = K true := by
  show K (a != b) = _; rw [bne_iff_ne.2 h]
theorem b_neq_f {a b : Int} {K : Bool → Prop} (h : a = b) : (PH C Sg T).cmp .neq a b K = K false := by
  show K (a != b) = _; subst h; simp
theorem b_add {a b : Int} {K : Int → Prop} (h1 : -9223372036854775808 ≤ a + b) (h2 : a + b ≤ 9223372036854775807) : (PH C Sg T).ari .add .i64 a b K = K (a + b) := by
  show K (IntKind.wrap .i64 (a + b)) = _; rw [wrap_i64 h1 h2]
theorem b_sub {a b : Int} {K : Int → Prop} (h1 : -9223372036854775808 ≤ a - b) (h2 : a - b ≤ 9223372036854775807) : (PH C Sg T).ari .sub .i64 a b K = K (a - b) := by
  show K (IntKind.wrap .i64 (a - b)) = _; rw [wrap_i64 h1 h2]
theorem b_mul {a b : Int} {K : Int → Prop} (h1 : -9223372036854775808 ≤ a * b) (h2 : a * b ≤ 9223372036854775807) : (PH C Sg T).ari .mul .i64 a b K = K (a * b) := by
  show K (IntKind.wrap .i64 (a * b)) = _; rw [wrap_i64 h1 h2]
theorem b_add8 {a b : Int} {K : Int → Prop} (h1 : 0 ≤ a + b) (h2 : a + b ≤ 255) : (PH C Sg T).ari .add .u8 a b K = K (a + b) := by
  show K (IntKind.wrap .u8 (a + b)) = _; rw [wrap_u8 h1 h2]
theorem b_sub8 {a b : Int} {K : Int → Prop} (h1 : 0 ≤ a - b) (h2 : a - b ≤ 255) : (PH C Sg T).ari .sub .u8 a b K = K (a - b) := by
  show K (IntKind.wrap .u8 (a - b)) = _; rw [wrap_u8 h1 h2]
theorem b_mul8 {a b : Int} {K : Int → Prop} (h1 : 0 ≤ a * b) (h2 : a * b ≤ 255) : (PH C Sg T).ari .mul .u8 a b K = K (a * b) := by
  show K (IntKind.wrap .u8 (a * b)) = _; rw [wrap_u8 h1 h2]
theorem tdiv_nn {a b : Int} (h : 0 ≤ a) : a.tdiv b = a / b := Int.tdiv_eq_ediv_of_nonneg h
theorem b_quo_nn {a b : Int} {K : Int → Prop} (h : 0 ≤ a) (hb : 0 < b) (h2 : a ≤ 9223372036854775807) : (PH C Sg T).ari .quo .i64 a b K = K (a / b) := by
  show (b ≠ 0 ∧ K (IntKind.wrap .i64 (a.tdiv b))) = _
  have h3 : a / b ≤ a := Int.ediv_le_self b h
  have h4 : 0 ≤ a / b := Int.ediv_nonneg h (by omega)
  rw [tdiv_nn h, wrap_i64 (by omega) (by omega)]
  simp; intro _ h; omega
theorem b_quo_ev {a : Int} {K : Int → Prop} (h : a % 2 = 0) (h1 : -9223372036854775808 ≤ a) (h2 : a ≤ 9223372036854775807) : (PH C Sg T).ari .quo .i64 a 2 K = K (a / 2) := by
  show ((2 : Int) ≠ 0 ∧ K (IntKind.wrap .i64 (a.tdiv 2))) = _
  rw [Int.tdiv_eq_ediv_of_dvd (Int.dvd_of_emod_eq_zero h), wrap_i64 (by omega) (by omega)]
  simp
theorem b_quo_dv {a b : Int} {K : Int → Prop} (h : a % b = 0) (hb : 0 < b) (h1 : -9223372036854775808 ≤ a) (h2 : a ≤ 9223372036854775807) : (PH C Sg T).ari .quo .i64 a b K = K (a / b) := by
  show (b ≠ 0 ∧ K (IntKind.wrap .i64 (a.tdiv b))) = _
  obtain ⟨q, rfl⟩ := Int.dvd_of_emod_eq_zero h
  rw [Int.mul_tdiv_cancel_left q (by omega), Int.mul_ediv_cancel_left q (by omega)]
  have hq : -9223372036854775808 ≤ q ∧ q ≤ 9223372036854775807 := by
    rcases Int.le_total 0 q with hs | hs
    · have := Int.mul_le_mul_of_nonneg_right (show (1 : Int) ≤ b by omega) hs
      omega
    · have := Int.mul_le_mul_of_nonneg_right (show (1 : Int) ≤ b by omega) (show 0 ≤ -q by omega)
      rw [Int.mul_neg b q] at this
      omega
  rw [wrap_i64 hq.1 hq.2]
  simp; intro _ h; omega
theorem b_rem_nn {k : IntKind} {a b : Int} {K : Int → Prop} (h : 0 ≤ a) (hb : 0 < b) : (PH C Sg T).ari .rem k a b K = K (a % b) := by
  show (b ≠ 0 ∧ K (a.tmod b)) = _
  rw [Int.tmod_eq_emod_of_nonneg h]
  simp; intro _ h; omega
theorem b_rem_np {k : IntKind} {a b : Int} {K : Int → Prop} (h : a ≤ 0) (hb : 0 < b) : (PH C Sg T).ari .rem k a b K = K (-((-a) % b)) := by
  show (b ≠ 0 ∧ K (a.tmod b)) = _
  have : a.tmod b = -((-a) % b) := by
    have h1 := Int.neg_tmod a b
    rw [Int.tmod_eq_emod_of_nonneg (a := -a) (by omega)] at h1
    omega
  rw [this]
  simp; intro _ h; omega
theorem b_and1 {a : Int} {K : Int → Prop} : (PH C Sg T).ari .and .i64 a 1 K = K (a % 2) := by
  show (((1 : Int) = 1 ∧ K (a % 2)) ∨ ((1 : Int) ≠ 1 ∧ ∃ n, ArRun .and .i64 a 1 n ∧ K n)) = K (a % 2)
  simp
theorem b_conv {a : Int} {K : Int → Prop} (h1 : -9223372036854775808 ≤ a) (h2 : a ≤ 9223372036854775807) : (PH C Sg T).conv .i64 a K = K a := by
  show K (IntKind.wrap .i64 a) = _; rw [wrap_i64 h1 h2]
theorem b_conv8 {a : Int} {K : Int → Prop} (h1 : 0 ≤ a) (h2 : a ≤ 255) : (PH C Sg T).conv .u8 a K = K a := by
  show K (IntKind.wrap .u8 a) = _; rw [wrap_u8 h1 h2]
theorem b_sel_t {a b : Int} {K : Int → Prop} : (PH C Sg T).sel true a b K = K a := rfl
theorem b_sel_f {a b : Int} {K : Int → Prop} : (PH C Sg T).sel false a b K = K b := rfl
theorem b_opt {α : Type} {x : α} {K : α → Prop} : (PH C Sg T).opt (some x) K = K x := by
  show (∃ y, some x = some y ∧ K y) = K x
  simp
theorem b_inB {n : Nat} {i : Int} {K : Unit → Prop} (h1 : 0 ≤ i) (h2 : i < (n : Int)) : (PH C Sg T).opt (inB n i) K = K () := by
  rw [show inB n i = some () from if_pos ⟨h1, h2⟩, b_opt]
theorem p_opt_eq {α : Type} {o : Option α} {x : α} {K : α → Prop} (h : o = some x) : (PH C Sg T).opt o K = K x := by
  rw [h, b_opt]
theorem b_join {b : List Lf → HL → Prop} {m : (List Lf → HL → Prop) → Prop} : (PH C Sg T).join b m = m b := rfl
theorem b_eqs0 {K : Bool → Prop} : (PH C Sg T).eqs [] K = K true := rfl
theorem b_eqs_t {a b : Int} {l : List (Lf × Lf)} {K : Bool → Prop} (h : a = b) : (PH C Sg T).eqs ((.i a, .i b) :: l) K = (PH C Sg T).eqs l K := by
  show K (eqAll _) = K (eqAll l)
  subst h
  simp [eqAll, eqLfD]
theorem b_eqs_f {a b : Int} {l : List (Lf × Lf)} {K : Bool → Prop} (h : a ≠ b) : (PH C Sg T).eqs ((.i a, .i b) :: l) K = K false := by
  show K (eqAll _) = K false
  have : (a == b) = false := beq_false_of_ne h
  simp [eqAll, eqLfD, this]
theorem p_loop {F : (List Lf → HL → Prop) → List Lf → HL → Prop} {ls : List Lf} {h : HL} (n : Nat) (hn : itH F n ls h) : (PH C Sg T).loop F ls h := ⟨n, hn⟩
theorem b_it {F : (List Lf → HL → Prop) → List Lf → HL → Prop} {n : Nat} {ls : List Lf} {h : HL} : itH F (n + 1) ls h = F (itH F n) ls h := rfl
theorem p_call {g : FuncId} {ls rs : List Lf} {h : HL} {K : List Lf → HL → Prop} (hc : ∀ H, CallL C Sg g ls H rs H) (hk : K rs h) : (PH C Sg T).call g ls h (@hid _ ⟨K⟩) := ⟨rs, h, hc _, hk⟩
theorem p_cond {b : Bool} {X Y : Prop} (h1 : b = true → X) (h2 : b = false → Y) : (PH C Sg T).cond b (@hid _ ⟨X⟩) (@hid _ ⟨Y⟩) := ⟨h1, h2⟩
/-- Truth values compared. -/
theorem b_eqsb_t {a b : Bool} {l : List (Lf × Lf)} {K : Bool → Prop} (h : a = b) : (PH C Sg T).eqs ((.b a, .b b) :: l) K = (PH C Sg T).eqs l K := by
  show K (eqAll _) = K (eqAll l)
  subst h
  simp [eqAll, eqLfD]
theorem b_eqsb_tf {l : List (Lf × Lf)} {K : Bool → Prop} : (PH C Sg T).eqs ((.b true, .b false) :: l) K = K false := rfl
theorem b_eqsb_ft {l : List (Lf × Lf)} {K : Bool → Prop} : (PH C Sg T).eqs ((.b false, .b true) :: l) K = K false := rfl
theorem b_mul_1 {b : Int} {K : Int → Prop} (h1 : -9223372036854775808 ≤ b) (h2 : b ≤ 9223372036854775807) : (PH C Sg T).ari .mul .i64 1 b K = K b := by
  show K (IntKind.wrap .i64 (1 * b)) = _; rw [Int.one_mul, wrap_i64 h1 h2]
theorem b_mul_0 {b : Int} {K : Int → Prop} : (PH C Sg T).ari .mul .i64 0 b K = K 0 := by
  show K (IntKind.wrap .i64 (0 * b)) = _; rw [Int.zero_mul]; rfl
theorem b_mul_m {b : Int} {K : Int → Prop} (h1 : -9223372036854775808 ≤ -b) (h2 : -b ≤ 9223372036854775807) : (PH C Sg T).ari .mul .i64 (-1) b K = K (-b) := by
  show K (IntKind.wrap .i64 (-1 * b)) = _
  have : (-1 * b : Int) = -b := by omega
  rw [this, wrap_i64 h1 h2]
theorem b_mul_r1 {b : Int} {K : Int → Prop} (h1 : -9223372036854775808 ≤ b) (h2 : b ≤ 9223372036854775807) : (PH C Sg T).ari .mul .i64 b 1 K = K b := by
  show K (IntKind.wrap .i64 (b * 1)) = _; rw [Int.mul_one, wrap_i64 h1 h2]
theorem b_mul_r0 {b : Int} {K : Int → Prop} : (PH C Sg T).ari .mul .i64 b 0 K = K 0 := by
  show K (IntKind.wrap .i64 (b * 0)) = _; rw [Int.mul_zero]; rfl
theorem b_mul_rm {b : Int} {K : Int → Prop} (h1 : -9223372036854775808 ≤ -b) (h2 : -b ≤ 9223372036854775807) : (PH C Sg T).ari .mul .i64 b (-1) K = K (-b) := by
  show K (IntKind.wrap .i64 (b * -1)) = _
  have : (b * -1 : Int) = -b := by omega
  rw [this, wrap_i64 h1 h2]
theorem b_add_0 {b : Int} {K : Int → Prop} (h1 : -9223372036854775808 ≤ b) (h2 : b ≤ 9223372036854775807) : (PH C Sg T).ari .add .i64 0 b K = K b := by
  show K (IntKind.wrap .i64 (0 + b)) = _; rw [Int.zero_add, wrap_i64 h1 h2]
theorem b_add_r0 {b : Int} {K : Int → Prop} (h1 : -9223372036854775808 ≤ b) (h2 : b ≤ 9223372036854775807) : (PH C Sg T).ari .add .i64 b 0 K = K b := by
  show K (IntKind.wrap .i64 (b + 0)) = _; rw [Int.add_zero, wrap_i64 h1 h2]
theorem b_add_11 {K : Int → Prop} : (PH C Sg T).ari .add .i64 1 1 K = K 2 := by
  show K (IntKind.wrap .i64 (1 + 1)) = _; rfl
theorem b_quo_1 {a : Int} {K : Int → Prop} (h1 : -9223372036854775808 ≤ a) (h2 : a ≤ 9223372036854775807) : (PH C Sg T).ari .quo .i64 a 1 K = K a := by
  show ((1 : Int) ≠ 0 ∧ K (IntKind.wrap .i64 (a.tdiv 1))) = _
  rw [Int.tdiv_one, wrap_i64 h1 h2]; simp
theorem p_ari_2 {op : BinOp} {k : IntKind} {a b b' : Int} {K : Int → Prop} (hb : b = b') (h : (PH C Sg T).ari op k a b' K) : (PH C Sg T).ari op k a b K := by rw [hb]; exact h
theorem p_opt_r {α : Type} {o : Option α} {x : α} {K : α → Prop} (h : o = some x) (hk : K x) : (PH C Sg T).opt o (@hid _ ⟨K⟩) := ⟨x, h, hk⟩
theorem pvx {vs : List Value} {base sz n : Nat} {i j : Int} {o : Option (List Value)} (h2 : pickV vs base [(j, sz)] n = o) (h : i = j) : pickV vs base [(i, sz)] n = o := by rw [h]; exact h2
theorem pvx2 {vs : List Value} {base sz sz' n : Nat} {i j i' j' : Int} {o : Option (List Value)} (h2 : pickV vs base [(j, sz), (j', sz')] n = o) (h : i = j) (h' : i' = j') : pickV vs base [(i, sz), (i', sz')] n = o := by rw [h, h']; exact h2
theorem plx {ls : List Lf} {base sz n : Nat} {i : Int} {o : Option (List Lf)} (j : Int) (h : i = j) (h2 : pickL ls base [(j, sz)] n = o) : pickL ls base [(i, sz)] n = o := by rw [h]; exact h2
theorem ptx {ls new : List Lf} {base sz : Nat} {i : Int} {o : Option (List Lf)} (j : Int) (h : i = j) (h2 : putL ls base [(j, sz)] new = o) : putL ls base [(i, sz)] new = o := by rw [h]; exact h2
/-! ### The same, with what comes behind put away -/
theorem p_unI {n : Int} {r : List Lf} {K : Int → List Lf → Prop} : (PH C Sg T).unI (.i n :: r) (@hid _ ⟨K⟩) = K n r := b_unI
theorem p_unB {n : Bool} {r : List Lf} {K : Bool → List Lf → Prop} : (PH C Sg T).unB (.b n :: r) (@hid _ ⟨K⟩) = K n r := b_unB
theorem p_unV {n : Value} {r : List Lf} {K : Value → List Lf → Prop} : (PH C Sg T).unV (.v n :: r) (@hid _ ⟨K⟩) = K n r := b_unV
theorem p_un0 {K : Prop} : (PH C Sg T).un0 [] (@hid _ ⟨K⟩) = K := b_un0
theorem p_ucI {k : IntKind} {n : Int} {r : List Value} {K : Int → List Value → Prop} : (PH C Sg T).ucI k (.int k n :: r) (@hid _ ⟨K⟩) = K n r := b_ucI
theorem p_ucB {n : Bool} {r : List Value} {K : Bool → List Value → Prop} : (PH C Sg T).ucB (.bool n :: r) (@hid _ ⟨K⟩) = K n r := b_ucB
theorem p_ucV {n : Value} {r : List Value} {K : Value → List Value → Prop} : (PH C Sg T).ucV (n :: r) (@hid _ ⟨K⟩) = K n r := b_ucV
theorem p_uc0 {K : Prop} : (PH C Sg T).uc0 [] (@hid _ ⟨K⟩) = K := b_uc0
theorem p_cond_t {X Y : Prop} : (PH C Sg T).cond true (@hid _ ⟨X⟩) Y = X := b_cond_t
theorem p_cond_f {X Y : Prop} : (PH C Sg T).cond false X (@hid _ ⟨Y⟩) = Y := b_cond_f
theorem p_lss_t {a b : Int} {K : Bool → Prop} (h : a < b) : (PH C Sg T).cmp .lss a b (@hid _ ⟨K⟩) = K true := b_lss_t h
theorem p_lss_f {a b : Int} {K : Bool → Prop} (h : b ≤ a) : (PH C Sg T).cmp .lss a b (@hid _ ⟨K⟩) = K false := b_lss_f h
theorem p_leq_t {a b : Int} {K : Bool → Prop} (h : a ≤ b) : (PH C Sg T).cmp .leq a b (@hid _ ⟨K⟩) = K true := b_leq_t h
theorem p_leq_f {a b : Int} {K : Bool → Prop} (h : b < a) : (PH C Sg T).cmp .leq a b (@hid _ ⟨K⟩) = K false := b_leq_f h
theorem p_gtr_t {a b : Int} {K : Bool → Prop} (h : b < a) : (PH C Sg T).cmp .gtr a b (@hid _ ⟨K⟩) = K true := b_gtr_t h
theorem p_gtr_f {a b : Int} {K : Bool → Prop} (h : a ≤ b) : (PH C Sg T).cmp .gtr a b (@hid _ ⟨K⟩) = K false := b_gtr_f h
theorem p_geq_t {a b : Int} {K : Bool → Prop} (h : b ≤ a) : (PH C Sg T).cmp .geq a b (@hid _ ⟨K⟩) = K true := b_geq_t h
theorem p_geq_f {a b : Int} {K : Bool → Prop} (h : a < b) : (PH C Sg T).cmp .geq a b (@hid _ ⟨K⟩) = K false := b_geq_f h
theorem p_eql_t {a b : Int} {K : Bool → Prop} (h : a = b) : (PH C Sg T).cmp .eql a b (@hid _ ⟨K⟩) = K true := b_eql_t h
theorem p_eql_f {a b : Int} {K : Bool → Prop} (h : a ≠ b) : (PH C Sg T).cmp .eql a b (@hid _ ⟨K⟩) = K false := b_eql_f h
theorem p_neq_t {a b : Int} {K : Bool → Prop} (h : a ≠ b) : (PH C Sg T).cmp .neq a b (@hid _ ⟨K⟩) = K true := b_neq_t h
theorem p_neq_f {a b : Int} {K : Bool → Prop} (h : a = b) : (PH C Sg T).cmp .neq a b (@hid _ ⟨K⟩) = K false := b_neq_f h
theorem p_add {a b : Int} {K : Int → Prop} (h1 : -9223372036854775808 ≤ a + b) (h2 : a + b ≤ 9223372036854775807) : (PH C Sg T).ari .add .i64 a b (@hid _ ⟨K⟩) = K (a + b) := b_add h1 h2
theorem p_sub {a b : Int} {K : Int → Prop} (h1 : -9223372036854775808 ≤ a - b) (h2 : a - b ≤ 9223372036854775807) : (PH C Sg T).ari .sub .i64 a b (@hid _ ⟨K⟩) = K (a - b) := b_sub h1 h2
theorem p_mul {a b : Int} {K : Int → Prop} (h1 : -9223372036854775808 ≤ a * b) (h2 : a * b ≤ 9223372036854775807) : (PH C Sg T).ari .mul .i64 a b (@hid _ ⟨K⟩) = K (a * b) := b_mul h1 h2
theorem p_add8 {a b : Int} {K : Int → Prop} (h1 : 0 ≤ a + b) (h2 : a + b ≤ 255) : (PH C Sg T).ari .add .u8 a b (@hid _ ⟨K⟩) = K (a + b) := b_add8 h1 h2
theorem p_sub8 {a b : Int} {K : Int → Prop} (h1 : 0 ≤ a - b) (h2 : a - b ≤ 255) : (PH C Sg T).ari .sub .u8 a b (@hid _ ⟨K⟩) = K (a - b) := b_sub8 h1 h2
theorem p_mul8 {a b : Int} {K : Int → Prop} (h1 : 0 ≤ a * b) (h2 : a * b ≤ 255) : (PH C Sg T).ari .mul .u8 a b (@hid _ ⟨K⟩) = K (a * b) := b_mul8 h1 h2
theorem p_quo_nn {a b : Int} {K : Int → Prop} (h : 0 ≤ a) (hb : 0 < b) (h2 : a ≤ 9223372036854775807) : (PH C Sg T).ari .quo .i64 a b (@hid _ ⟨K⟩) = K (a / b) := b_quo_nn h hb h2
theorem p_quo_ev {a : Int} {K : Int → Prop} (h : a % 2 = 0) (h1 : -9223372036854775808 ≤ a) (h2 : a ≤ 9223372036854775807) : (PH C Sg T).ari .quo .i64 a 2 (@hid _ ⟨K⟩) = K (a / 2) := b_quo_ev h h1 h2
theorem p_quo_dv {a b : Int} {K : Int → Prop} (h : a % b = 0) (hb : 0 < b) (h1 : -9223372036854775808 ≤ a) (h2 : a ≤ 9223372036854775807) : (PH C Sg T).ari .quo .i64 a b (@hid _ ⟨K⟩) = K (a / b) := b_quo_dv h hb h1 h2
theorem p_rem_nn {k : IntKind} {a b : Int} {K : Int → Prop} (h : 0 ≤ a) (hb : 0 < b) : (PH C Sg T).ari .rem k a b (@hid _ ⟨K⟩) = K (a % b) := b_rem_nn h hb
theorem p_rem_np {k : IntKind} {a b : Int} {K : Int → Prop} (h : a ≤ 0) (hb : 0 < b) : (PH C Sg T).ari .rem k a b (@hid _ ⟨K⟩) = K (-((-a) % b)) := b_rem_np h hb
theorem p_and1 {a : Int} {K : Int → Prop} : (PH C Sg T).ari .and .i64 a 1 (@hid _ ⟨K⟩) = K (a % 2) := b_and1
theorem p_conv {a : Int} {K : Int → Prop} (h1 : -9223372036854775808 ≤ a) (h2 : a ≤ 9223372036854775807) : (PH C Sg T).conv .i64 a (@hid _ ⟨K⟩) = K a := b_conv h1 h2
theorem p_conv8 {a : Int} {K : Int → Prop} (h1 : 0 ≤ a) (h2 : a ≤ 255) : (PH C Sg T).conv .u8 a (@hid _ ⟨K⟩) = K a := b_conv8 h1 h2
theorem p_sel_t {a b : Int} {K : Int → Prop} : (PH C Sg T).sel true a b (@hid _ ⟨K⟩) = K a := b_sel_t
theorem p_sel_f {a b : Int} {K : Int → Prop} : (PH C Sg T).sel false a b (@hid _ ⟨K⟩) = K b := b_sel_f
theorem p_opt {α : Type} {x : α} {K : α → Prop} : (PH C Sg T).opt (some x) (@hid _ ⟨K⟩) = K x := b_opt
theorem p_inB {n : Nat} {i : Int} {K : Unit → Prop} (h1 : 0 ≤ i) (h2 : i < (n : Int)) : (PH C Sg T).opt (inB n i) (@hid _ ⟨K⟩) = K () := b_inB h1 h2
theorem p_join {b : List Lf → HL → Prop} {m : (List Lf → HL → Prop) → Prop} : (PH C Sg T).join (@hid _ ⟨b⟩) (@hid _ ⟨m⟩) = m (@hid _ ⟨b⟩) := b_join
theorem p_eqs0 {K : Bool → Prop} : (PH C Sg T).eqs [] (@hid _ ⟨K⟩) = K true := b_eqs0
theorem p_eqs_t {a b : Int} {l : List (Lf × Lf)} {K : Bool → Prop} (h : a = b) : (PH C Sg T).eqs ((.i a, .i b) :: l) (@hid _ ⟨K⟩) = (PH C Sg T).eqs l (@hid _ ⟨K⟩) := b_eqs_t h
theorem p_eqs_f {a b : Int} {l : List (Lf × Lf)} {K : Bool → Prop} (h : a ≠ b) : (PH C Sg T).eqs ((.i a, .i b) :: l) (@hid _ ⟨K⟩) = K false := b_eqs_f h
theorem p_it {F : (List Lf → HL → Prop) → List Lf → HL → Prop} {n : Nat} {ls : List Lf} {h : HL} : itH (@hid _ ⟨F⟩) (n + 1) ls h = F (itH (@hid _ ⟨F⟩) n) ls h := b_it
theorem p_eqsb_t {a b : Bool} {l : List (Lf × Lf)} {K : Bool → Prop} (h : a = b) : (PH C Sg T).eqs ((.b a, .b b) :: l) (@hid _ ⟨K⟩) = (PH C Sg T).eqs l (@hid _ ⟨K⟩) := b_eqsb_t h
theorem p_eqsb_tf {l : List (Lf × Lf)} {K : Bool → Prop} : (PH C Sg T).eqs ((.b true, .b false) :: l) (@hid _ ⟨K⟩) = K false := b_eqsb_tf
theorem p_eqsb_ft {l : List (Lf × Lf)} {K : Bool → Prop} : (PH C Sg T).eqs ((.b false, .b true) :: l) (@hid _ ⟨K⟩) = K false := b_eqsb_ft
theorem p_mul_1 {b : Int} {K : Int → Prop} (h1 : -9223372036854775808 ≤ b) (h2 : b ≤ 9223372036854775807) : (PH C Sg T).ari .mul .i64 1 b (@hid _ ⟨K⟩) = K b := b_mul_1 h1 h2
theorem p_mul_0 {b : Int} {K : Int → Prop} : (PH C Sg T).ari .mul .i64 0 b (@hid _ ⟨K⟩) = K 0 := b_mul_0
theorem p_mul_m {b : Int} {K : Int → Prop} (h1 : -9223372036854775808 ≤ -b) (h2 : -b ≤ 9223372036854775807) : (PH C Sg T).ari .mul .i64 (-1) b (@hid _ ⟨K⟩) = K (-b) := b_mul_m h1 h2
theorem p_mul_r1 {b : Int} {K : Int → Prop} (h1 : -9223372036854775808 ≤ b) (h2 : b ≤ 9223372036854775807) : (PH C Sg T).ari .mul .i64 b 1 (@hid _ ⟨K⟩) = K b := b_mul_r1 h1 h2
theorem p_mul_r0 {b : Int} {K : Int → Prop} : (PH C Sg T).ari .mul .i64 b 0 (@hid _ ⟨K⟩) = K 0 := b_mul_r0
theorem p_mul_rm {b : Int} {K : Int → Prop} (h1 : -9223372036854775808 ≤ -b) (h2 : -b ≤ 9223372036854775807) : (PH C Sg T).ari .mul .i64 b (-1) (@hid _ ⟨K⟩) = K (-b) := b_mul_rm h1 h2
theorem p_add_0 {b : Int} {K : Int → Prop} (h1 : -9223372036854775808 ≤ b) (h2 : b ≤ 9223372036854775807) : (PH C Sg T).ari .add .i64 0 b (@hid _ ⟨K⟩) = K b := b_add_0 h1 h2
theorem p_add_r0 {b : Int} {K : Int → Prop} (h1 : -9223372036854775808 ≤ b) (h2 : b ≤ 9223372036854775807) : (PH C Sg T).ari .add .i64 b 0 (@hid _ ⟨K⟩) = K b := b_add_r0 h1 h2
theorem p_add_11 {K : Int → Prop} : (PH C Sg T).ari .add .i64 1 1 (@hid _ ⟨K⟩) = K 2 := b_add_11
theorem p_quo_1 {a : Int} {K : Int → Prop} (h1 : -9223372036854775808 ≤ a) (h2 : a ≤ 9223372036854775807) : (PH C Sg T).ari .quo .i64 a 1 (@hid _ ⟨K⟩) = K a := b_quo_1 h1 h2
theorem p_hid2 {f : List Lf → HL → Prop} {a : List Lf} {b : HL} : @hid _ ⟨f⟩ a b = f a b := rfl
theorem p_eqs2_f {a b c d : Int} {K : Bool → Prop} (h : ¬ (a = c ∧ b = d)) : (PH C Sg T).eqs [(.i a, .i c), (.i b, .i d)] (@hid _ ⟨K⟩) = K false := by
  show K (eqAll _) = K false
  have : eqAll [(.i a, .i c), (.i b, .i d)] = false := by
    rw [Bool.eq_false_iff]
    simpa [eqAll, eqLfD] using h
  rw [this]
theorem p_eqs3_f {a b c d e f : Int} {K : Bool → Prop} (h : ¬ (a = d ∧ b = e ∧ c = f)) : (PH C Sg T).eqs [(.i a, .i d), (.i b, .i e), (.i c, .i f)] (@hid _ ⟨K⟩) = K false := by
  show K (eqAll _) = K false
  have : eqAll [(.i a, .i d), (.i b, .i e), (.i c, .i f)] = false := by
    rw [Bool.eq_false_iff]
    simpa [eqAll, eqLfD] using h
  rw [this]
theorem p_callH {g : FuncId} {ls rs : List Lf} {h h' : HL} {K : List Lf → HL → Prop} (hc : CallL C Sg g ls (absH T h) rs (absH T h')) (hk : K rs h') : (PH C Sg T).call g ls h (@hid _ ⟨K⟩) := ⟨rs, h', hc, hk⟩
theorem p_callE {g : FuncId} {ls : List Lf} {h : HL} {P : Int → Prop} {K : List Lf → HL → Prop} (hc : ∃ r, P r ∧ ∀ H, CallL C Sg g ls H [.i r] H) (hk : ∀ r, P r → K [.i r] h) : (PH C Sg T).call g ls h (@hid _ ⟨K⟩) := by
  obtain ⟨r, h1, h2⟩ := hc
  exact ⟨_, h, h2 _, hk r h1⟩
theorem callv_ct {g : FuncId} {sg : Sig} {ls rs : List Lf} {H H' : List HObj} (hc : CallL C Sg g ls H rs H') (hs : Sg g = some sg) (xs : List S0) (h1 : areIs xs sg.ps = true) (h2 : lfsOf xs = ls) :
    CallV C (.func (.func g) #[] #[]) (valsOf xs) sg.rs H rs H' := by
  obtain ⟨sg', xs', ys, c1, c2, c3, c4⟩ := hc
  rw [hs] at c1
  cases c1
  obtain ⟨w1, _⟩ := areIs_val c2.1 h1 (c2.2.1.trans h2.symm)
  rw [w1] at c4
  exact ⟨ys, c3, .inl ⟨g, #[], #[], rfl, by simpa using c4⟩⟩
theorem p_callv {v : Value} {args : List Value} {hs : List SK} {rs : List Lf} {h h' : HL} {K : List Lf → HL → Prop} (hc : CallV C v args hs (absH T h) rs (absH T h')) (hk : K rs h') : (PH C Sg T).callv v args hs h (@hid _ ⟨K⟩) := ⟨rs, h', hc, hk⟩
theorem p_new {o : HObj} {h : HL} {K : Nat → HL → Prop} : (PH C Sg T).new o h (@hid _ ⟨K⟩) = K h.length (h ++ [.o o]) := rfl
theorem p_chk_r {v : Value} {K : Prop} (h : goodV v = true) (hk : K) : (PH C Sg T).chk v (@hid _ ⟨K⟩) := ⟨h, hk⟩
theorem p_heap_r {f : Getter → Nat → Option (List Act1 × List Value)} {h : HL} {K : List Value → HL → Prop} {acts : List Act1} {cs : List Value} (e : f (getH T h) h.length = some (acts, cs)) (hk : K cs (actsOnH h acts)) : (PH C Sg T).heap f h (@hid _ ⟨K⟩) := ⟨acts, cs, e, hk⟩
theorem p_peek_r {f : Getter → Option (List Value)} {h : HL} {K : List Value → Prop} {cs : List Value} (e : f (getH T h) = some cs) (hk : K cs) : (PH C Sg T).peek f h (@hid _ ⟨K⟩) := ⟨cs, e, hk⟩
/-- Rules in one. -/
def pxs (C : Cfg) (Sg : FuncId → Option Sig) (T : Nat → Site) := And.intro @p_hid2 (And.intro (@p_new _ _ C Sg T) (And.intro (@p_unI _ _ C Sg T) (And.intro (@p_unB _ _ C Sg T) (And.intro (@p_unV _ _ C Sg T) (And.intro (@p_un0 _ _ C Sg T) (And.intro (@p_ucI _ _ C Sg T) (And.intro (@p_ucB _ _ C Sg T) (And.intro (@p_ucV _ _ C Sg T) (And.intro (@p_uc0 _ _ C Sg T) (And.intro (@p_cond_t _ _ C Sg T) (And.intro (@p_cond_f _ _ C Sg T) (And.intro (@p_opt _ _ C Sg T) (And.intro (@p_inB _ _ C Sg T) (And.intro (@p_join _ _ C Sg T) (And.intro (@p_sel_t _ _ C Sg T) (And.intro (@p_sel_f _ _ C Sg T) ((@p_it))))))))))))))))))
/-- Rules in one. -/
def pxc (C : Cfg) (Sg : FuncId → Option Sig) (T : Nat → Site) := And.intro (@p_lss_t _ _ C Sg T) (And.intro (@p_lss_f _ _ C Sg T) (And.intro (@p_leq_t _ _ C Sg T) (And.intro (@p_leq_f _ _ C Sg T) (And.intro (@p_gtr_t _ _ C Sg T) (And.intro (@p_gtr_f _ _ C Sg T) (And.intro (@p_geq_t _ _ C Sg T) (And.intro (@p_geq_f _ _ C Sg T) (And.intro (@p_eql_t _ _ C Sg T) (And.intro (@p_eql_f _ _ C Sg T) (And.intro (@p_neq_t _ _ C Sg T) (And.intro (@p_neq_f _ _ C Sg T) (And.intro (@p_eqs0 _ _ C Sg T) (And.intro (@p_eqs_t _ _ C Sg T) (And.intro (@p_eqs_f _ _ C Sg T) (And.intro (@p_eqs2_f _ _ C Sg T) (And.intro (@p_eqs3_f _ _ C Sg T) (And.intro (@p_eqsb_t _ _ C Sg T) (And.intro (@p_eqsb_tf _ _ C Sg T) ((@p_eqsb_ft _ _ C Sg T))))))))))))))))))))
/-- Rules in one. -/
def pxa (C : Cfg) (Sg : FuncId → Option Sig) (T : Nat → Site) := And.intro (@p_mul_1 _ _ C Sg T) (And.intro (@p_mul_0 _ _ C Sg T) (And.intro (@p_mul_m _ _ C Sg T) (And.intro (@p_mul_r1 _ _ C Sg T) (And.intro (@p_mul_r0 _ _ C Sg T) (And.intro (@p_mul_rm _ _ C Sg T) (And.intro (@p_add_0 _ _ C Sg T) (And.intro (@p_add_r0 _ _ C Sg T) (And.intro (@p_add_11 _ _ C Sg T) (And.intro (@p_quo_1 _ _ C Sg T) (And.intro (@p_add _ _ C Sg T) (And.intro (@p_sub _ _ C Sg T) (And.intro (@p_mul _ _ C Sg T) (And.intro (@p_add8 _ _ C Sg T) (And.intro (@p_sub8 _ _ C Sg T) (And.intro (@p_mul8 _ _ C Sg T) (And.intro (@p_quo_nn _ _ C Sg T) (And.intro (@p_quo_dv _ _ C Sg T) (And.intro (@p_rem_nn _ _ C Sg T) (And.intro (@p_rem_np _ _ C Sg T) (And.intro (@p_and1 _ _ C Sg T) (And.intro (@p_conv _ _ C Sg T) ((@p_conv8 _ _ C Sg T)))))))))))))))))))))))
end
end Sx
end Go.Am

/-
  THE SEAT'S CALLS: what is known of them, and how it is shown (over the heaps of runs).
-/
set_option maxRecDepth 100000
namespace Go.Am
open Sx Go.Proofs

instance val0 : Val := ⟨fun _ => 0⟩
noncomputable instance kno0 : Kno := KnoC cc
theorem mixed : cc.P.follows .mixedOrders = true := by kernel_rfl
theorem gl_flat (g : Nat) (vs : List Value) (h : cc.G g = some vs) : vs.all flat = true := by
  unfold cc at h
  simp only at h
  split at h <;> first | (cases h; done) | (obtain rfl := Option.some.inj h; kernel_rfl)
theorem gl_cell (g : Nat) (vs : List Value) (h : cc.G g = some vs) : vs.all cellOk = true := by
  unfold cc at h
  simp only at h
  split at h <;> first | (cases h; done) | (obtain rfl := Option.some.inj h; kernel_rfl)
noncomputable abbrev P1 : Alg Prop HL := PH cc sgTab siteTab
/-- It answers so, and leaves nothing behind. -/
abbrev Cc (g : FuncId) (ls rs : List Lf) : Prop := ∀ H, CallL cc sgTab g ls H rs H

theorem fn_ok {f : FuncId} {fn : Fn1} (hi : FnIs (xc f) sgTab f fn) {ls : List Lf} {H : HL} {K : List Lf → HL → Prop} (hls : goodLs ls = true)
    (h : execF P1 (xc f) sgTab drN fn ls H K) : ∃ rs H', CallL cc sgTab f ls (absH siteTab H) rs (absH siteTab H') ∧ K rs H' := by
  obtain ⟨rs, h', a1, _, a3⟩ := execF_ok (X := xc f) (holds := id) (abs := absH siteTab) (PH_ok cc sgTab siteTab) (fun pts ops h n σ σ' hx => dr_ok neuN_ok pts ops h n σ σ' hx) hi (goodLs_ok hls) h
  exact ⟨rs, h', a1, a3⟩
/-- The rules, here. -/
def qxs := pxs cc sgTab siteTab
/-- The rules, here. -/
def qxc := pxc cc sgTab siteTab
/-- The rules, here. -/
def qxa := pxa cc sgTab siteTab
end Go.Am

/-
  THE FUNCTIONS OVER THE ALGEBRA OF PROPOSITIONS, BY PROGRAM.
-/
set_option maxRecDepth 100000
namespace Go.Am
open Sx Go.Proofs

/-- crimp/crimplaw05.SheetsCheck -/
def p6 (A : Alg Prop (HL)) (ls : List Lf) (h : HL) (K : List Lf → HL → Prop) : Prop := A.unI ls (@hid _ ⟨fun n6 l7 => A.unI l7 (@hid _ ⟨fun n8 l9 => A.unI l9 (@hid _ ⟨fun n10 l11 => A.un0 l11 (@hid _ ⟨A.call 32 [(.i n6), (.i n8)] h (@hid _ ⟨fun l12 h13 => A.unI l12 (@hid _ ⟨fun n14 l15 => A.un0 l15 (@hid _ ⟨A.cmp .eql n14 1 (@hid _ ⟨fun t16 => A.call 33 [(.i n6), (.i n8)] h13 (@hid _ ⟨fun l17 h18 => A.unI l17 (@hid _ ⟨fun n19 l20 => A.un0 l20 (@hid _ ⟨A.cmp .eql n19 0 (@hid _ ⟨fun t21 => A.eqs [((.b t21), (.b t16))] (@hid _ ⟨fun t22 => A.cond (!t22) (@hid _ ⟨K [(.b false)] h18⟩) (@hid _ ⟨A.cond t16 (@hid _ ⟨A.join (@hid _ ⟨fun l23 h24 => A.unB l23 (@hid _ ⟨fun t25 l26 => A.un0 l26 (@hid _ ⟨K [(.b t25)] h24⟩)⟩)⟩) (@hid _ ⟨fun j27 => A.call 34 [(.i n6), (.i n8)] h18 (@hid _ ⟨fun l28 h29 => A.unI l28 (@hid _ ⟨fun n30 l31 => A.un0 l31 (@hid _ ⟨A.ari .mul .i64 4 n6 (@hid _ ⟨fun n32 => A.ari .mul .i64 n32 n8 (@hid _ ⟨fun n33 => A.cmp .eql n30 n33 (@hid _ ⟨fun t34 => A.cond t34 (@hid _ ⟨A.call 21 [] h29 (@hid _ ⟨fun l35 h36 => A.unB l35 (@hid _ ⟨fun t37 l38 => A.un0 l38 (@hid _ ⟨j27 [(.b t37)] h36⟩)⟩)⟩)⟩) (@hid _ ⟨j27 [(.b false)] h29⟩)⟩)⟩)⟩)⟩)⟩)⟩)⟩)⟩) (@hid _ ⟨A.call 35 [(.i n6), (.i n8), (.i n10)] h18 (@hid _ ⟨fun l39 h40 => A.unI l39 (@hid _ ⟨fun n41 l42 => A.unI l42 (@hid _ ⟨fun n43 l44 => A.unI l44 (@hid _ ⟨fun n45 l46 => A.unI l46 (@hid _ ⟨fun n47 l48 => A.un0 l48 (@hid _ ⟨A.call 36 [(.i n6), (.i n8), (.i 0), (.i 0), (.i 0)] h40 (@hid _ ⟨fun l49 h50 => A.unI l49 (@hid _ ⟨fun n51 l52 => A.unI l52 (@hid _ ⟨fun n53 l54 => A.un0 l54 (@hid _ ⟨A.call 18 [(.i n6), (.i n8), (.i n10), (.i 0)] h50 (@hid _ ⟨fun l55 h56 => A.unI l55 (@hid _ ⟨fun n57 l58 => A.unI l58 (@hid _ ⟨fun n59 l60 => A.un0 l60 (@hid _ ⟨A.call 19 [(.i n6), (.i n8), (.i n10), (.i 9)] h56 (@hid _ ⟨fun l61 h62 => A.unI l61 (@hid _ ⟨fun n63 l64 => A.unI l64 (@hid _ ⟨fun n65 l66 => A.unI l66 (@hid _ ⟨fun n67 l68 => A.un0 l68 (@hid _ ⟨A.call 23 [(.i n6), (.i n8)] h62 (@hid _ ⟨fun l69 h70 => A.unV l69 (@hid _ ⟨fun x71 l72 => A.unI l72 (@hid _ ⟨fun n73 l74 => A.un0 l74 (@hid _ ⟨A.call 26 [(.i n6), (.i n8), (.i 0), (.i 0)] h70 (@hid _ ⟨fun l75 h76 => A.unI l75 (@hid _ ⟨fun n77 l78 => A.unI l78 (@hid _ ⟨fun n79 l80 => A.unI l80 (@hid _ ⟨fun n81 l82 => A.un0 l82 (@hid _ ⟨A.call 25 [(.i n6), (.i n8), (.i 0), (.i 0)] h76 (@hid _ ⟨fun l83 h84 => A.unI l83 (@hid _ ⟨fun n85 l86 => A.unI l86 (@hid _ ⟨fun n87 l88 => A.unI l88 (@hid _ ⟨fun n89 l90 => A.unI l90 (@hid _ ⟨fun n91 l92 => A.unI l92 (@hid _ ⟨fun n93 l94 => A.un0 l94 (@hid _ ⟨A.call 29 [(.i n6), (.i n8)] h84 (@hid _ ⟨fun l95 h96 => A.unV l95 (@hid _ ⟨fun x97 l98 => A.unI l98 (@hid _ ⟨fun n99 l100 => A.un0 l100 (@hid _ ⟨A.call 37 [(.i n6), (.i n8)] h96 (@hid _ ⟨fun l101 h102 => A.unV l101 (@hid _ ⟨fun x103 l104 => A.unI l104 (@hid _ ⟨fun n105 l106 => A.un0 l106 (@hid _ ⟨A.call 33 [(.i n6), (.i n8)] h102 (@hid _ ⟨fun l107 h108 => A.unI l107 (@hid _ ⟨fun n109 l110 => A.un0 l110 (@hid _ ⟨A.new (.cells [(.int .i64 n109), (.int .i64 n47), (.int .i64 n53), (.int .i64 n59), (.int .i64 n67), (.int .i64 n73), (.int .i64 n81), (.int .i64 n93), (.int .i64 n99), (.int .i64 n105)] 1 true) h108 (@hid _ ⟨fun m111 h112 => A.loop (@hid _ ⟨fun s113 l114 h115 => A.unI l114 (@hid _ ⟨fun n116 l117 => A.un0 l117 (@hid _ ⟨A.opt (lenS (.slice (some ⟨m111, 0, (some 11)⟩) 10 11)) (@hid _ ⟨fun x118 => A.cmp .lss n116 x118 (@hid _ ⟨fun t119 => A.cond t119 (@hid _ ⟨A.opt (idS 1 (.slice (some ⟨m111, 0, (some 11)⟩) 10 11) n116) (@hid _ ⟨fun x120 => A.peek (ldP 1 x120) h115 (@hid _ ⟨fun l121 => A.ucI .i64 l121 (@hid _ ⟨fun n122 l123 => A.uc0 l123 (@hid _ ⟨A.cmp .neq n122 1 (@hid _ ⟨fun t124 => A.cond t124 (@hid _ ⟨K [(.b false)] h115⟩) (@hid _ ⟨A.ari .add .i64 n116 1 (@hid _ ⟨fun n125 => s113 [(.i n125)] h115⟩)⟩)⟩)⟩)⟩)⟩)⟩)⟩) (@hid _ ⟨A.join (@hid _ ⟨fun l126 h127 => A.unB l126 (@hid _ ⟨fun t128 l129 => A.un0 l129 (@hid _ ⟨K [(.b t128)] h127⟩)⟩)⟩) (@hid _ ⟨fun j130 => A.call 34 [(.i n6), (.i n8)] h115 (@hid _ ⟨fun l131 h132 => A.unI l131 (@hid _ ⟨fun n133 l134 => A.un0 l134 (@hid _ ⟨A.cmp .eql n133 0 (@hid _ ⟨fun t135 => A.cond t135 (@hid _ ⟨A.call 21 [] h132 (@hid _ ⟨fun l136 h137 => A.unB l136 (@hid _ ⟨fun t138 l139 => A.un0 l139 (@hid _ ⟨j130 [(.b t138)] h137⟩)⟩)⟩)⟩) (@hid _ ⟨j130 [(.b false)] h132⟩)⟩)⟩)⟩)⟩)⟩)⟩)⟩)⟩)⟩)⟩)⟩) [(.i 0)] h112⟩)⟩)⟩)⟩)⟩)⟩)⟩)⟩)⟩)⟩)⟩)⟩)⟩)⟩)⟩)⟩)⟩)⟩)⟩)⟩)⟩)⟩)⟩)⟩)⟩)⟩)⟩)⟩)⟩)⟩)⟩)⟩)⟩)⟩)⟩)⟩)⟩)⟩)⟩)⟩)⟩)⟩)⟩)⟩)⟩)⟩)⟩)⟩)⟩)⟩)⟩)⟩)⟩)⟩)⟩)⟩)⟩)⟩)⟩)⟩)⟩)⟩)
theorem g6 : (fun A : Alg Prop (HL) => p6 A) = fun A => f6 A := by kernel_rfl
theorem h6 (ls : List Lf) (H : HL) (K : List Lf → HL → Prop) : p6 P1 ls H K = execF P1 (xc 6) sgTab drN n6 ls H K :=
  congrFun (congrFun (congrFun ((congrFun g6 P1).trans (congrFun (congrFun (congrFun e6 Prop) (HL)) P1)) ls) H) K
theorem u6 {ls : List Lf} {H : HL} {K : List Lf → HL → Prop} (hls : goodLs ls = true) (h : p6 P1 ls H K) : ∃ rs H', CallL cc sgTab 6 ls (absH siteTab H) rs (absH siteTab H') ∧ K rs H' :=
  fn_ok i6 hls (h6 ls H K ▸ h)
theorem q6 {ls rs : List Lf} (hls : goodLs ls = true) (h : p6 P1 ls [] fun rs' _ => rs' = rs) : Cc 6 ls rs := by
  obtain ⟨_, _, h1, rfl⟩ := u6 hls h
  exact ct_of mixed gl_flat (sg := ⟨[.agg [.i .i64, .i .i64], li], [lb]⟩) rfl (by kernel_rfl) h1
/-- (crimp/crimplaw05.W).Of -/
def p17 (A : Alg Prop (HL)) (ls : List Lf) (h : HL) (K : List Lf → HL → Prop) : Prop := A.unI ls (@hid _ ⟨fun n6 l7 => A.unI l7 (@hid _ ⟨fun n8 l9 => A.un0 l9 (@hid _ ⟨A.ari .rem .u8 n6 5 (@hid _ ⟨fun n10 => A.conv .i64 n10 (@hid _ ⟨fun n11 => A.ari .add .i64 1 n11 (@hid _ ⟨fun n12 => A.ari .rem .u8 n8 5 (@hid _ ⟨fun n13 => A.conv .i64 n13 (@hid _ ⟨fun n14 => A.ari .add .i64 1 n14 (@hid _ ⟨fun n15 => K [(.i n12), (.i n15)] h⟩)⟩)⟩)⟩)⟩)⟩)⟩)⟩)⟩)
theorem g17 : (fun A : Alg Prop (HL) => p17 A) = fun A => f17 A := by kernel_rfl
theorem h17 (ls : List Lf) (H : HL) (K : List Lf → HL → Prop) : p17 P1 ls H K = execF P1 (xc 17) sgTab drN n17 ls H K :=
  congrFun (congrFun (congrFun ((congrFun g17 P1).trans (congrFun (congrFun (congrFun e17 Prop) (HL)) P1)) ls) H) K
theorem u17 {ls : List Lf} {H : HL} {K : List Lf → HL → Prop} (hls : goodLs ls = true) (h : p17 P1 ls H K) : ∃ rs H', CallL cc sgTab 17 ls (absH siteTab H) rs (absH siteTab H') ∧ K rs H' :=
  fn_ok i17 hls (h17 ls H K ▸ h)
theorem q17 {ls rs : List Lf} (hls : goodLs ls = true) (h : p17 P1 ls [] fun rs' _ => rs' = rs) : Cc 17 ls rs := by
  obtain ⟨_, _, h1, rfl⟩ := u17 hls h
  exact ct_of mixed gl_flat (sg := ⟨[.agg [.i .u8, .i .u8]], [.agg [.i .i64, .i .i64]]⟩) rfl (by kernel_rfl) h1
/-- crimp/sheets.Neighbour -/
def p18 (A : Alg Prop (HL)) (ls : List Lf) (h : HL) (K : List Lf → HL → Prop) : Prop := A.unI ls (@hid _ ⟨fun n6 l7 => A.unI l7 (@hid _ ⟨fun n8 l9 => A.unI l9 (@hid _ ⟨fun n10 l11 => A.unI l11 (@hid _ ⟨fun n12 l13 => A.un0 l13 (@hid _ ⟨A.call 35 [(.i n6), (.i n8), (.i n10)] h (@hid _ ⟨fun l14 h15 => A.unI l14 (@hid _ ⟨fun n16 l17 => A.unI l17 (@hid _ ⟨fun n18 l19 => A.unI l19 (@hid _ ⟨fun n20 l21 => A.unI l21 (@hid _ ⟨fun n22 l23 => A.un0 l23 (@hid _ ⟨A.cmp .neq n22 0 (@hid _ ⟨fun t24 => A.cond t24 (@hid _ ⟨K [(.i 0), (.i n22)] h15⟩) (@hid _ ⟨A.call 47 [(.i n16), (.i n18), (.i n20), (.i n12)] h15 (@hid _ ⟨fun l25 h26 => A.unI l25 (@hid _ ⟨fun n27 l28 => A.unI l28 (@hid _ ⟨fun n29 l30 => A.unI l30 (@hid _ ⟨fun n31 l32 => A.unI l32 (@hid _ ⟨fun n33 l34 => A.un0 l34 (@hid _ ⟨A.cmp .neq n33 0 (@hid _ ⟨fun t35 => A.cond t35 (@hid _ ⟨K [(.i 0), (.i 1)] h26⟩) (@hid _ ⟨A.call 36 [(.i n6), (.i n8), (.i n27), (.i n29), (.i n31)] h26 (@hid _ ⟨fun l36 h37 => A.unI l36 (@hid _ ⟨fun n38 l39 => A.unI l39 (@hid _ ⟨fun n40 l41 => A.un0 l41 (@hid _ ⟨K [(.i n38), (.i n40)] h37⟩)⟩)⟩)⟩)⟩)⟩)⟩)⟩)⟩)⟩)⟩)⟩)⟩)⟩)⟩)⟩)⟩)⟩)⟩)⟩)⟩)⟩)⟩)⟩)⟩)
theorem g18 : (fun A : Alg Prop (HL) => p18 A) = fun A => f18 A := by kernel_rfl
theorem h18 (ls : List Lf) (H : HL) (K : List Lf → HL → Prop) : p18 P1 ls H K = execF P1 (xc 18) sgTab drN n18 ls H K :=
  congrFun (congrFun (congrFun ((congrFun g18 P1).trans (congrFun (congrFun (congrFun e18 Prop) (HL)) P1)) ls) H) K
theorem u18 {ls : List Lf} {H : HL} {K : List Lf → HL → Prop} (hls : goodLs ls = true) (h : p18 P1 ls H K) : ∃ rs H', CallL cc sgTab 18 ls (absH siteTab H) rs (absH siteTab H') ∧ K rs H' :=
  fn_ok i18 hls (h18 ls H K ▸ h)
theorem q18 {ls rs : List Lf} (hls : goodLs ls = true) (h : p18 P1 ls [] fun rs' _ => rs' = rs) : Cc 18 ls rs := by
  obtain ⟨_, _, h1, rfl⟩ := u18 hls h
  exact ct_of mixed gl_flat (sg := ⟨[.agg [.i .i64, .i .i64], li, .leaf (.i .u8)], [li, li]⟩) rfl (by kernel_rfl) h1
/-- crimp/sheets.Name -/
def p19 (A : Alg Prop (HL)) (ls : List Lf) (h : HL) (K : List Lf → HL → Prop) : Prop := A.unI ls (@hid _ ⟨fun n6 l7 => A.unI l7 (@hid _ ⟨fun n8 l9 => A.unI l9 (@hid _ ⟨fun n10 l11 => A.unI l11 (@hid _ ⟨fun n12 l13 => A.un0 l13 (@hid _ ⟨A.call 18 [(.i n6), (.i n8), (.i n10), (.i n12)] h (@hid _ ⟨fun l14 h15 => A.unI l14 (@hid _ ⟨fun n16 l17 => A.unI l17 (@hid _ ⟨fun n18 l19 => A.un0 l19 (@hid _ ⟨A.cmp .neq n18 0 (@hid _ ⟨fun t20 => A.cond t20 (@hid _ ⟨K [(.i 0), (.i 0), (.i n18)] h15⟩) (@hid _ ⟨A.cmp .lss n16 n10 (@hid _ ⟨fun t21 => A.sel t21 n16 n10 (@hid _ ⟨fun n22 => K [(.i n22), (.i n12), (.i 0)] h15⟩)⟩)⟩)⟩)⟩)⟩)⟩)⟩)⟩)⟩)⟩)⟩)⟩)
theorem g19 : (fun A : Alg Prop (HL) => p19 A) = fun A => f19 A := by kernel_rfl
theorem h19 (ls : List Lf) (H : HL) (K : List Lf → HL → Prop) : p19 P1 ls H K = execF P1 (xc 19) sgTab drN n19 ls H K :=
  congrFun (congrFun (congrFun ((congrFun g19 P1).trans (congrFun (congrFun (congrFun e19 Prop) (HL)) P1)) ls) H) K
theorem u19 {ls : List Lf} {H : HL} {K : List Lf → HL → Prop} (hls : goodLs ls = true) (h : p19 P1 ls H K) : ∃ rs H', CallL cc sgTab 19 ls (absH siteTab H) rs (absH siteTab H') ∧ K rs H' :=
  fn_ok i19 hls (h19 ls H K ▸ h)
theorem q19 {ls rs : List Lf} (hls : goodLs ls = true) (h : p19 P1 ls [] fun rs' _ => rs' = rs) : Cc 19 ls rs := by
  obtain ⟨_, _, h1, rfl⟩ := u19 hls h
  exact ct_of mixed gl_flat (sg := ⟨[.agg [.i .i64, .i .i64], li, .leaf (.i .u8)], [.agg [.i .i64, .i .u8], li]⟩) rfl (by kernel_rfl) h1
/-- crimp/crimplaw05.unit -/
def p22 (A : Alg Prop (HL)) (ls : List Lf) (h : HL) (K : List Lf → HL → Prop) : Prop := A.unI ls (@hid _ ⟨fun n6 l7 => A.unI l7 (@hid _ ⟨fun n8 l9 => A.un0 l9 (@hid _ ⟨K [(.i n6), (.i n8)] h⟩)⟩)⟩)
theorem g22 : (fun A : Alg Prop (HL) => p22 A) = fun A => f22 A := by kernel_rfl
theorem h22 (ls : List Lf) (H : HL) (K : List Lf → HL → Prop) : p22 P1 ls H K = execF P1 (xc 22) sgTab drN n22 ls H K :=
  congrFun (congrFun (congrFun ((congrFun g22 P1).trans (congrFun (congrFun (congrFun e22 Prop) (HL)) P1)) ls) H) K
theorem u22 {ls : List Lf} {H : HL} {K : List Lf → HL → Prop} (hls : goodLs ls = true) (h : p22 P1 ls H K) : ∃ rs H', CallL cc sgTab 22 ls (absH siteTab H) rs (absH siteTab H') ∧ K rs H' :=
  fn_ok i22 hls (h22 ls H K ▸ h)
theorem q22 {ls rs : List Lf} (hls : goodLs ls = true) (h : p22 P1 ls [] fun rs' _ => rs' = rs) : Cc 22 ls rs := by
  obtain ⟨_, _, h1, rfl⟩ := u22 hls h
  exact ct_of mixed gl_flat (sg := ⟨[li, .leaf (.i .u8)], [.agg [.i .i64, .i .u8]]⟩) rfl (by kernel_rfl) h1
/-- crimp/sheets.Units -/
def p23 (A : Alg Prop (HL)) (ls : List Lf) (h : HL) (K : List Lf → HL → Prop) : Prop := A.unI ls (@hid _ ⟨fun n6 l7 => A.unI l7 (@hid _ ⟨fun n8 l9 => A.un0 l9 (@hid _ ⟨A.call 33 [(.i n6), (.i n8)] h (@hid _ ⟨fun l10 h11 => A.unI l10 (@hid _ ⟨fun n12 l13 => A.un0 l13 (@hid _ ⟨A.cmp .neq n12 0 (@hid _ ⟨fun t14 => A.cond t14 (@hid _ ⟨K [(.v (.slice none 0 0)), (.i n12)] h11⟩) (@hid _ ⟨A.new (.cells [(.slice none 0 0)] 1 true) h11 (@hid _ ⟨fun m15 h16 => A.call 67 [(.i n6), (.i n8)] h16 (@hid _ ⟨fun l17 h18 => A.unV l17 (@hid _ ⟨fun x19 l20 => A.un0 l20 (@hid _ ⟨A.rfun 368 x19 [(.pointer (some ⟨m15, 0, none⟩))] h18 (@hid _ ⟨fun p21 h22 => A.pend p21 (@hid _ ⟨A.peek (ldP 1 (.pointer (some ⟨m15, 0, none⟩))) h22 (@hid _ ⟨fun l23 => A.ucV l23 (@hid _ ⟨fun x24 l25 => A.chk x24 (@hid _ ⟨A.uc0 l25 (@hid _ ⟨A.call 68 [(.v x24)] h22 (@hid _ ⟨fun l26 h27 => A.unV l26 (@hid _ ⟨fun x28 l29 => A.un0 l29 (@hid _ ⟨K [(.v x28), (.i 0)] h27⟩)⟩)⟩)⟩)⟩)⟩)⟩)⟩) (@hid _ ⟨K [(.v (.slice none 0 0)), (.i 0)] h22⟩) []⟩)⟩)⟩)⟩)⟩)⟩)⟩)⟩)⟩)⟩)⟩)⟩)⟩)
theorem g23 : (fun A : Alg Prop (HL) => p23 A) = fun A => f23 A := by kernel_rfl
theorem h23 (ls : List Lf) (H : HL) (K : List Lf → HL → Prop) : p23 P1 ls H K = execF P1 (xc 23) sgTab drN n23 ls H K :=
  congrFun (congrFun (congrFun ((congrFun g23 P1).trans (congrFun (congrFun (congrFun e23 Prop) (HL)) P1)) ls) H) K
theorem u23 {ls : List Lf} {H : HL} {K : List Lf → HL → Prop} (hls : goodLs ls = true) (h : p23 P1 ls H K) : ∃ rs H', CallL cc sgTab 23 ls (absH siteTab H) rs (absH siteTab H') ∧ K rs H' :=
  fn_ok i23 hls (h23 ls H K ▸ h)
/-- crimp/sheets.Ends -/
def p25 (A : Alg Prop (HL)) (ls : List Lf) (h : HL) (K : List Lf → HL → Prop) : Prop := A.unI ls (@hid _ ⟨fun n6 l7 => A.unI l7 (@hid _ ⟨fun n8 l9 => A.unI l9 (@hid _ ⟨fun n10 l11 => A.unI l11 (@hid _ ⟨fun n12 l13 => A.un0 l13 (@hid _ ⟨A.call 69 [(.i n6), (.i n8), (.i n10), (.i n12)] h (@hid _ ⟨fun l14 h15 => A.unI l14 (@hid _ ⟨fun n16 l17 => A.unI l17 (@hid _ ⟨fun n18 l19 => A.unI l19 (@hid _ ⟨fun n20 l21 => A.unI l21 (@hid _ ⟨fun n22 l23 => A.un0 l23 (@hid _ ⟨A.cmp .neq n22 0 (@hid _ ⟨fun t24 => A.cond t24 (@hid _ ⟨K [(.i 0), (.i 0), (.i 0), (.i 0), (.i n22)] h15⟩) (@hid _ ⟨A.call 41 [(.i n16), (.i n18), (.i n20)] h15 (@hid _ ⟨fun l25 h26 => A.unI l25 (@hid _ ⟨fun n27 l28 => A.unI l28 (@hid _ ⟨fun n29 l30 => A.unI l30 (@hid _ ⟨fun n31 l32 => A.unI l32 (@hid _ ⟨fun n33 l34 => A.unI l34 (@hid _ ⟨fun n35 l36 => A.unI l36 (@hid _ ⟨fun n37 l38 => A.unI l38 (@hid _ ⟨fun n39 l40 => A.un0 l40 (@hid _ ⟨A.ari .add .u8 n12 1 (@hid _ ⟨fun n41 => A.ari .rem .u8 n41 3 (@hid _ ⟨fun n42 => A.opt (inB 3 n42) (@hid _ ⟨fun x43 => A.opt (pickL [(.i n27), (.i n29), (.i n31), (.i n33), (.i n35), (.i n37)] 0 [(n42, 2)] 2) (@hid _ ⟨fun x44 => A.unI x44 (@hid _ ⟨fun n45 l46 => A.unI l46 (@hid _ ⟨fun n47 l48 => A.un0 l48 (@hid _ ⟨A.ari .add .u8 n12 2 (@hid _ ⟨fun n49 => A.ari .rem .u8 n49 3 (@hid _ ⟨fun n50 => A.opt (inB 3 n50) (@hid _ ⟨fun x51 => A.opt (pickL [(.i n27), (.i n29), (.i n31), (.i n33), (.i n35), (.i n37)] 0 [(n50, 2)] 2) (@hid _ ⟨fun x52 => A.unI x52 (@hid _ ⟨fun n53 l54 => A.unI l54 (@hid _ ⟨fun n55 l56 => A.un0 l56 (@hid _ ⟨A.cmp .lss n53 n45 (@hid _ ⟨fun t57 => A.cond t57 (@hid _ ⟨K [(.i n53), (.i n55), (.i n45), (.i n47), (.i 0)] h26⟩) (@hid _ ⟨A.cmp .eql n53 n45 (@hid _ ⟨fun t58 => A.cond t58 (@hid _ ⟨A.cmp .lss n55 n47 (@hid _ ⟨fun t59 => A.join (@hid _ ⟨fun l60 h61 => A.unI l60 (@hid _ ⟨fun n62 l63 => A.unI l63 (@hid _ ⟨fun n64 l65 => A.unI l65 (@hid _ ⟨fun n66 l67 => A.unI l67 (@hid _ ⟨fun n68 l69 => A.un0 l69 (@hid _ ⟨K [(.i n62), (.i n64), (.i n66), (.i n68), (.i 0)] h61⟩)⟩)⟩)⟩)⟩)⟩) (@hid _ ⟨fun j70 => A.cond t59 (@hid _ ⟨j70 [(.i n53), (.i n55), (.i n45), (.i n47)] h26⟩) (@hid _ ⟨j70 [(.i n45), (.i n47), (.i n53), (.i n55)] h26⟩)⟩)⟩)⟩) (@hid _ ⟨K [(.i n45), (.i n47), (.i n53), (.i n55), (.i 0)] h26⟩)⟩)⟩)⟩)⟩)⟩)⟩)⟩)⟩)⟩)⟩)⟩)⟩)⟩)⟩)⟩)⟩)⟩)⟩)⟩)⟩)⟩)⟩)⟩)⟩)⟩)⟩)⟩)⟩)⟩)⟩)⟩)⟩)⟩)⟩)⟩)⟩)⟩)⟩)⟩)
theorem g25 : (fun A : Alg Prop (HL) => p25 A) = fun A => f25 A := by kernel_rfl
theorem h25 (ls : List Lf) (H : HL) (K : List Lf → HL → Prop) : p25 P1 ls H K = execF P1 (xc 25) sgTab drN n25 ls H K :=
  congrFun (congrFun (congrFun ((congrFun g25 P1).trans (congrFun (congrFun (congrFun e25 Prop) (HL)) P1)) ls) H) K
theorem u25 {ls : List Lf} {H : HL} {K : List Lf → HL → Prop} (hls : goodLs ls = true) (h : p25 P1 ls H K) : ∃ rs H', CallL cc sgTab 25 ls (absH siteTab H) rs (absH siteTab H') ∧ K rs H' :=
  fn_ok i25 hls (h25 ls H K ▸ h)
theorem q25 {ls rs : List Lf} (hls : goodLs ls = true) (h : p25 P1 ls [] fun rs' _ => rs' = rs) : Cc 25 ls rs := by
  obtain ⟨_, _, h1, rfl⟩ := u25 hls h
  exact ct_of mixed gl_flat (sg := ⟨[.agg [.i .i64, .i .i64], .agg [.i .i64, .i .u8]], [.agg [.i .i64, .i .i64, .i .i64, .i .i64], li]⟩) rfl (by kernel_rfl) h1
/-- crimp/sheets.Line -/
def p26 (A : Alg Prop (HL)) (ls : List Lf) (h : HL) (K : List Lf → HL → Prop) : Prop := A.unI ls (@hid _ ⟨fun n6 l7 => A.unI l7 (@hid _ ⟨fun n8 l9 => A.unI l9 (@hid _ ⟨fun n10 l11 => A.unI l11 (@hid _ ⟨fun n12 l13 => A.un0 l13 (@hid _ ⟨A.call 69 [(.i n6), (.i n8), (.i n10), (.i n12)] h (@hid _ ⟨fun l14 h15 => A.unI l14 (@hid _ ⟨fun n16 l17 => A.unI l17 (@hid _ ⟨fun n18 l19 => A.unI l19 (@hid _ ⟨fun n20 l21 => A.unI l21 (@hid _ ⟨fun n22 l23 => A.un0 l23 (@hid _ ⟨A.cmp .neq n22 0 (@hid _ ⟨fun t24 => A.cond t24 (@hid _ ⟨K [(.i 0), (.i 0), (.i n22)] h15⟩) (@hid _ ⟨A.call 40 [(.i n16), (.i n18), (.i n20), (.i n12)] h15 (@hid _ ⟨fun l25 h26 => A.unI l25 (@hid _ ⟨fun n27 l28 => A.unI l28 (@hid _ ⟨fun n29 l30 => A.unI l30 (@hid _ ⟨fun n31 l32 => A.un0 l32 (@hid _ ⟨K [(.i n27), (.i n29), (.i n31)] h26⟩)⟩)⟩)⟩)⟩)⟩)⟩)⟩)⟩)⟩)⟩)⟩)⟩)⟩)⟩)⟩)⟩)⟩)
theorem g26 : (fun A : Alg Prop (HL) => p26 A) = fun A => f26 A := by kernel_rfl
theorem h26 (ls : List Lf) (H : HL) (K : List Lf → HL → Prop) : p26 P1 ls H K = execF P1 (xc 26) sgTab drN n26 ls H K :=
  congrFun (congrFun (congrFun ((congrFun g26 P1).trans (congrFun (congrFun (congrFun e26 Prop) (HL)) P1)) ls) H) K
theorem u26 {ls : List Lf} {H : HL} {K : List Lf → HL → Prop} (hls : goodLs ls = true) (h : p26 P1 ls H K) : ∃ rs H', CallL cc sgTab 26 ls (absH siteTab H) rs (absH siteTab H') ∧ K rs H' :=
  fn_ok i26 hls (h26 ls H K ▸ h)
theorem q26 {ls rs : List Lf} (hls : goodLs ls = true) (h : p26 P1 ls [] fun rs' _ => rs' = rs) : Cc 26 ls rs := by
  obtain ⟨_, _, h1, rfl⟩ := u26 hls h
  exact ct_of mixed gl_flat (sg := ⟨[.agg [.i .i64, .i .i64], .agg [.i .i64, .i .u8]], [.agg [.i .u8, .i .i64], li]⟩) rfl (by kernel_rfl) h1
/-- crimp/sheets.Points -/
def p29 (A : Alg Prop (HL)) (ls : List Lf) (h : HL) (K : List Lf → HL → Prop) : Prop := A.unI ls (@hid _ ⟨fun n6 l7 => A.unI l7 (@hid _ ⟨fun n8 l9 => A.un0 l9 (@hid _ ⟨A.call 33 [(.i n6), (.i n8)] h (@hid _ ⟨fun l10 h11 => A.unI l10 (@hid _ ⟨fun n12 l13 => A.un0 l13 (@hid _ ⟨A.cmp .neq n12 0 (@hid _ ⟨fun t14 => A.cond t14 (@hid _ ⟨K [(.v (.slice none 0 0)), (.i n12)] h11⟩) (@hid _ ⟨A.loop (@hid _ ⟨fun s15 l16 h17 => A.unV l16 (@hid _ ⟨fun x18 l19 => A.unI l19 (@hid _ ⟨fun n20 l21 => A.un0 l21 (@hid _ ⟨A.ari .mul .i64 2 n8 (@hid _ ⟨fun n22 => A.cmp .lss n20 n22 (@hid _ ⟨fun t23 => A.cond t23 (@hid _ ⟨A.loop (@hid _ ⟨fun s24 l25 h26 => A.unV l25 (@hid _ ⟨fun x27 l28 => A.unI l28 (@hid _ ⟨fun n29 l30 => A.un0 l30 (@hid _ ⟨A.ari .mul .i64 2 n6 (@hid _ ⟨fun n31 => A.cmp .lss n29 n31 (@hid _ ⟨fun t32 => A.cond t32 (@hid _ ⟨A.ari .rem .i64 n29 2 (@hid _ ⟨fun n33 => A.ari .rem .i64 n20 2 (@hid _ ⟨fun n34 => A.cmp .eql n33 n34 (@hid _ ⟨fun t35 => A.join (@hid _ ⟨fun l36 h37 => A.unV l36 (@hid _ ⟨fun x38 l39 => A.un0 l39 (@hid _ ⟨A.ari .add .i64 n29 1 (@hid _ ⟨fun n40 => s24 [(.v x38), (.i n40)] h37⟩)⟩)⟩)⟩) (@hid _ ⟨fun j41 => A.cond t35 (@hid _ ⟨A.new (.cells [(.int .i64 n29), (.int .i64 n20)] 2 true) h26 (@hid _ ⟨fun m42 h43 => A.heap (apG cc 2 16 x27 (.slice (some ⟨m42, 0, (some 12)⟩) 1 2)) h43 (@hid _ ⟨fun l44 h45 => A.ucV l44 (@hid _ ⟨fun x46 l47 => A.chk x46 (@hid _ ⟨A.uc0 l47 (@hid _ ⟨j41 [(.v x46)] h45⟩)⟩)⟩)⟩)⟩)⟩) (@hid _ ⟨j41 [(.v x27)] h26⟩)⟩)⟩)⟩)⟩)⟩) (@hid _ ⟨A.ari .add .i64 n20 1 (@hid _ ⟨fun n48 => s15 [(.v x27), (.i n48)] h26⟩)⟩)⟩)⟩)⟩)⟩)⟩)⟩) [(.v x18), (.i 1)] h17⟩) (@hid _ ⟨A.call 71 [(.v x18)] h17 (@hid _ ⟨fun l49 h50 => A.unV l49 (@hid _ ⟨fun x51 l52 => A.un0 l52 (@hid _ ⟨K [(.v x51), (.i 0)] h50⟩)⟩)⟩)⟩)⟩)⟩)⟩)⟩)⟩)⟩) [(.v (.slice none 0 0)), (.i 1)] h11⟩)⟩)⟩)⟩)⟩)⟩)⟩)⟩)
theorem g29 : (fun A : Alg Prop (HL) => p29 A) = fun A => f29 A := by kernel_rfl
theorem h29 (ls : List Lf) (H : HL) (K : List Lf → HL → Prop) : p29 P1 ls H K = execF P1 (xc 29) sgTab drN n29 ls H K :=
  congrFun (congrFun (congrFun ((congrFun g29 P1).trans (congrFun (congrFun (congrFun e29 Prop) (HL)) P1)) ls) H) K
theorem u29 {ls : List Lf} {H : HL} {K : List Lf → HL → Prop} (hls : goodLs ls = true) (h : p29 P1 ls H K) : ∃ rs H', CallL cc sgTab 29 ls (absH siteTab H) rs (absH siteTab H') ∧ K rs H' :=
  fn_ok i29 hls (h29 ls H K ▸ h)
/-- crimp/crimpref05.Valid -/
def p32 (A : Alg Prop (HL)) (ls : List Lf) (h : HL) (K : List Lf → HL → Prop) : Prop := A.unI ls (@hid _ ⟨fun n6 l7 => A.unI l7 (@hid _ ⟨fun n8 l9 => A.un0 l9 (@hid _ ⟨A.cmp .lss n6 1 (@hid _ ⟨fun t10 => A.cond t10 (@hid _ ⟨K [(.i 0)] h⟩) (@hid _ ⟨A.cmp .lss n8 1 (@hid _ ⟨fun t11 => A.cond t11 (@hid _ ⟨K [(.i 0)] h⟩) (@hid _ ⟨A.cmp .gtr n6 256 (@hid _ ⟨fun t12 => A.cond t12 (@hid _ ⟨K [(.i 0)] h⟩) (@hid _ ⟨A.cmp .gtr n8 256 (@hid _ ⟨fun t13 => A.cond t13 (@hid _ ⟨K [(.i 0)] h⟩) (@hid _ ⟨A.ari .mul .i64 n6 n8 (@hid _ ⟨fun n14 => A.cmp .gtr n14 256 (@hid _ ⟨fun t15 => A.cond t15 (@hid _ ⟨K [(.i 0)] h⟩) (@hid _ ⟨K [(.i 1)] h⟩)⟩)⟩)⟩)⟩)⟩)⟩)⟩)⟩)⟩)⟩)⟩)⟩)⟩)
theorem g32 : (fun A : Alg Prop (HL) => p32 A) = fun A => f32 A := by kernel_rfl
theorem h32 (ls : List Lf) (H : HL) (K : List Lf → HL → Prop) : p32 P1 ls H K = execF P1 (xc 32) sgTab drN n32 ls H K :=
  congrFun (congrFun (congrFun ((congrFun g32 P1).trans (congrFun (congrFun (congrFun e32 Prop) (HL)) P1)) ls) H) K
theorem u32 {ls : List Lf} {H : HL} {K : List Lf → HL → Prop} (hls : goodLs ls = true) (h : p32 P1 ls H K) : ∃ rs H', CallL cc sgTab 32 ls (absH siteTab H) rs (absH siteTab H') ∧ K rs H' :=
  fn_ok i32 hls (h32 ls H K ▸ h)
theorem q32 {ls rs : List Lf} (hls : goodLs ls = true) (h : p32 P1 ls [] fun rs' _ => rs' = rs) : Cc 32 ls rs := by
  obtain ⟨_, _, h1, rfl⟩ := u32 hls h
  exact ct_of mixed gl_flat (sg := ⟨[.agg [.i .i64, .i .i64]], [li]⟩) rfl (by kernel_rfl) h1
/-- crimp/sheets.Check -/
def p33 (A : Alg Prop (HL)) (ls : List Lf) (h : HL) (K : List Lf → HL → Prop) : Prop := A.unI ls (@hid _ ⟨fun n6 l7 => A.unI l7 (@hid _ ⟨fun n8 l9 => A.un0 l9 (@hid _ ⟨A.cmp .lss n6 1 (@hid _ ⟨fun t10 => A.cond t10 (@hid _ ⟨K [(.i 1)] h⟩) (@hid _ ⟨A.cmp .lss n8 1 (@hid _ ⟨fun t11 => A.cond t11 (@hid _ ⟨K [(.i 1)] h⟩) (@hid _ ⟨A.cmp .gtr n6 256 (@hid _ ⟨fun t12 => A.cond t12 (@hid _ ⟨K [(.i 1)] h⟩) (@hid _ ⟨A.cmp .gtr n8 256 (@hid _ ⟨fun t13 => A.cond t13 (@hid _ ⟨K [(.i 1)] h⟩) (@hid _ ⟨A.ari .mul .i64 n6 n8 (@hid _ ⟨fun n14 => A.cmp .gtr n14 256 (@hid _ ⟨fun t15 => A.cond t15 (@hid _ ⟨K [(.i 1)] h⟩) (@hid _ ⟨K [(.i 0)] h⟩)⟩)⟩)⟩)⟩)⟩)⟩)⟩)⟩)⟩)⟩)⟩)⟩)⟩)
theorem g33 : (fun A : Alg Prop (HL) => p33 A) = fun A => f33 A := by kernel_rfl
theorem h33 (ls : List Lf) (H : HL) (K : List Lf → HL → Prop) : p33 P1 ls H K = execF P1 (xc 33) sgTab drN n33 ls H K :=
  congrFun (congrFun (congrFun ((congrFun g33 P1).trans (congrFun (congrFun (congrFun e33 Prop) (HL)) P1)) ls) H) K
theorem u33 {ls : List Lf} {H : HL} {K : List Lf → HL → Prop} (hls : goodLs ls = true) (h : p33 P1 ls H K) : ∃ rs H', CallL cc sgTab 33 ls (absH siteTab H) rs (absH siteTab H') ∧ K rs H' :=
  fn_ok i33 hls (h33 ls H K ▸ h)
theorem q33 {ls rs : List Lf} (hls : goodLs ls = true) (h : p33 P1 ls [] fun rs' _ => rs' = rs) : Cc 33 ls rs := by
  obtain ⟨_, _, h1, rfl⟩ := u33 hls h
  exact ct_of mixed gl_flat (sg := ⟨[.agg [.i .i64, .i .i64]], [li]⟩) rfl (by kernel_rfl) h1
/-- crimp/sheets.Count -/
def p34 (A : Alg Prop (HL)) (ls : List Lf) (h : HL) (K : List Lf → HL → Prop) : Prop := A.unI ls (@hid _ ⟨fun n6 l7 => A.unI l7 (@hid _ ⟨fun n8 l9 => A.un0 l9 (@hid _ ⟨A.call 33 [(.i n6), (.i n8)] h (@hid _ ⟨fun l10 h11 => A.unI l10 (@hid _ ⟨fun n12 l13 => A.un0 l13 (@hid _ ⟨A.cmp .neq n12 0 (@hid _ ⟨fun t14 => A.cond t14 (@hid _ ⟨K [(.i 0)] h11⟩) (@hid _ ⟨A.ari .mul .i64 4 n6 (@hid _ ⟨fun n15 => A.ari .mul .i64 n15 n8 (@hid _ ⟨fun n16 => K [(.i n16)] h11⟩)⟩)⟩)⟩)⟩)⟩)⟩)⟩)⟩)⟩)
theorem g34 : (fun A : Alg Prop (HL) => p34 A) = fun A => f34 A := by kernel_rfl
theorem h34 (ls : List Lf) (H : HL) (K : List Lf → HL → Prop) : p34 P1 ls H K = execF P1 (xc 34) sgTab drN n34 ls H K :=
  congrFun (congrFun (congrFun ((congrFun g34 P1).trans (congrFun (congrFun (congrFun e34 Prop) (HL)) P1)) ls) H) K
theorem u34 {ls : List Lf} {H : HL} {K : List Lf → HL → Prop} (hls : goodLs ls = true) (h : p34 P1 ls H K) : ∃ rs H', CallL cc sgTab 34 ls (absH siteTab H) rs (absH siteTab H') ∧ K rs H' :=
  fn_ok i34 hls (h34 ls H K ▸ h)
theorem q34 {ls rs : List Lf} (hls : goodLs ls = true) (h : p34 P1 ls [] fun rs' _ => rs' = rs) : Cc 34 ls rs := by
  obtain ⟨_, _, h1, rfl⟩ := u34 hls h
  exact ct_of mixed gl_flat (sg := ⟨[.agg [.i .i64, .i .i64]], [li]⟩) rfl (by kernel_rfl) h1
/-- crimp/sheets.Cell -/
def p35 (A : Alg Prop (HL)) (ls : List Lf) (h : HL) (K : List Lf → HL → Prop) : Prop := A.unI ls (@hid _ ⟨fun n6 l7 => A.unI l7 (@hid _ ⟨fun n8 l9 => A.unI l9 (@hid _ ⟨fun n10 l11 => A.un0 l11 (@hid _ ⟨A.call 33 [(.i n6), (.i n8)] h (@hid _ ⟨fun l12 h13 => A.unI l12 (@hid _ ⟨fun n14 l15 => A.un0 l15 (@hid _ ⟨A.cmp .neq n14 0 (@hid _ ⟨fun t16 => A.cond t16 (@hid _ ⟨K [(.i 0), (.i 0), (.i 0), (.i n14)] h13⟩) (@hid _ ⟨A.call 72 [(.i n6), (.i n8), (.i n10)] h13 (@hid _ ⟨fun l17 h18 => A.unB l17 (@hid _ ⟨fun t19 l20 => A.un0 l20 (@hid _ ⟨A.cond (!t19) (@hid _ ⟨K [(.i 0), (.i 0), (.i 0), (.i 7)] h18⟩) (@hid _ ⟨A.call 73 [(.i n6), (.i n8), (.i n10)] h18 (@hid _ ⟨fun l21 h22 => A.unI l21 (@hid _ ⟨fun n23 l24 => A.unI l24 (@hid _ ⟨fun n25 l26 => A.unI l26 (@hid _ ⟨fun n27 l28 => A.un0 l28 (@hid _ ⟨K [(.i n23), (.i n25), (.i n27), (.i 0)] h22⟩)⟩)⟩)⟩)⟩)⟩)⟩)⟩)⟩)⟩)⟩)⟩)⟩)⟩)⟩)⟩)⟩)⟩)
theorem g35 : (fun A : Alg Prop (HL) => p35 A) = fun A => f35 A := by kernel_rfl
theorem h35 (ls : List Lf) (H : HL) (K : List Lf → HL → Prop) : p35 P1 ls H K = execF P1 (xc 35) sgTab drN n35 ls H K :=
  congrFun (congrFun (congrFun ((congrFun g35 P1).trans (congrFun (congrFun (congrFun e35 Prop) (HL)) P1)) ls) H) K
theorem u35 {ls : List Lf} {H : HL} {K : List Lf → HL → Prop} (hls : goodLs ls = true) (h : p35 P1 ls H K) : ∃ rs H', CallL cc sgTab 35 ls (absH siteTab H) rs (absH siteTab H') ∧ K rs H' :=
  fn_ok i35 hls (h35 ls H K ▸ h)
theorem q35 {ls rs : List Lf} (hls : goodLs ls = true) (h : p35 P1 ls [] fun rs' _ => rs' = rs) : Cc 35 ls rs := by
  obtain ⟨_, _, h1, rfl⟩ := u35 hls h
  exact ct_of mixed gl_flat (sg := ⟨[.agg [.i .i64, .i .i64], li], [.agg [.i .i64, .i .i64, .i .u8], li]⟩) rfl (by kernel_rfl) h1
/-- crimp/sheets.Id -/
def p36 (A : Alg Prop (HL)) (ls : List Lf) (h : HL) (K : List Lf → HL → Prop) : Prop := A.unI ls (@hid _ ⟨fun n6 l7 => A.unI l7 (@hid _ ⟨fun n8 l9 => A.unI l9 (@hid _ ⟨fun n10 l11 => A.unI l11 (@hid _ ⟨fun n12 l13 => A.unI l13 (@hid _ ⟨fun n14 l15 => A.un0 l15 (@hid _ ⟨A.call 33 [(.i n6), (.i n8)] h (@hid _ ⟨fun l16 h17 => A.unI l16 (@hid _ ⟨fun n18 l19 => A.un0 l19 (@hid _ ⟨A.cmp .neq n18 0 (@hid _ ⟨fun t20 => A.cond t20 (@hid _ ⟨K [(.i 0), (.i n18)] h17⟩) (@hid _ ⟨A.call 43 [(.i n10), (.i n12), (.i n14)] h17 (@hid _ ⟨fun l21 h22 => A.unI l21 (@hid _ ⟨fun n23 l24 => A.un0 l24 (@hid _ ⟨A.cmp .neq n23 0 (@hid _ ⟨fun t25 => A.cond t25 (@hid _ ⟨K [(.i 0), (.i 7)] h22⟩) (@hid _ ⟨A.cmp .lss n10 0 (@hid _ ⟨fun t26 => A.cond t26 (@hid _ ⟨K [(.i 0), (.i 7)] h22⟩) (@hid _ ⟨A.cmp .geq n10 n6 (@hid _ ⟨fun t27 => A.cond t27 (@hid _ ⟨K [(.i 0), (.i 7)] h22⟩) (@hid _ ⟨A.cmp .lss n12 0 (@hid _ ⟨fun t28 => A.cond t28 (@hid _ ⟨K [(.i 0), (.i 7)] h22⟩) (@hid _ ⟨A.cmp .geq n12 n8 (@hid _ ⟨fun t29 => A.cond t29 (@hid _ ⟨K [(.i 0), (.i 7)] h22⟩) (@hid _ ⟨A.ari .mul .i64 n12 n6 (@hid _ ⟨fun n30 => A.ari .add .i64 n30 n10 (@hid _ ⟨fun n31 => A.ari .mul .i64 4 n31 (@hid _ ⟨fun n32 => A.conv .i64 n14 (@hid _ ⟨fun n33 => A.ari .add .i64 n32 n33 (@hid _ ⟨fun n34 => K [(.i n34), (.i 0)] h22⟩)⟩)⟩)⟩)⟩)⟩)⟩)⟩)⟩)⟩)⟩)⟩)⟩)⟩)⟩)⟩)⟩)⟩)⟩)⟩)⟩)⟩)⟩)⟩)⟩)⟩)⟩)⟩)⟩)
theorem g36 : (fun A : Alg Prop (HL) => p36 A) = fun A => f36 A := by kernel_rfl
theorem h36 (ls : List Lf) (H : HL) (K : List Lf → HL → Prop) : p36 P1 ls H K = execF P1 (xc 36) sgTab drN n36 ls H K :=
  congrFun (congrFun (congrFun ((congrFun g36 P1).trans (congrFun (congrFun (congrFun e36 Prop) (HL)) P1)) ls) H) K
theorem u36 {ls : List Lf} {H : HL} {K : List Lf → HL → Prop} (hls : goodLs ls = true) (h : p36 P1 ls H K) : ∃ rs H', CallL cc sgTab 36 ls (absH siteTab H) rs (absH siteTab H') ∧ K rs H' :=
  fn_ok i36 hls (h36 ls H K ▸ h)
theorem q36 {ls rs : List Lf} (hls : goodLs ls = true) (h : p36 P1 ls [] fun rs' _ => rs' = rs) : Cc 36 ls rs := by
  obtain ⟨_, _, h1, rfl⟩ := u36 hls h
  exact ct_of mixed gl_flat (sg := ⟨[.agg [.i .i64, .i .i64], .agg [.i .i64, .i .i64, .i .u8]], [li, li]⟩) rfl (by kernel_rfl) h1
/-- crimp/sheets.Cells -/
def p37 (A : Alg Prop (HL)) (ls : List Lf) (h : HL) (K : List Lf → HL → Prop) : Prop := A.unI ls (@hid _ ⟨fun n6 l7 => A.unI l7 (@hid _ ⟨fun n8 l9 => A.un0 l9 (@hid _ ⟨A.call 33 [(.i n6), (.i n8)] h (@hid _ ⟨fun l10 h11 => A.unI l10 (@hid _ ⟨fun n12 l13 => A.un0 l13 (@hid _ ⟨A.cmp .neq n12 0 (@hid _ ⟨fun t14 => A.cond t14 (@hid _ ⟨K [(.v (.slice none 0 0)), (.i n12)] h11⟩) (@hid _ ⟨A.call 34 [(.i n6), (.i n8)] h11 (@hid _ ⟨fun l15 h16 => A.unI l15 (@hid _ ⟨fun n17 l18 => A.un0 l18 (@hid _ ⟨A.opt (mkOk 0 n17) (@hid _ ⟨fun x19 => A.new (.cells (zerosA [(.int .i64 0), (.int .i64 0), (.int .u8 0)] (Int.toNat n17)) 3 true) h16 (@hid _ ⟨fun m20 h21 => A.call 34 [(.i n6), (.i n8)] h21 (@hid _ ⟨fun l22 h23 => A.unI l22 (@hid _ ⟨fun n24 l25 => A.un0 l25 (@hid _ ⟨A.loop (@hid _ ⟨fun s26 l27 h28 => A.unV l27 (@hid _ ⟨fun x29 l30 => A.unI l30 (@hid _ ⟨fun n31 l32 => A.un0 l32 (@hid _ ⟨A.cmp .lss n31 n24 (@hid _ ⟨fun t33 => A.cond t33 (@hid _ ⟨A.call 73 [(.i n6), (.i n8), (.i n31)] h28 (@hid _ ⟨fun l34 h35 => A.unI l34 (@hid _ ⟨fun n36 l37 => A.unI l37 (@hid _ ⟨fun n38 l39 => A.unI l39 (@hid _ ⟨fun n40 l41 => A.un0 l41 (@hid _ ⟨A.new (.cells [(.int .i64 n36), (.int .i64 n38), (.int .u8 n40)] 3 true) h35 (@hid _ ⟨fun m42 h43 => A.heap (apG cc 3 24 x29 (.slice (some ⟨m42, 0, (some 13)⟩) 1 2)) h43 (@hid _ ⟨fun l44 h45 => A.ucV l44 (@hid _ ⟨fun x46 l47 => A.chk x46 (@hid _ ⟨A.uc0 l47 (@hid _ ⟨A.ari .add .i64 n31 1 (@hid _ ⟨fun n48 => s26 [(.v x46), (.i n48)] h45⟩)⟩)⟩)⟩)⟩)⟩)⟩)⟩)⟩)⟩)⟩)⟩) (@hid _ ⟨K [(.v x29), (.i 0)] h28⟩)⟩)⟩)⟩)⟩)⟩) [(.v (.slice (some ⟨m20, 0, (some 13)⟩) (Int.toNat 0) ((Int.toNat n17) + 1))), (.i 0)] h23⟩)⟩)⟩)⟩)⟩)⟩)⟩)⟩)⟩)⟩)⟩)⟩)⟩)⟩)⟩)⟩)
theorem g37 : (fun A : Alg Prop (HL) => p37 A) = fun A => f37 A := by kernel_rfl
theorem h37 (ls : List Lf) (H : HL) (K : List Lf → HL → Prop) : p37 P1 ls H K = execF P1 (xc 37) sgTab drN n37 ls H K :=
  congrFun (congrFun (congrFun ((congrFun g37 P1).trans (congrFun (congrFun (congrFun e37 Prop) (HL)) P1)) ls) H) K
theorem u37 {ls : List Lf} {H : HL} {K : List Lf → HL → Prop} (hls : goodLs ls = true) (h : p37 P1 ls H K) : ∃ rs H', CallL cc sgTab 37 ls (absH siteTab H) rs (absH siteTab H') ∧ K rs H' :=
  fn_ok i37 hls (h37 ls H K ▸ h)
/-- crimp/cells.Check -/
def p43 (A : Alg Prop (HL)) (ls : List Lf) (h : HL) (K : List Lf → HL → Prop) : Prop := A.unI ls (@hid _ ⟨fun n6 l7 => A.unI l7 (@hid _ ⟨fun n8 l9 => A.unI l9 (@hid _ ⟨fun n10 l11 => A.un0 l11 (@hid _ ⟨A.cmp .lss n6 (-4096) (@hid _ ⟨fun t12 => A.cond t12 (@hid _ ⟨K [(.i 1)] h⟩) (@hid _ ⟨A.cmp .gtr n6 4096 (@hid _ ⟨fun t13 => A.cond t13 (@hid _ ⟨K [(.i 1)] h⟩) (@hid _ ⟨A.cmp .lss n8 (-4096) (@hid _ ⟨fun t14 => A.cond t14 (@hid _ ⟨K [(.i 1)] h⟩) (@hid _ ⟨A.cmp .gtr n8 4096 (@hid _ ⟨fun t15 => A.cond t15 (@hid _ ⟨K [(.i 1)] h⟩) (@hid _ ⟨A.cmp .gtr n10 3 (@hid _ ⟨fun t16 => A.cond t16 (@hid _ ⟨K [(.i 1)] h⟩) (@hid _ ⟨K [(.i 0)] h⟩)⟩)⟩)⟩)⟩)⟩)⟩)⟩)⟩)⟩)⟩)⟩)⟩)⟩)
theorem g43 : (fun A : Alg Prop (HL) => p43 A) = fun A => f43 A := by kernel_rfl
theorem h43 (ls : List Lf) (H : HL) (K : List Lf → HL → Prop) : p43 P1 ls H K = execF P1 (xc 43) sgTab drN n43 ls H K :=
  congrFun (congrFun (congrFun ((congrFun g43 P1).trans (congrFun (congrFun (congrFun e43 Prop) (HL)) P1)) ls) H) K
theorem u43 {ls : List Lf} {H : HL} {K : List Lf → HL → Prop} (hls : goodLs ls = true) (h : p43 P1 ls H K) : ∃ rs H', CallL cc sgTab 43 ls (absH siteTab H) rs (absH siteTab H') ∧ K rs H' :=
  fn_ok i43 hls (h43 ls H K ▸ h)
theorem q43 {ls rs : List Lf} (hls : goodLs ls = true) (h : p43 P1 ls [] fun rs' _ => rs' = rs) : Cc 43 ls rs := by
  obtain ⟨_, _, h1, rfl⟩ := u43 hls h
  exact ct_of mixed gl_flat (sg := ⟨[.agg [.i .i64, .i .i64, .i .u8]], [li]⟩) rfl (by kernel_rfl) h1
/-- crimp/cells.Neighbour -/
def p47 (A : Alg Prop (HL)) (ls : List Lf) (h : HL) (K : List Lf → HL → Prop) : Prop := A.unI ls (@hid _ ⟨fun n6 l7 => A.unI l7 (@hid _ ⟨fun n8 l9 => A.unI l9 (@hid _ ⟨fun n10 l11 => A.unI l11 (@hid _ ⟨fun n12 l13 => A.un0 l13 (@hid _ ⟨A.call 43 [(.i n6), (.i n8), (.i n10)] h (@hid _ ⟨fun l14 h15 => A.unI l14 (@hid _ ⟨fun n16 l17 => A.un0 l17 (@hid _ ⟨A.cmp .neq n16 0 (@hid _ ⟨fun t18 => A.cond t18 (@hid _ ⟨K [(.i 0), (.i 0), (.i 0), (.i 1)] h15⟩) (@hid _ ⟨A.cmp .gtr n12 2 (@hid _ ⟨fun t19 => A.cond t19 (@hid _ ⟨K [(.i 0), (.i 0), (.i 0), (.i 1)] h15⟩) (@hid _ ⟨A.opt (inB 4 n10) (@hid _ ⟨fun x20 => A.opt (inB 3 n12) (@hid _ ⟨fun x21 => A.opt (pickV gl0 4 [(n10, 17), (n12, 3)] 3) (@hid _ ⟨fun x22 => A.ucI .i64 x22 (@hid _ ⟨fun n23 l24 => A.ucI .i64 l24 (@hid _ ⟨fun n25 l26 => A.ucI .u8 l26 (@hid _ ⟨fun n27 l28 => A.uc0 l28 (@hid _ ⟨A.ari .add .i64 n23 n6 (@hid _ ⟨fun n29 => A.ari .add .i64 n25 n8 (@hid _ ⟨fun n30 => A.call 43 [(.i n29), (.i n30), (.i n27)] h15 (@hid _ ⟨fun l31 h32 => A.unI l31 (@hid _ ⟨fun n33 l34 => A.un0 l34 (@hid _ ⟨A.cmp .neq n33 0 (@hid _ ⟨fun t35 => A.cond t35 (@hid _ ⟨K [(.i 0), (.i 0), (.i 0), (.i 3)] h32⟩) (@hid _ ⟨K [(.i n29), (.i n30), (.i n27), (.i 0)] h32⟩)⟩)⟩)⟩)⟩)⟩)⟩)⟩)⟩)⟩)⟩)⟩)⟩)⟩)⟩)⟩)⟩)⟩)⟩)⟩)⟩)⟩)⟩)⟩)⟩)⟩)
theorem g47 : (fun A : Alg Prop (HL) => p47 A) = fun A => f47 A := by kernel_rfl
theorem h47 (ls : List Lf) (H : HL) (K : List Lf → HL → Prop) : p47 P1 ls H K = execF P1 (xc 47) sgTab drN n47 ls H K :=
  congrFun (congrFun (congrFun ((congrFun g47 P1).trans (congrFun (congrFun (congrFun e47 Prop) (HL)) P1)) ls) H) K
theorem u47 {ls : List Lf} {H : HL} {K : List Lf → HL → Prop} (hls : goodLs ls = true) (h : p47 P1 ls H K) : ∃ rs H', CallL cc sgTab 47 ls (absH siteTab H) rs (absH siteTab H') ∧ K rs H' :=
  fn_ok i47 hls (h47 ls H K ▸ h)
theorem q47 {ls rs : List Lf} (hls : goodLs ls = true) (h : p47 P1 ls [] fun rs' _ => rs' = rs) : Cc 47 ls rs := by
  obtain ⟨_, _, h1, rfl⟩ := u47 hls h
  exact ct_of mixed gl_flat (sg := ⟨[.agg [.i .i64, .i .i64, .i .u8], .leaf (.i .u8)], [.agg [.i .i64, .i .i64, .i .u8], li]⟩) rfl (by kernel_rfl) h1
/-- crimp/sheets.named -/
def p69 (A : Alg Prop (HL)) (ls : List Lf) (h : HL) (K : List Lf → HL → Prop) : Prop := A.unI ls (@hid _ ⟨fun n6 l7 => A.unI l7 (@hid _ ⟨fun n8 l9 => A.unI l9 (@hid _ ⟨fun n10 l11 => A.unI l11 (@hid _ ⟨fun n12 l13 => A.un0 l13 (@hid _ ⟨A.call 33 [(.i n6), (.i n8)] h (@hid _ ⟨fun l14 h15 => A.unI l14 (@hid _ ⟨fun n16 l17 => A.un0 l17 (@hid _ ⟨A.cmp .neq n16 0 (@hid _ ⟨fun t18 => A.cond t18 (@hid _ ⟨K [(.i 0), (.i 0), (.i 0), (.i n16)] h15⟩) (@hid _ ⟨A.call 19 [(.i n6), (.i n8), (.i n10), (.i n12)] h15 (@hid _ ⟨fun l19 h20 => A.unI l19 (@hid _ ⟨fun n21 l22 => A.unI l22 (@hid _ ⟨fun n23 l24 => A.unI l24 (@hid _ ⟨fun n25 l26 => A.un0 l26 (@hid _ ⟨A.cmp .neq n25 0 (@hid _ ⟨fun t27 => A.cond t27 (@hid _ ⟨K [(.i 0), (.i 0), (.i 0), (.i 7)] h20⟩) (@hid _ ⟨A.eqs [((.i n21), (.i n10)), ((.i n23), (.i n12))] (@hid _ ⟨fun t28 => A.cond (!t28) (@hid _ ⟨K [(.i 0), (.i 0), (.i 0), (.i 7)] h20⟩) (@hid _ ⟨A.call 73 [(.i n6), (.i n8), (.i n10)] h20 (@hid _ ⟨fun l29 h30 => A.unI l29 (@hid _ ⟨fun n31 l32 => A.unI l32 (@hid _ ⟨fun n33 l34 => A.unI l34 (@hid _ ⟨fun n35 l36 => A.un0 l36 (@hid _ ⟨K [(.i n31), (.i n33), (.i n35), (.i 0)] h30⟩)⟩)⟩)⟩)⟩)⟩)⟩)⟩)⟩)⟩)⟩)⟩)⟩)⟩)⟩)⟩)⟩)⟩)⟩)⟩)⟩)⟩)⟩)⟩)
theorem g69 : (fun A : Alg Prop (HL) => p69 A) = fun A => f69 A := by kernel_rfl
theorem h69 (ls : List Lf) (H : HL) (K : List Lf → HL → Prop) : p69 P1 ls H K = execF P1 (xc 69) sgTab drN n69 ls H K :=
  congrFun (congrFun (congrFun ((congrFun g69 P1).trans (congrFun (congrFun (congrFun e69 Prop) (HL)) P1)) ls) H) K
theorem u69 {ls : List Lf} {H : HL} {K : List Lf → HL → Prop} (hls : goodLs ls = true) (h : p69 P1 ls H K) : ∃ rs H', CallL cc sgTab 69 ls (absH siteTab H) rs (absH siteTab H') ∧ K rs H' :=
  fn_ok i69 hls (h69 ls H K ▸ h)
theorem q69 {ls rs : List Lf} (hls : goodLs ls = true) (h : p69 P1 ls [] fun rs' _ => rs' = rs) : Cc 69 ls rs := by
  obtain ⟨_, _, h1, rfl⟩ := u69 hls h
  exact ct_of mixed gl_flat (sg := ⟨[.agg [.i .i64, .i .i64], .agg [.i .i64, .i .u8]], [.agg [.i .i64, .i .i64, .i .u8], li]⟩) rfl (by kernel_rfl) h1
/-- (crimp/sheets.Sheet).has -/
def p72 (A : Alg Prop (HL)) (ls : List Lf) (h : HL) (K : List Lf → HL → Prop) : Prop := A.unI ls (@hid _ ⟨fun n6 l7 => A.unI l7 (@hid _ ⟨fun n8 l9 => A.unI l9 (@hid _ ⟨fun n10 l11 => A.un0 l11 (@hid _ ⟨A.join (@hid _ ⟨fun l12 h13 => A.unB l12 (@hid _ ⟨fun t14 l15 => A.un0 l15 (@hid _ ⟨K [(.b t14)] h13⟩)⟩)⟩) (@hid _ ⟨fun j16 => A.cmp .geq n10 0 (@hid _ ⟨fun t17 => A.cond t17 (@hid _ ⟨A.ari .mul .i64 4 n6 (@hid _ ⟨fun n18 => A.ari .mul .i64 n18 n8 (@hid _ ⟨fun n19 => A.cmp .lss n10 n19 (@hid _ ⟨fun t20 => j16 [(.b t20)] h⟩)⟩)⟩)⟩) (@hid _ ⟨j16 [(.b false)] h⟩)⟩)⟩)⟩)⟩)⟩)⟩)
theorem g72 : (fun A : Alg Prop (HL) => p72 A) = fun A => f72 A := by kernel_rfl
theorem h72 (ls : List Lf) (H : HL) (K : List Lf → HL → Prop) : p72 P1 ls H K = execF P1 (xc 72) sgTab drN n72 ls H K :=
  congrFun (congrFun (congrFun ((congrFun g72 P1).trans (congrFun (congrFun (congrFun e72 Prop) (HL)) P1)) ls) H) K
theorem u72 {ls : List Lf} {H : HL} {K : List Lf → HL → Prop} (hls : goodLs ls = true) (h : p72 P1 ls H K) : ∃ rs H', CallL cc sgTab 72 ls (absH siteTab H) rs (absH siteTab H') ∧ K rs H' :=
  fn_ok i72 hls (h72 ls H K ▸ h)
theorem q72 {ls rs : List Lf} (hls : goodLs ls = true) (h : p72 P1 ls [] fun rs' _ => rs' = rs) : Cc 72 ls rs := by
  obtain ⟨_, _, h1, rfl⟩ := u72 hls h
  exact ct_of mixed gl_flat (sg := ⟨[.agg [.i .i64, .i .i64], li], [lb]⟩) rfl (by kernel_rfl) h1
/-- (crimp/sheets.Sheet).cell -/
def p73 (A : Alg Prop (HL)) (ls : List Lf) (h : HL) (K : List Lf → HL → Prop) : Prop := A.unI ls (@hid _ ⟨fun n6 l7 => A.unI l7 (@hid _ ⟨fun n8 l9 => A.unI l9 (@hid _ ⟨fun n10 l11 => A.un0 l11 (@hid _ ⟨A.ari .quo .i64 n10 4 (@hid _ ⟨fun n12 => A.ari .rem .i64 n12 n6 (@hid _ ⟨fun n13 => A.ari .quo .i64 n10 4 (@hid _ ⟨fun n14 => A.ari .quo .i64 n14 n6 (@hid _ ⟨fun n15 => A.ari .rem .i64 n10 4 (@hid _ ⟨fun n16 => A.conv .u8 n16 (@hid _ ⟨fun n17 => K [(.i n13), (.i n15), (.i n17)] h⟩)⟩)⟩)⟩)⟩)⟩)⟩)⟩)⟩)⟩)
theorem g73 : (fun A : Alg Prop (HL) => p73 A) = fun A => f73 A := by kernel_rfl
theorem h73 (ls : List Lf) (H : HL) (K : List Lf → HL → Prop) : p73 P1 ls H K = execF P1 (xc 73) sgTab drN n73 ls H K :=
  congrFun (congrFun (congrFun ((congrFun g73 P1).trans (congrFun (congrFun (congrFun e73 Prop) (HL)) P1)) ls) H) K
theorem u73 {ls : List Lf} {H : HL} {K : List Lf → HL → Prop} (hls : goodLs ls = true) (h : p73 P1 ls H K) : ∃ rs H', CallL cc sgTab 73 ls (absH siteTab H) rs (absH siteTab H') ∧ K rs H' :=
  fn_ok i73 hls (h73 ls H K ▸ h)
theorem q73 {ls rs : List Lf} (hls : goodLs ls = true) (h : p73 P1 ls [] fun rs' _ => rs' = rs) : Cc 73 ls rs := by
  obtain ⟨_, _, h1, rfl⟩ := u73 hls h
  exact ct_of mixed gl_flat (sg := ⟨[.agg [.i .i64, .i .i64], li], [.agg [.i .i64, .i .i64, .i .u8]]⟩) rfl (by kernel_rfl) h1
end Go.Am

/-
  CONTRACTS, BY PROGRAM: checks, far, mirror images, corners.
-/
set_option maxRecDepth 100000
namespace Go.Am
open Sx Go.Proofs


theorem cellCheck_ok {x y q : Int} (h : ¬ (x < -4096) ∧ ¬ (4096 < x) ∧ ¬ (y < -4096) ∧ ¬ (4096 < y) ∧ ¬ (3 < q)) : Cc 43 [.i x, .i y, .i q] [.i 0] := by
  refine q43 rfl ?_; unfold p43
  simp (disch := omega) only [↓qxs, ↓qxc, ↓qxa]
theorem cellCheck_no {x y q : Int} (h : ¬ (¬ (x < -4096) ∧ ¬ (4096 < x) ∧ ¬ (y < -4096) ∧ ¬ (4096 < y) ∧ ¬ (3 < q))) : Cc 43 [.i x, .i y, .i q] [.i 1] := by
  refine q43 rfl ?_; unfold p43
  by_cases h0 : x < -4096
  · simp (disch := omega) only [↓qxs, ↓qxc, ↓qxa]
  by_cases h1 : 4096 < x
  · simp (disch := omega) only [↓qxs, ↓qxc, ↓qxa]
  by_cases h2 : y < -4096
  · simp (disch := omega) only [↓qxs, ↓qxc, ↓qxa]
  by_cases h3 : 4096 < y
  · simp (disch := omega) only [↓qxs, ↓qxc, ↓qxa]
  simp (disch := omega) only [↓qxs, ↓qxc, ↓qxa]
end Go.Am
/-
  CONTRACTS, BY PROGRAM: neighbours, corners, lines of cells.
-/
set_option maxRecDepth 100000
namespace Go.Am
open Sx Go.Proofs


theorem cnb_no {x y q e : Int} (h : ¬ (-4096 ≤ x ∧ x ≤ 4096 ∧ -4096 ≤ y ∧ y ≤ 4096 ∧ q ≤ 3) ∨ 2 < e) : Cc 47 [.i x, .i y, .i q, .i e] [.i 0, .i 0, .i 0, .i 1] := by
  refine q47 rfl ?_; unfold p47
  by_cases hv : -4096 ≤ x ∧ x ≤ 4096 ∧ -4096 ≤ y ∧ y ≤ 4096 ∧ q ≤ 3
  · repeat (first | simp (disch := omega) only [↓qxs, ↓qxc, ↓qxa] | refine p_call (cellCheck_ok (by omega)) ?_); (try simp only [List.cons.injEq, Lf.i.injEq, and_true, true_and]); (try omega)
  · repeat (first | simp (disch := omega) only [↓qxs, ↓qxc, ↓qxa] | refine p_call (cellCheck_no (by omega)) ?_); (try simp only [List.cons.injEq, Lf.i.injEq, and_true, true_and]); (try omega)
end Go.Am
/-
  RULES ON TRUTH VALUES.
-/
namespace Go.Am
open Sx Go.Proofs
theorem b_tt {l : List (Lf × Lf)} {K : Bool → Prop} : P1.eqs ((.b true, .b true) :: l) (@hid _ ⟨K⟩) = P1.eqs l (@hid _ ⟨K⟩) := rfl
theorem b_ff {l : List (Lf × Lf)} {K : Bool → Prop} : P1.eqs ((.b false, .b false) :: l) (@hid _ ⟨K⟩) = P1.eqs l (@hid _ ⟨K⟩) := rfl
theorem b_nt {X Y : Prop} : P1.cond (!true) X (@hid _ ⟨Y⟩) = Y := b_cond_f
theorem b_nf {X Y : Prop} : P1.cond (!false) (@hid _ ⟨X⟩) Y = X := b_cond_t
/-- These, in one. -/
def qxb := And.intro @b_tt (And.intro @b_ff (And.intro @b_nt @b_nf))
end Go.Am

/-
  CONTRACTS, BY PROGRAM: sheets.
-/
set_option maxRecDepth 100000
set_option maxHeartbeats 4000000
namespace Go.Am
open Sx Go.Proofs
theorem ofW {a b w v : Int} (h : 0 ≤ a ∧ a ≤ 255 ∧ 0 ≤ b ∧ b ≤ 255 ∧ w = 1 + a % 5 ∧ v = 1 + b % 5) : Cc 17 [.i a, .i b] [.i w, .i v] := by
  refine q17 rfl ?_; unfold p17
  repeat (first | simp (disch := omega) only [↓qxs, ↓qxc, ↓qxa])
  (try simp only [List.cons.injEq, Lf.i.injEq, and_true, true_and]); (try omega)
theorem shCheck_ok {w v : Int} (h : 1 ≤ w ∧ w ≤ 5 ∧ 1 ≤ v ∧ v ≤ 5) : Cc 33 [.i w, .i v] [.i 0] := by
  refine q33 rfl ?_; unfold p33
  obtain rfl | rfl | rfl | rfl | rfl : w = 1 ∨ w = 2 ∨ w = 3 ∨ w = 4 ∨ w = 5 := by omega
  all_goals (obtain rfl | rfl | rfl | rfl | rfl : v = 1 ∨ v = 2 ∨ v = 3 ∨ v = 4 ∨ v = 5 := by omega)
  all_goals (repeat (first | simp (disch := omega) only [↓qxs, ↓qxc, ↓qxa, ↓qxb]); (try simp only [List.cons.injEq, Lf.i.injEq, and_true, true_and]); (try omega))
theorem shCount {w v : Int} (h : 1 ≤ w ∧ w ≤ 5 ∧ 1 ≤ v ∧ v ≤ 5) : Cc 34 [.i w, .i v] [.i (4 * w * v)] := by
  refine q34 rfl ?_; unfold p34
  obtain rfl | rfl | rfl | rfl | rfl : w = 1 ∨ w = 2 ∨ w = 3 ∨ w = 4 ∨ w = 5 := by omega
  all_goals (obtain rfl | rfl | rfl | rfl | rfl : v = 1 ∨ v = 2 ∨ v = 3 ∨ v = 4 ∨ v = 5 := by omega)
  all_goals (repeat (first | simp (disch := omega) only [↓qxs, ↓qxc, ↓qxa, ↓qxb] | refine p_call (shCheck_ok (by omega)) ?_); (try simp only [List.cons.injEq, Lf.i.injEq, and_true, true_and]); (try omega))
theorem has_t {w v i : Int} (h : (1 ≤ w ∧ w ≤ 5 ∧ 1 ≤ v ∧ v ≤ 5) ∧ 0 ≤ i ∧ i < 4 * w * v) : Cc 72 [.i w, .i v, .i i] [.b true] := by
  refine q72 rfl ?_; unfold p72
  obtain rfl | rfl | rfl | rfl | rfl : w = 1 ∨ w = 2 ∨ w = 3 ∨ w = 4 ∨ w = 5 := by omega
  all_goals (obtain rfl | rfl | rfl | rfl | rfl : v = 1 ∨ v = 2 ∨ v = 3 ∨ v = 4 ∨ v = 5 := by omega)
  all_goals (repeat (first | simp (disch := omega) only [↓qxs, ↓qxc, ↓qxa, ↓qxb]); (try simp only [List.cons.injEq, Lf.i.injEq, and_true, true_and]); (try omega))
theorem has_f {w v i : Int} (h : (1 ≤ w ∧ w ≤ 5 ∧ 1 ≤ v ∧ v ≤ 5) ∧ ¬ (0 ≤ i ∧ i < 4 * w * v)) : Cc 72 [.i w, .i v, .i i] [.b false] := by
  refine q72 rfl ?_; unfold p72
  obtain rfl | rfl | rfl | rfl | rfl : w = 1 ∨ w = 2 ∨ w = 3 ∨ w = 4 ∨ w = 5 := by omega
  all_goals (obtain rfl | rfl | rfl | rfl | rfl : v = 1 ∨ v = 2 ∨ v = 3 ∨ v = 4 ∨ v = 5 := by omega)
  all_goals (by_cases hn : 0 ≤ i)
  all_goals (repeat (first | simp (disch := omega) only [↓qxs, ↓qxc, ↓qxa, ↓qxb]); (try simp only [List.cons.injEq, Lf.i.injEq, and_true, true_and]); (try omega))
theorem shCell0 {w v i : Int} (h : (1 ≤ w ∧ w ≤ 5 ∧ 1 ≤ v ∧ v ≤ 5) ∧ 0 ≤ i ∧ i < 4 * w * v) : Cc 73 [.i w, .i v, .i i] [.i (i / 4 % w), .i (i / 4 / w), .i (i % 4)] := by
  refine q73 rfl ?_; unfold p73
  obtain rfl | rfl | rfl | rfl | rfl : w = 1 ∨ w = 2 ∨ w = 3 ∨ w = 4 ∨ w = 5 := by omega
  all_goals (obtain rfl | rfl | rfl | rfl | rfl : v = 1 ∨ v = 2 ∨ v = 3 ∨ v = 4 ∨ v = 5 := by omega)
  all_goals (repeat (first | simp (disch := omega) only [↓qxs, ↓qxc, ↓qxa, ↓qxb]); (try simp only [List.cons.injEq, Lf.i.injEq, and_true, true_and]); (try omega))
theorem shCell_ok {w v i : Int} (h : (1 ≤ w ∧ w ≤ 5 ∧ 1 ≤ v ∧ v ≤ 5) ∧ 0 ≤ i ∧ i < 4 * w * v) : Cc 35 [.i w, .i v, .i i] [.i (i / 4 % w), .i (i / 4 / w), .i (i % 4), .i 0] := by
  refine q35 rfl ?_; unfold p35
  obtain rfl | rfl | rfl | rfl | rfl : w = 1 ∨ w = 2 ∨ w = 3 ∨ w = 4 ∨ w = 5 := by omega
  all_goals (obtain rfl | rfl | rfl | rfl | rfl : v = 1 ∨ v = 2 ∨ v = 3 ∨ v = 4 ∨ v = 5 := by omega)
  all_goals (repeat (first | simp (disch := omega) only [↓qxs, ↓qxc, ↓qxa, ↓qxb] | refine p_call (shCheck_ok (by omega)) ?_ | refine p_call (has_t (by omega)) ?_ | refine p_call (shCell0 (by omega)) ?_); (try simp only [List.cons.injEq, Lf.i.injEq, and_true, true_and]); (try omega))
theorem shCell_no {w v i : Int} (h : (1 ≤ w ∧ w ≤ 5 ∧ 1 ≤ v ∧ v ≤ 5) ∧ ¬ (0 ≤ i ∧ i < 4 * w * v)) : Cc 35 [.i w, .i v, .i i] [.i 0, .i 0, .i 0, .i 7] := by
  refine q35 rfl ?_; unfold p35
  obtain rfl | rfl | rfl | rfl | rfl : w = 1 ∨ w = 2 ∨ w = 3 ∨ w = 4 ∨ w = 5 := by omega
  all_goals (obtain rfl | rfl | rfl | rfl | rfl : v = 1 ∨ v = 2 ∨ v = 3 ∨ v = 4 ∨ v = 5 := by omega)
  all_goals (repeat (first | simp (disch := omega) only [↓qxs, ↓qxc, ↓qxa, ↓qxb] | refine p_call (shCheck_ok (by omega)) ?_ | refine p_call (has_f (by omega)) ?_); (try simp only [List.cons.injEq, Lf.i.injEq, and_true, true_and]); (try omega))
theorem shNb_none {w v i e : Int} (h : (1 ≤ w ∧ w ≤ 5 ∧ 1 ≤ v ∧ v ≤ 5) ∧ ¬ (0 ≤ i ∧ i < 4 * w * v)) : Cc 18 [.i w, .i v, .i i, .i e] [.i 0, .i 7] := by
  refine q18 rfl ?_; unfold p18
  obtain rfl | rfl | rfl | rfl | rfl : w = 1 ∨ w = 2 ∨ w = 3 ∨ w = 4 ∨ w = 5 := by omega
  all_goals (obtain rfl | rfl | rfl | rfl | rfl : v = 1 ∨ v = 2 ∨ v = 3 ∨ v = 4 ∨ v = 5 := by omega)
  all_goals (repeat (first | simp (disch := omega) only [↓qxs, ↓qxc, ↓qxa, ↓qxb] | refine p_call (shCell_no (by omega)) ?_); (try simp only [List.cons.injEq, Lf.i.injEq, and_true, true_and]); (try omega))
theorem shNb_arg {w v i e : Int} (h : (1 ≤ w ∧ w ≤ 5 ∧ 1 ≤ v ∧ v ≤ 5) ∧ (0 ≤ i ∧ i < 4 * w * v) ∧ 2 < e) : Cc 18 [.i w, .i v, .i i, .i e] [.i 0, .i 1] := by
  refine q18 rfl ?_; unfold p18
  obtain rfl | rfl | rfl | rfl | rfl : w = 1 ∨ w = 2 ∨ w = 3 ∨ w = 4 ∨ w = 5 := by omega
  all_goals (obtain rfl | rfl | rfl | rfl | rfl : v = 1 ∨ v = 2 ∨ v = 3 ∨ v = 4 ∨ v = 5 := by omega)
  all_goals (repeat (first | simp (disch := omega) only [↓qxs, ↓qxc, ↓qxa, ↓qxb] | refine p_call (shCell_ok (by omega)) ?_ | refine p_call (cnb_no (by omega)) ?_); (try simp only [List.cons.injEq, Lf.i.injEq, and_true, true_and]); (try omega))
theorem shName_none {w v i e : Int} (h : (1 ≤ w ∧ w ≤ 5 ∧ 1 ≤ v ∧ v ≤ 5) ∧ ¬ (0 ≤ i ∧ i < 4 * w * v)) : Cc 19 [.i w, .i v, .i i, .i e] [.i 0, .i 0, .i 7] := by
  refine q19 rfl ?_; unfold p19
  obtain rfl | rfl | rfl | rfl | rfl : w = 1 ∨ w = 2 ∨ w = 3 ∨ w = 4 ∨ w = 5 := by omega
  all_goals (obtain rfl | rfl | rfl | rfl | rfl : v = 1 ∨ v = 2 ∨ v = 3 ∨ v = 4 ∨ v = 5 := by omega)
  all_goals (repeat (first | simp (disch := omega) only [↓qxs, ↓qxc, ↓qxa, ↓qxb] | refine p_call (shNb_none (by omega)) ?_); (try simp only [List.cons.injEq, Lf.i.injEq, and_true, true_and]); (try omega))
theorem shName_arg {w v i e : Int} (h : (1 ≤ w ∧ w ≤ 5 ∧ 1 ≤ v ∧ v ≤ 5) ∧ (0 ≤ i ∧ i < 4 * w * v) ∧ 2 < e) : Cc 19 [.i w, .i v, .i i, .i e] [.i 0, .i 0, .i 1] := by
  refine q19 rfl ?_; unfold p19
  obtain rfl | rfl | rfl | rfl | rfl : w = 1 ∨ w = 2 ∨ w = 3 ∨ w = 4 ∨ w = 5 := by omega
  all_goals (obtain rfl | rfl | rfl | rfl | rfl : v = 1 ∨ v = 2 ∨ v = 3 ∨ v = 4 ∨ v = 5 := by omega)
  all_goals (repeat (first | simp (disch := omega) only [↓qxs, ↓qxc, ↓qxa, ↓qxb] | refine p_call (shNb_arg (by omega)) ?_); (try simp only [List.cons.injEq, Lf.i.injEq, and_true, true_and]); (try omega))
theorem unitC {i e : Int} (h : -9223372036854775808 ≤ i ∧ i ≤ 9223372036854775807 ∧ 0 ≤ e ∧ e ≤ 255) : Cc 22 [.i i, .i e] [.i i, .i e] := by
  refine q22 rfl ?_; unfold p22
  repeat (first | simp (disch := omega) only [↓qxs, ↓qxc, ↓qxa])
  (try simp only [List.cons.injEq, Lf.i.injEq, and_true, true_and]); (try omega)
end Go.Am

/-
  CLOSED FUNCTIONS THAT THE KERNEL RUNS: their contracts.
-/
set_option maxRecDepth 100000
namespace Go.Am
open Sx Go.Proofs

/-- A closed function that a run shows to say true. -/
theorem ran {g : FuncId} {n : Nat} (hs : sgTab g = some ⟨[], [lb]⟩) (h : runR [] n (.f g) [] [] isT = true) : Cc g [] [.b true] := by
  obtain ⟨H', h1⟩ := closed_true (run_ok [] (fun _ h => by cases h) n) hs h
  intro H
  refine ⟨⟨[], [lb]⟩, [], [.leaf (.b true)], hs, ⟨rfl, rfl, fun _ h => by cases h⟩, ⟨rfl, rfl, fun x hx => ?_⟩, ⟨0, fun H => frame_ok gl_flat (uCallC_ok mixed h1) rfl rfl H, rfl⟩⟩
  simp only [List.mem_singleton] at hx
  subst hx
  intro y hy
  simp only [S0.cells, List.mem_singleton] at hy
  subst hy; trivial
end Go.Am

/-
  The examples of chapter 5.
-/
set_option maxRecDepth 100000
namespace Go.Am
open Sx Go.Proofs
theorem lives5 : Cc 21 [] [.b true] := ran (n := 60) rfl (by kernel_rfl)
end Go.Am

/-
  CONTRACTS, BY PROGRAM: SheetsCheck.
-/
set_option maxRecDepth 100000
set_option maxHeartbeats 4000000
namespace Go.Am
open Sx Go.Proofs
theorem mulb {w v : Int} (h : 1 ≤ w ∧ w ≤ 256 ∧ 1 ≤ v ∧ v ≤ 256) : 0 ≤ w * v ∧ w * v ≤ 65536 := by
  refine ⟨Int.mul_nonneg (by omega) (by omega), ?_⟩
  have := Int.mul_le_mul (show w ≤ 256 by omega) (show v ≤ 256 by omega) (by omega) (by omega)
  omega
theorem mul4 {w v : Int} : 4 * w * v = 4 * (w * v) := Int.mul_assoc 4 w v
theorem gCheck_ok {w v : Int} (h : (1 ≤ w ∧ 1 ≤ v ∧ w ≤ 256 ∧ v ≤ 256 ∧ w * v ≤ 256)) : Cc 33 [.i w, .i v] [.i 0] := by
  refine q33 rfl ?_; unfold p33
  have hm := mulb (w := w) (v := v) (by omega)
  simp (disch := omega) only [↓qxs, ↓qxc, ↓qxa]
theorem gCheck_no {w v : Int} (h : ¬ (1 ≤ w ∧ 1 ≤ v ∧ w ≤ 256 ∧ v ≤ 256 ∧ w * v ≤ 256)) : Cc 33 [.i w, .i v] [.i 1] := by
  refine q33 rfl ?_; unfold p33
  by_cases h0 : w < 1
  · simp (disch := omega) only [↓qxs, ↓qxc, ↓qxa]
  by_cases h1 : v < 1
  · simp (disch := omega) only [↓qxs, ↓qxc, ↓qxa]
  by_cases h2 : 256 < w
  · simp (disch := omega) only [↓qxs, ↓qxc, ↓qxa]
  by_cases h3 : 256 < v
  · simp (disch := omega) only [↓qxs, ↓qxc, ↓qxa]
  have hm := mulb (w := w) (v := v) (by omega)
  simp (disch := omega) only [↓qxs, ↓qxc, ↓qxa]
theorem gValid_ok {w v : Int} (h : (1 ≤ w ∧ 1 ≤ v ∧ w ≤ 256 ∧ v ≤ 256 ∧ w * v ≤ 256)) : Cc 32 [.i w, .i v] [.i 1] := by
  refine q32 rfl ?_; unfold p32
  have hm := mulb (w := w) (v := v) (by omega)
  simp (disch := omega) only [↓qxs, ↓qxc, ↓qxa]
theorem gValid_no {w v : Int} (h : ¬ (1 ≤ w ∧ 1 ≤ v ∧ w ≤ 256 ∧ v ≤ 256 ∧ w * v ≤ 256)) : Cc 32 [.i w, .i v] [.i 0] := by
  refine q32 rfl ?_; unfold p32
  by_cases h0 : w < 1
  · simp (disch := omega) only [↓qxs, ↓qxc, ↓qxa]
  by_cases h1 : v < 1
  · simp (disch := omega) only [↓qxs, ↓qxc, ↓qxa]
  by_cases h2 : 256 < w
  · simp (disch := omega) only [↓qxs, ↓qxc, ↓qxa]
  by_cases h3 : 256 < v
  · simp (disch := omega) only [↓qxs, ↓qxc, ↓qxa]
  have hm := mulb (w := w) (v := v) (by omega)
  simp (disch := omega) only [↓qxs, ↓qxc, ↓qxa]
theorem gCount_ok {w v : Int} (h : (1 ≤ w ∧ 1 ≤ v ∧ w ≤ 256 ∧ v ≤ 256 ∧ w * v ≤ 256)) : Cc 34 [.i w, .i v] [.i (4 * w * v)] := by
  refine q34 rfl ?_; unfold p34
  have hm := mulb (w := w) (v := v) (by omega)
  have h4 := mul4 (w := w) (v := v)
  repeat (first | simp (disch := omega) only [↓qxs, ↓qxc, ↓qxa] | refine p_call (gCheck_ok (by omega)) ?_)
  (try simp only [List.cons.injEq, Lf.i.injEq, and_true, true_and]); (try omega)
theorem gCount_no {w v : Int} (h : ¬ (1 ≤ w ∧ 1 ≤ v ∧ w ≤ 256 ∧ v ≤ 256 ∧ w * v ≤ 256)) : Cc 34 [.i w, .i v] [.i 0] := by
  refine q34 rfl ?_; unfold p34
  repeat (first | simp (disch := omega) only [↓qxs, ↓qxc, ↓qxa] | refine p_call (gCheck_no (by omega)) ?_)
  (try simp only [List.cons.injEq, Lf.i.injEq, and_true, true_and]); (try omega)
theorem gCell_no {w v i : Int} (h : ¬ (1 ≤ w ∧ 1 ≤ v ∧ w ≤ 256 ∧ v ≤ 256 ∧ w * v ≤ 256)) : Cc 35 [.i w, .i v, .i i] [.i 0, .i 0, .i 0, .i 1] := by
  refine q35 rfl ?_; unfold p35
  repeat (first | simp (disch := omega) only [↓qxs, ↓qxc, ↓qxa, ↓qxb] | refine p_call (gCheck_no (by omega)) ?_)
  (try simp only [List.cons.injEq, Lf.i.injEq, and_true, true_and]); (try omega)
theorem gId_no {w v x y q : Int} (h : ¬ (1 ≤ w ∧ 1 ≤ v ∧ w ≤ 256 ∧ v ≤ 256 ∧ w * v ≤ 256)) : Cc 36 [.i w, .i v, .i x, .i y, .i q] [.i 0, .i 1] := by
  refine q36 rfl ?_; unfold p36
  repeat (first | simp (disch := omega) only [↓qxs, ↓qxc, ↓qxa, ↓qxb] | refine p_call (gCheck_no (by omega)) ?_)
  (try simp only [List.cons.injEq, Lf.i.injEq, and_true, true_and]); (try omega)
theorem gNb_no {w v i e : Int} (h : ¬ (1 ≤ w ∧ 1 ≤ v ∧ w ≤ 256 ∧ v ≤ 256 ∧ w * v ≤ 256)) : Cc 18 [.i w, .i v, .i i, .i e] [.i 0, .i 1] := by
  refine q18 rfl ?_; unfold p18
  repeat (first | simp (disch := omega) only [↓qxs, ↓qxc, ↓qxa, ↓qxb] | refine p_call (gCell_no (by omega)) ?_)
  (try simp only [List.cons.injEq, Lf.i.injEq, and_true, true_and]); (try omega)
theorem gName_no {w v i e : Int} (h : ¬ (1 ≤ w ∧ 1 ≤ v ∧ w ≤ 256 ∧ v ≤ 256 ∧ w * v ≤ 256)) : Cc 19 [.i w, .i v, .i i, .i e] [.i 0, .i 0, .i 1] := by
  refine q19 rfl ?_; unfold p19
  repeat (first | simp (disch := omega) only [↓qxs, ↓qxc, ↓qxa, ↓qxb] | refine p_call (gNb_no (by omega)) ?_)
  (try simp only [List.cons.injEq, Lf.i.injEq, and_true, true_and]); (try omega)
theorem gNamed_no {w v i e : Int} (h : ¬ (1 ≤ w ∧ 1 ≤ v ∧ w ≤ 256 ∧ v ≤ 256 ∧ w * v ≤ 256)) : Cc 69 [.i w, .i v, .i i, .i e] [.i 0, .i 0, .i 0, .i 1] := by
  refine q69 rfl ?_; unfold p69
  repeat (first | simp (disch := omega) only [↓qxs, ↓qxc, ↓qxa, ↓qxb] | refine p_call (gCheck_no (by omega)) ?_)
  (try simp only [List.cons.injEq, Lf.i.injEq, and_true, true_and]); (try omega)
theorem gLine_no {w v i e : Int} (h : ¬ (1 ≤ w ∧ 1 ≤ v ∧ w ≤ 256 ∧ v ≤ 256 ∧ w * v ≤ 256)) : Cc 26 [.i w, .i v, .i i, .i e] [.i 0, .i 0, .i 1] := by
  refine q26 rfl ?_; unfold p26
  repeat (first | simp (disch := omega) only [↓qxs, ↓qxc, ↓qxa, ↓qxb] | refine p_call (gNamed_no (by omega)) ?_)
  (try simp only [List.cons.injEq, Lf.i.injEq, and_true, true_and]); (try omega)
theorem gEnds_no {w v i e : Int} (h : ¬ (1 ≤ w ∧ 1 ≤ v ∧ w ≤ 256 ∧ v ≤ 256 ∧ w * v ≤ 256)) : Cc 25 [.i w, .i v, .i i, .i e] [.i 0, .i 0, .i 0, .i 0, .i 1] := by
  refine q25 rfl ?_; unfold p25
  repeat (first | simp (disch := omega) only [↓qxs, ↓qxc, ↓qxa, ↓qxb] | refine p_opt_r (by simp only [pickL, putL, offX, Int.reduceToNat, Int.reduceAdd, Int.reduceMul, Int.reduceMod, Int.reduceSub, Int.reduceNeg, Int.reduceDiv, Nat.reduceAdd, Nat.reduceMul, Nat.reduceLeDiff, List.length_cons, List.length_nil, ↓reduceIte, List.drop_succ_cons, List.drop_zero, List.take_succ_cons, List.take_zero, List.cons_append, List.nil_append, Nat.zero_add, Int.toNat_zero, Nat.zero_mul, Nat.add_zero, Int.zero_add]; exact rfl) ?_ | refine p_call (gNamed_no (by omega)) ?_)
  (try simp only [List.cons.injEq, Lf.i.injEq, and_true, true_and]); (try omega)
theorem gUnits_no {w v : Int} (h : ¬ (1 ≤ w ∧ 1 ≤ v ∧ w ≤ 256 ∧ v ≤ 256 ∧ w * v ≤ 256)) (H : HL) : CallL cc sgTab 23 [.i w, .i v] (absH siteTab H) [.v (.slice none 0 0), .i 1] (absH siteTab H) := by
  obtain ⟨rs, H', h1, rfl, rfl⟩ := u23 (ls := [.i w, .i v]) (H := H) (K := fun rs h' => rs = [.v (.slice none 0 0), .i 1] ∧ h' = H) rfl (by
    unfold p23
    simp (disch := omega) only [↓qxs, ↓qxc, ↓qxa]
    refine p_call (gCheck_no h) ?_
    (try simp (disch := omega) only [↓qxs, ↓qxc, ↓qxa])
    (try exact ⟨rfl, rfl⟩)
    (try exact ⟨trivial, trivial⟩))
  exact h1
theorem gPoints_no {w v : Int} (h : ¬ (1 ≤ w ∧ 1 ≤ v ∧ w ≤ 256 ∧ v ≤ 256 ∧ w * v ≤ 256)) (H : HL) : CallL cc sgTab 29 [.i w, .i v] (absH siteTab H) [.v (.slice none 0 0), .i 1] (absH siteTab H) := by
  obtain ⟨rs, H', h1, rfl, rfl⟩ := u29 (ls := [.i w, .i v]) (H := H) (K := fun rs h' => rs = [.v (.slice none 0 0), .i 1] ∧ h' = H) rfl (by
    unfold p29
    simp (disch := omega) only [↓qxs, ↓qxc, ↓qxa]
    refine p_call (gCheck_no h) ?_
    (try simp (disch := omega) only [↓qxs, ↓qxc, ↓qxa])
    (try exact ⟨rfl, rfl⟩)
    (try exact ⟨trivial, trivial⟩))
  exact h1
theorem gCells_no {w v : Int} (h : ¬ (1 ≤ w ∧ 1 ≤ v ∧ w ≤ 256 ∧ v ≤ 256 ∧ w * v ≤ 256)) (H : HL) : CallL cc sgTab 37 [.i w, .i v] (absH siteTab H) [.v (.slice none 0 0), .i 1] (absH siteTab H) := by
  obtain ⟨rs, H', h1, rfl, rfl⟩ := u37 (ls := [.i w, .i v]) (H := H) (K := fun rs h' => rs = [.v (.slice none 0 0), .i 1] ∧ h' = H) rfl (by
    unfold p37
    simp (disch := omega) only [↓qxs, ↓qxc, ↓qxa]
    refine p_call (gCheck_no h) ?_
    (try simp (disch := omega) only [↓qxs, ↓qxc, ↓qxa])
    (try exact ⟨rfl, rfl⟩)
    (try exact ⟨trivial, trivial⟩))
  exact h1
theorem sheetsCheck_any {w v i : Int} (h : -9223372036854775808 ≤ w ∧ w ≤ 9223372036854775807 ∧ -9223372036854775808 ≤ v ∧ v ≤ 9223372036854775807 ∧ -9223372036854775808 ≤ i ∧ i ≤ 9223372036854775807) : Cc 6 [.i w, .i v, .i i] [.b true] := by
  refine q6 rfl ?_; unfold p6
  by_cases hg : (1 ≤ w ∧ 1 ≤ v ∧ w ≤ 256 ∧ v ≤ 256 ∧ w * v ≤ 256)
  · have hm := mulb (w := w) (v := v) (by omega)
    have h4 := mul4 (w := w) (v := v)
    repeat (first | simp (disch := omega) only [↓qxs, ↓qxc, ↓qxa, ↓qxb] | refine p_call (gCheck_ok hg) ?_ | refine p_call (gValid_ok hg) ?_ | refine p_call (gCount_ok hg) ?_ | refine p_call lives5 ?_)
  · repeat (first | simp (disch := omega) only [↓qxs, ↓qxc, ↓qxa, ↓qxb] | refine p_call (gCheck_no hg) ?_ | refine p_call (gValid_no hg) ?_ | refine p_call (gCount_no hg) ?_ | refine p_call (gCell_no hg) ?_ | refine p_call (gId_no hg) ?_ | refine p_call (gNb_no hg) ?_ | refine p_call (gName_no hg) ?_ | refine p_call (gLine_no hg) ?_ | refine p_call (gEnds_no hg) ?_ | refine p_callH (gUnits_no hg _) ?_ | refine p_callH (gPoints_no hg _) ?_ | refine p_callH (gCells_no hg _) ?_ | refine p_call lives5 ?_ | refine p_loop 12 ?_ | refine p_opt_r (x := (10 : Int)) rfl ?_ | refine p_opt_r (x := .pointer (some ⟨0, _, none⟩)) rfl ?_ | refine p_peek_r (cs := [.int .i64 _]) rfl ?_)
end Go.Am

/-
  ARGUMENTS WITHOUT ADDRESSES, as the row reads them.
-/
namespace Go.Am
namespace Sx
open Go.ChangeShapes Go.WideShapes Go.ChangeAt Go.WideMaps Go.WideElems Go.RowKit

/-- The cells are of these kinds, in their ranges. -/
def FitC : List LK → List Value → Prop
  | [], [] => True
  | .i k :: ks, v :: vs => (∃ n, v = .int k n ∧ (Lit.int k n).wf = true) ∧ FitC ks vs
  | .b :: ks, v :: vs => (∃ t, v = .bool t) ∧ FitC ks vs
  | _, _ => False
/-- The leaves are of these kinds, in their ranges. -/
def FitL : List LK → List Lf → Prop
  | [], [] => True
  | .i k :: ks, .i n :: ls => (Lit.int k n).wf = true ∧ FitL ks ls
  | .b :: ks, .b _ :: ls => FitL ks ls
  | _, _ => False

theorem FitC.len : ∀ {ks : List LK} {vs : List Value}, FitC ks vs → vs.length = ks.length
  | [], [], _ => rfl
  | .i k :: ks, v :: vs, h => by simp [FitC.len h.2]
  | .b :: ks, v :: vs, h => by simp [FitC.len h.2]
  | .v :: _, _, h => by cases h
  | [], _ :: _, h => by cases h
  | .i _ :: _, [], h => by cases h
  | .b :: _, [], h => by cases h
theorem FitC.app : ∀ {ks ks' : List LK} {vs vs' : List Value}, FitC ks vs → FitC ks' vs' → FitC (ks ++ ks') (vs ++ vs')
  | [], _, [], _, _, h => h
  | .i k :: ks, _, v :: vs, _, h, h' => ⟨h.1, FitC.app h.2 h'⟩
  | .b :: ks, _, v :: vs, _, h, h' => ⟨h.1, FitC.app h.2 h'⟩
  | .v :: _, _, _, _, h, _ => by cases h
  | [], _, _ :: _, _, h, _ => by cases h
  | .i _ :: _, _, [], _, h, _ => by cases h
  | .b :: _, _, [], _, h, _ => by cases h
theorem FitL.app : ∀ {ks ks' : List LK} {vs vs' : List Lf}, FitL ks vs → FitL ks' vs' → FitL (ks ++ ks') (vs ++ vs')
  | [], _, [], _, _, h => h
  | .i k :: ks, _, .i v :: vs, _, h, h' => ⟨h.1, FitL.app h.2 h'⟩
  | .b :: ks, _, .b v :: vs, _, h, h' => FitL.app (ks := ks) h h'
  | .v :: _, _, _, _, h, _ => by cases h
  | [], _, _ :: _, _, h, _ => by cases h
  | .i _ :: _, _, [], _, h, _ => by cases h
  | .b :: _, _, [], _, h, _ => by cases h
  | .i _ :: _, _, .b _ :: _, _, h, _ => by cases h
  | .i _ :: _, _, .v _ :: _, _, h, _ => by cases h
  | .b :: _, _, .i _ :: _, _, h, _ => by cases h
  | .b :: _, _, .v _ :: _, _, h, _ => by cases h
/-- Cells as leaves. -/
theorem FitC.sl : ∀ {ks : List LK} {vs : List Value}, FitC ks vs → ∃ xs : List SL, xs.map SL.val = vs ∧ allIs xs ks = true ∧ (∀ x ∈ xs, x.good) ∧ FitL ks (xs.map SL.lf)
  | [], [], _ => ⟨[], rfl, rfl, fun _ h => (by cases h), trivial⟩
  | .i k :: ks, v :: vs, h => by
    obtain ⟨⟨n, rfl, hw⟩, h2⟩ := h
    obtain ⟨xs, a, b, c, d⟩ := FitC.sl h2
    exact ⟨.i k n :: xs, by simp [a, SL.val], by simp [allIs, b, SL.is, kSame_self], fun x hx => by
      rcases List.mem_cons.1 hx with rfl | hx
      · trivial
      · exact c x hx, hw, d⟩
  | .b :: ks, v :: vs, h => by
    obtain ⟨⟨n, rfl⟩, h2⟩ := h
    obtain ⟨xs, a, b, c, d⟩ := FitC.sl h2
    exact ⟨.b n :: xs, by simp [a, SL.val], by simp [allIs, b, SL.is], fun x hx => by
      rcases List.mem_cons.1 hx with rfl | hx
      · trivial
      · exact c x hx, d⟩
  | .v :: _, _, h => by cases h
  | [], _ :: _, h => by cases h
  | .i _ :: _, [], h => by cases h
  | .b :: _, [], h => by cases h

/-- The kinds of the cells of a type of numbers, truth values and structs. -/
def flatF (F : TypeId → Option (List LK)) : List Field → Nat → Option (List LK)
  | [], _ => some []
  | f :: fs, off => match Nat.beq f.offset off, F f.type with
    | true, some ks => (flatF F fs (off + ks.length)).map (ks ++ ·)
    | _, _ => none
def flatT (P : Program) : Nat → TypeId → Option (List LK)
  | 0, _ => none
  | d + 1, t => match P.underlying t with
    | some (.int k) => some [.i k]
    | some .bool => some [.b]
    | some (.struct fs) => match flatF (flatT P d) fs.toList 0 with
      | some ks => match Nat.beq ks.length (P.cellsOf t) with
        | true => some ks
        | false => none
      | none => none
    | _ => none
def skT (P : Program) (t : TypeId) : Option SK :=
  match P.underlying t with
  | some (.int k) => some (.leaf (.i k))
  | some .bool => some (.leaf .b)
  | some (.struct _) => (flatT P 20 t).map .agg
  | _ => none

section
variable {H : Type} {enc : TypeId × Value → H} {P : Program}

theorem take_take_len {α : Type} (l : List α) (c : Nat) : l.take (l.take c).length = l.take c := by
  rw [List.length_take]
  rcases Nat.le_total c l.length with h | h
  · rw [Nat.min_eq_left h]
  · rw [Nat.min_eq_right h, List.take_of_length_le h, List.take_of_length_le (Nat.le_refl _)]

theorem flatF_ok {F : TypeId → Option (List LK)} {w : World} {base : Nat} {sp : Nat → Bool} {held : Bool} {fuel : Nat}
    (hF : ∀ t ks, F t = some ks → ∀ cs (x : DataW H × List MemPlace), DataW.trod enc P w base sp held fuel t cs = some x → x.2 = [] ∧ FitC ks cs ∧ ∀ w' b' s' h', DataW.trod enc P w' b' s' h' fuel t cs = some x) (cs : List Value) :
    ∀ (fs : List Field) (off : Nat) (ks : List LK) (xs : List (DataW H × List MemPlace)), flatF F fs off = some ks → fs.mapM (fun f => DataW.trod enc P w base sp held fuel f.type ((cs.drop f.offset).take (P.cellsOf f.type))) = some xs →
      xs.flatMap (·.2) = [] ∧ FitC ks ((cs.drop off).take ks.length) ∧ ∀ w' b' s' h', fs.mapM (fun f => DataW.trod enc P w' b' s' h' fuel f.type ((cs.drop f.offset).take (P.cellsOf f.type))) = some xs
  | [], off, ks, xs, h1, h2 => by
    simp only [flatF, Option.some.injEq] at h1
    subst h1
    simp only [List.mapM_nil, Option.pure_def, Option.some.injEq] at h2
    subst h2
    refine ⟨rfl, by simp [FitC], fun _ _ _ _ => by simp⟩
  | f :: fs, off, ks, xs, h1, h2 => by
    simp only [flatF] at h1
    split at h1
    · rename_i k1 e1 e2
      obtain ⟨k2, e3, rfl⟩ := Option.map_eq_some_iff.1 h1
      have e1 := Nat.eq_of_beq_eq_true e1
      rw [List.mapM_cons] at h2
      obtain ⟨x, h3, h2⟩ := Option.bind_eq_some_iff.1 h2
      obtain ⟨ys, h4, h2⟩ := Option.bind_eq_some_iff.1 h2
      cases h2
      obtain ⟨a1, a2, a3⟩ := hF _ _ e2 _ _ h3
      obtain ⟨b1, b2, b3⟩ := flatF_ok hF cs fs _ k2 ys e3 h4
      refine ⟨by simp [a1, b1], ?_, fun w' b' s' h' => ?_⟩
      · rw [List.length_append, List.take_add]
        refine FitC.app ?_ (by rw [List.drop_drop]; exact b2)
        have hl := FitC.len a2
        rw [e1] at a2 hl
        rw [← hl, take_take_len]
        exact a2
      · rw [List.mapM_cons, a3 w' b' s' h', b3 w' b' s' h']
        rfl
    · cases h1

theorem flatT_ok : ∀ (d : Nat) (t : TypeId) (ks : List LK), flatT P d t = some ks → ∀ (w : World) (base : Nat) (sp : Nat → Bool) (held : Bool) (fuel : Nat) (cs : List Value) (x : DataW H × List MemPlace), DataW.trod enc P w base sp held fuel t cs = some x →
    x.2 = [] ∧ FitC ks cs ∧ ∀ w' b' s' h', DataW.trod enc P w' b' s' h' fuel t cs = some x
  | 0, _, _, h => by cases h
  | d + 1, t, ks, h => by
    intro w base sp held fuel cs x hx
    simp only [flatT] at h
    split at h
    · rename_i k e
      cases h
      obtain ⟨n, rfl, rfl, hw⟩ := DataW.trod_int e hx
      refine ⟨rfl, ⟨⟨n, rfl, hw⟩, trivial⟩, fun w' b' s' h' => ?_⟩
      cases fuel with
      | zero => simp [DataW.trod] at hx
      | succ m => simp [DataW.trod, e, hw]
    · rename_i e
      cases h
      obtain ⟨n, rfl, rfl⟩ := DataW.trod_bool e hx
      refine ⟨rfl, ⟨⟨n, rfl⟩, trivial⟩, fun w' b' s' h' => ?_⟩
      cases fuel with
      | zero => simp [DataW.trod] at hx
      | succ m => simp [DataW.trod, e]
    · rename_i fs e
      split at h
      · rename_i k2 e2
        split at h
        · rename_i e3
          cases h
          have e3 := Nat.eq_of_beq_eq_true e3
          cases fuel with
          | zero => simp [DataW.trod] at hx
          | succ m =>
            simp only [DataW.trod, e] at hx
            split at hx
            · rename_i hl
              obtain ⟨xs, h5, rfl⟩ := Option.map_eq_some_iff.1 hx
              obtain ⟨a1, a2, a3⟩ := flatF_ok (fun t ks h cs x hx => flatT_ok d t ks h w base sp held m cs x hx) cs fs.toList 0 ks xs e2 h5
              rw [List.drop_zero, List.take_of_length_le (by omega)] at a2
              refine ⟨a1, a2, fun w' b' s' h' => ?_⟩
              simp only [DataW.trod, e, hl, if_true]
              rw [a3 w' b' s' h']
              rfl
            · cases hx
        · cases h
      · cases h
    · cases h

theorem open_flat {w : World} {r : Reach} {b0 base : Nat} {sp : Nat → Bool} {held : Bool} {t : TypeId} {sk : SK} {v : Value} {d : DataW H} {ps : List MemPlace} (h : skT P t = some sk) (hval : Value.okWide P w r b0 t v) (hd : DataW.Trod enc P w base sp held t v d ps) :
    ∃ x : S0, v = x.val ∧ x.is sk = true ∧ x.good ∧ FitL (skKs sk) (x.cells.map SL.lf) ∧ ps = [] ∧ ∀ w' b' s' h', DataW.Trod enc P w' b' s' h' t v d [] := by
  unfold skT at h
  split at h
  · rename_i k e
    cases h
    obtain ⟨n, rfl, rfl, rfl, hw⟩ := open_int e hval hd
    refine ⟨.leaf (.i k n), rfl, by simp [S0.is, SL.is, kSame_self], fun x hx => ?_, ⟨hw, trivial⟩, rfl, fun w' b' s' h' => shut_int e hw⟩
    simp only [S0.cells, List.mem_singleton] at hx
    subst hx; trivial
  · rename_i e
    cases h
    obtain ⟨n, rfl, rfl, rfl⟩ := open_bool e hval hd
    refine ⟨.leaf (.b n), rfl, rfl, fun x hx => ?_, trivial, rfl, fun w' b' s' h' => shut_bool e n⟩
    simp only [S0.cells, List.mem_singleton] at hx
    subst hx; trivial
  · rename_i fs e
    obtain ⟨ks, e2, rfl⟩ := Option.map_eq_some_iff.1 h
    obtain ⟨cs, rfl, hc⟩ := okWide_struct e hval
    obtain ⟨fuel, hf⟩ := hd
    obtain ⟨a1, a2, a3⟩ := flatT_ok 20 t ks e2 w base sp held fuel _ _ hf
    obtain ⟨xs, b1, b2, b3, b4⟩ := FitC.sl a2
    have a1 : ps = [] := a1
    subst a1
    refine ⟨.agg xs, ?_, b2, b3, b4, rfl, fun w' b' s' h' => ⟨fuel, a3 w' b' s' h'⟩⟩
    show Value.agg cs = .agg ⟨xs.map SL.val⟩
    rw [b1]
    rfl
  · cases h

def skTs (P : Program) : List TypeId → Option (List SK)
  | [] => some []
  | t :: ts => match skT P t, skTs P ts with
    | some k, some ks => some (k :: ks)
    | _, _ => none

theorem open_args {w : World} {b0 base : Nat} {r : Reach} {sp : Nat → Bool} {held : Bool} : ∀ (ts : List TypeId) (sks : List SK) (vs : List Value) (ds : List (DataW H)) (ps : List MemPlace), skTs P ts = some sks →
    (∀ (j : Nat) t v, ts[j]? = some t → vs[j]? = some v → Value.okWide P w r b0 t v) → DataW.TrodAll enc P w base sp held ts vs ds ps →
    ∃ xs : List S0, vs = valsOf xs ∧ areIs xs sks = true ∧ (∀ x ∈ xs, x.good) ∧ FitL (sks.flatMap skKs) (lfsOf xs) ∧ ps = [] ∧ ∀ w' b' s' h', DataW.TrodAll enc P w' b' s' h' ts vs ds []
  | [], sks, [], [], ps, h, _, ht => by
    cases h
    have ht : ps = [] := ht
    exact ⟨[], rfl, rfl, fun _ h => (by cases h), trivial, ht, fun _ _ _ _ => rfl⟩
  | t :: ts, sks, v :: vs, d :: ds, ps, h, hv, ht => by
    simp only [skTs] at h
    split at h
    · rename_i k ks e1 e2
      cases h
      obtain ⟨p, q, h1, h2, rfl⟩ := ht
      obtain ⟨x, a1, a2, a3, a4, rfl, a6⟩ := open_flat e1 (hv 0 t v rfl rfl) h1
      obtain ⟨xs, b1, b2, b3, b4, rfl, b6⟩ := open_args ts ks vs ds q e2 (fun j t v h1 h2 => hv (j + 1) t v h1 h2) h2
      refine ⟨x :: xs, by rw [a1, b1]; rfl, by simp [areIs, a2, b2], fun y hy => ?_, ?_, rfl, fun w' b' s' h' => ⟨[], [], a6 w' b' s' h', b6 w' b' s' h', rfl⟩⟩
      · rcases List.mem_cons.1 hy with rfl | hy
        · exact a3
        · exact b3 y hy
      · exact FitL.app a4 b4
    · cases h
  | [], _, _ :: _, _, _, _, _, ht => by cases ht
  | [], _, [], _ :: _, _, _, _, ht => by cases ht
  | _ :: _, _, [], _, _, _, _, ht => by cases ht
  | _ :: _, _, _ :: _, [], _, _, _, ht => by cases ht
end

section
variable [Val]
/-- A contract, as a call. -/
theorem callok_of_ct {C : Cfg} {Sg : FuncId → Option Sig} (hm : C.P.follows .mixedOrders = true) {g : FuncId} {sg : Sig} (hs : Sg g = some sg) {ls rs : List Lf} (hc : Ct C Sg g ls rs) {xs ys : List S0} (h1 : areIs xs sg.ps = true) (h2 : lfsOf xs = ls) (h3 : areIs ys sg.rs = true) (h4 : lfsOf ys = rs) (H : List HObj) :
    CallOk C g (valsOf xs) H (packA (valsOf ys)) H := by
  let _ : Kno := KnoC C
  obtain ⟨sg', xs', ys', c1, c2, c3, c4⟩ := hc H
  rw [hs] at c1
  cases c1
  obtain ⟨w1, _⟩ := areIs_val c2.1 h1 (c2.2.1.trans h2.symm)
  obtain ⟨w2, _⟩ := areIs_val c3.1 h3 (c3.2.1.trans h4.symm)
  rw [w1, w2] at c4
  exact uCallC_ok hm c4
end
end Sx
end Go.Am
namespace Go.Am
namespace Sx
theorem FitL.i {k : IntKind} {ks : List LK} {ls : List Lf} (h : FitL (.i k :: ks) ls) : ∃ n r, ls = .i n :: r ∧ (Lit.int k n).wf = true ∧ FitL ks r := by
  match ls, h with
  | .i n :: r, h => exact ⟨n, r, rfl, h.1, h.2⟩
theorem FitL.b {ks : List LK} {ls : List Lf} (h : FitL (.b :: ks) ls) : ∃ n r, ls = .b n :: r ∧ FitL ks r := by
  match ls, h with
  | .b n :: r, h => exact ⟨n, r, rfl, h⟩
theorem FitL.nil {ls : List Lf} (h : FitL [] ls) : ls = [] := by
  match ls, h with
  | [], _ => rfl
theorem wf_i64 {n : Int} (h : (Lit.int .i64 n).wf = true) : -9223372036854775808 ≤ n ∧ n ≤ 9223372036854775807 := by
  simp only [Lit.wf, Bool.and_eq_true, decide_eq_true_eq] at h
  exact h
theorem wf_u8 {n : Int} (h : (Lit.int .u8 n).wf = true) : 0 ≤ n ∧ n ≤ 255 := by
  simp only [Lit.wf, Bool.and_eq_true, decide_eq_true_eq] at h
  exact h
theorem wf_i8 {n : Int} (h : (Lit.int .i8 n).wf = true) : -128 ≤ n ∧ n ≤ 127 := by
  simp only [Lit.wf, Bool.and_eq_true, decide_eq_true_eq] at h
  exact h
theorem trodAll_len {H : Type} {enc : TypeId × Value → H} {P : Program} {w : World} {base : Nat} {sp : Nat → Bool} {held : Bool} : ∀ {ts : List TypeId} {vs : List Value} {ds : List (DataW H)} {ps : List MemPlace}, DataW.TrodAll enc P w base sp held ts vs ds ps → ds.length = ts.length
  | [], [], [], _, _ => rfl
  | _ :: _, _ :: _, _ :: _, _, h => by
    obtain ⟨p, q, _, h2, _⟩ := h
    simp [trodAll_len h2]
  | [], _ :: _, _, _, h => by cases h
  | [], [], _ :: _, _, h => by cases h
  | _ :: _, [], _, _, h => by cases h
  | _ :: _, _ :: _, [], _, h => by cases h
end Sx
end Go.Am

/-
  WHAT THE ROW SAYS OF THE LISTED VARIABLES: the table of the quarters.
-/
set_option maxRecDepth 100000
namespace Go.Proofs.YtdngmncaohgacaaDoor
open Go Go.Am Go.Am.Sx
open Go.ChangeShapes Go.WideShapes Go.ChangeAt Go.WideMaps Go.WideElems Go.RowKit

abbrev laidC : List (String × DataW Unit) := [("crimp/cells.quarters", Rows.laid_crimp_cells_quarters)]
theorem name0 : Tryd.prog.globalNamed "crimp/cells.quarters" = some 0 := by kernel_rfl
/-- What the list gives. -/
theorem of_laid {W : World} (h : laidMetH Tryd.prog laidC W) (g : Nat) (vs : List Value) (hg : cc.G g = some vs) :
    g < W.heap.size ∧ vs.all cellOk = true ∧ vs.all flat = true ∧ ∃ c e fr, W.heap[g]? = some (.cells c e fr) ∧ c.toList = vs := by
  rw [MakeChecks.laidMetH_plain _ _ _ (by kernel_rfl)] at h
  obtain ⟨ps, h, _, _⟩ := h
  have main : ∃ c e fr, W.heap[g]? = some (.cells c e fr) ∧ c.toList = vs := by
    unfold cc at hg
    simp only at hg
    split at hg
    · cases hg
      exact laid_cells h "crimp/cells.quarters" Rows.laid_crimp_cells_quarters List.mem_cons_self 0 137 8 gl0 name0 (by kernel_rfl) (by kernel_rfl)
    · cases hg
  refine ⟨?_, gl_cell g vs hg, gl_flat g vs hg, main⟩
  obtain ⟨c, e, fr, h1, _⟩ := main
  rcases Nat.lt_or_ge g W.heap.size with h | h
  · exact h
  · rw [Array.getElem?_eq_none h] at h1; cases h1
theorem own : ownKnob Tryd.prog.godebug = none := by kernel_rfl
theorem door_met (os : Os) (args : Array Value) : laidMetH Tryd.prog laidC ((World.doorLaid Tryd.prog 400 os).forCall (fun _ _ => 0) ⟨#[], args, []⟩).memory :=
  laidMetH_of_parts3 (fuel := 8) (laidMet_of_run' 8 (by kernel_rfl) (by kernel_rfl)) (by kernel_rfl) (by kernel_rfl)
end Go.Proofs.YtdngmncaohgacaaDoor

