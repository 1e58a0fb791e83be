/-
  PART 13 OF THE PROOF: Ph1 Ph2 Pq Ls8 Cd1 Cd2 (no conditions).
-/
import Derived.Test.YtdngmncaohgacaaDoorQk12
import Derived.SevenTiedAt
import Derived.Test.YtdngmncaohgacaaDoorCards
import Derived.Test.YtdngmncaohgacaaDoorTie
set_option linter.unusedSectionVars false
set_option linter.unusedSimpArgs false
set_option linter.unusedVariables false
set_option linter.constructorNameAsVariable false
set_option linter.defProp false
/-
  THE ALGEBRA OF PROPOSITIONS OVER THE HEAPS OF RUNS; what a run shows holds in it.
-/
namespace Go.Am
namespace Sx

section
variable [Val] [Kno]

def peekH (T : Nat → Site) (f : Pk) (h : HL) (K : List Value → Prop) : Prop := ∃ cs, f.run (getH T h) = some cs ∧ K cs
def heapH (T : Nat → Site) (f : Hp) (h : HL) (K : List Value → HL → Prop) : Prop := ∃ acts cs, f.run (getH T h) h.length = some (acts, cs) ∧ K cs (actsOnH h acts)
def callH (C : Cfg) (Sg : FuncId → Option Sig) (T : Nat → Site) (g : FuncId) (ls : List Lf) (h : HL) (K : List Lf → HL → Prop) : Prop := ∃ rs h', CallL C Sg g ls (absH T h) rs (absH T h') ∧ K rs h'
def callvH (C : Cfg) (T : Nat → Site) (v : Value) (args : List Value) (hs : List SK) (h : HL) (K : List Lf → HL → Prop) : Prop := ∃ rs h', CallV C v args hs (absH T h) rs (absH T h') ∧ K rs h'
noncomputable def itH (F : (List Lf → HL → Prop) → List Lf → HL → Prop) (n : Nat) : List Lf → HL → Prop :=
  match n with
  | 0 => fun _ _ => False
  | n + 1 => F (itH F n)
def loopH (F : (List Lf → HL → Prop) → List Lf → HL → Prop) (ls : List Lf) (h : HL) : Prop := ∃ n, itH F n ls h
def rfunH (C : Cfg) (T : Nat → Site) (κ : Nat) (v : Value) (vals : List Value) (h : HL) (K : Option Code → HL → Prop) : Prop :=
  ∃ g first cap r H1 lp h2, v = .func (.func g) first cap ∧
    uCall C g (first.toList ++ [.func (.yield (absH T h).length) #[] #[]] ++ cap.toList) (absH T h ++ [.loop (lpOf (T κ) κ vals)]) r H1 ∧
    hloop H1 (absH T h).length = some lp ∧ lp.state ≠ .busy ∧ absH T h2 = H1.set (absH T h).length (.loop { lp with state := .exhausted }) ∧ K lp.pending h2
def lp1H (T : Nat → Site) (l : Nat) (h : HL) (K : HL → Prop) : Prop := ∃ lp h', hloop (absH T h) l = some lp ∧ lp.state = .ready ∧ absH T h' = (absH T h).set l (.loop { lp with state := .busy }) ∧ K h'
def lp2H (T : Nat → Site) (l : Nat) (j : Option Code) (h : HL) (K : HL → Prop) : Prop := ∃ lp h', hloop (absH T h) l = some lp ∧ absH T h' = (absH T h).set l (.loop { lp with state := if j.isNone then .ready else .done, pending := j }) ∧ K h'

noncomputable def PH (C : Cfg) (Sg : FuncId → Option Sig) (T : Nat → Site) : Alg Prop HL where
  fail := False
  cond := condP
  ari := ariP
  shf := fun op k a k' b K => ∃ n, ShRun op k a k' b n ∧ K n
  cmp := cmpP
  eqs := fun l K => K (eqAll l)
  conv := fun k a K => K (k.wrap a)
  sel := fun t a b K => K (if t then a else b)
  opt := optP
  chk := fun v K => goodV v = true ∧ K
  unI := unIP
  unB := unBP
  unV := unVP
  un0 := un0P
  ucI := ucIP
  ucB := ucBP
  ucV := ucVP
  uc0 := uc0P
  peek := peekH T
  heap := heapH T
  new := fun o h K => K h.length (h ++ [.o o])
  call := callH C Sg T
  callv := callvH C T
  join := fun b m => m b
  loop := loopH
  rfun := rfunH C T
  pend := pendP
  lp1 := lp1H T
  lp2 := lp2H T

theorem PH_ok (C : Cfg) (Sg : FuncId → Option Sig) (T : Nat → Site) : AlgOk (PH C Sg T) C Sg T id (absH T) where
  fail := (PA_ok C Sg T).fail
  cond := (PA_ok C Sg T).cond
  ari := (PA_ok C Sg T).ari
  shf := (PA_ok C Sg T).shf
  cmp := (PA_ok C Sg T).cmp
  eqs := (PA_ok C Sg T).eqs
  conv := (PA_ok C Sg T).conv
  sel := (PA_ok C Sg T).sel
  opt := (PA_ok C Sg T).opt
  chk := (PA_ok C Sg T).chk
  unI := (PA_ok C Sg T).unI
  unB := (PA_ok C Sg T).unB
  unV := (PA_ok C Sg T).unV
  un0 := (PA_ok C Sg T).un0
  ucI := (PA_ok C Sg T).ucI
  ucB := (PA_ok C Sg T).ucB
  ucV := (PA_ok C Sg T).ucV
  uc0 := (PA_ok C Sg T).uc0
  peek := by
    intro f h K hk
    obtain ⟨cs, h1, h2⟩ := hk
    exact ⟨cs, by rw [← getH_eq]; exact h1, h2⟩
  heap := by
    intro f h K hk
    obtain ⟨acts, cs, h1, h2⟩ := hk
    exact ⟨acts, cs, _, by rw [← getH_eq, absH_len]; exact h1, actsOnH_ok T acts h, h2⟩
  new := fun o h K hk => ⟨_, absH_push T h _, by rw [absH_len]; exact hk⟩
  call := fun g ls h K hk => hk
  callv := fun v args hs h K hk => hk
  join := fun b m h => h
  loop := by
    intro F ls h hk
    obtain ⟨n, hk⟩ := hk
    exact ⟨itH F, fun ls h => (id : False → False), fun n ls h => rfl, n, hk⟩
  rfun := fun κ v vals h K hk => hk
  pend := (PA_ok C Sg T).pend
  lp1 := fun l h K hk => hk
  lp2 := fun l j h K hk => hk

/-! ### What a run shows -/
section
variable {C : Cfg} {Sg : FuncId → Option Sig} {T : Nat → Site} {call : CallB} (hc : CallBOk C Sg T call)
abbrev KLe (K : List Lf → HTr → RT) (K' : List Lf → HL → Prop) : Prop := ∀ ls h, K ls h = yes → K' ls (toL h)
include hc

theorem s_fail {X : Prop} : (BA Sg T call).fail = yes → X := fun h => by cases h
theorem s_cond {b : Bool} {x y : RT} {x' y' : Prop} (hx : x = yes → x') (hy : y = yes → y') (h : (BA Sg T call).cond b x y = yes) : (PH C Sg T).cond b x' y' := by
  rcases (BA_ok hc).cond b x y h with ⟨rfl, h⟩ | ⟨rfl, h⟩
  · exact ⟨fun _ => hx h, fun e => (by cases e)⟩
  · exact ⟨fun e => (by cases e), fun _ => hy h⟩
theorem s_ari {op : BinOp} {k : IntKind} {a b : Int} {K : Int → RT} {K' : Int → Prop} (hk : ∀ n, K n = yes → K' n) (h : (BA Sg T call).ari op k a b K = yes) : (PH C Sg T).ari op k a b K' := by
  replace h : ariB op k a b K = yes := h
  show ariP op k a b K'
  cases op <;> simp only [ariB, reduceCtorEq] at h <;> simp only [ariP]
  · rw [addK_eq, outK_eq] at h; exact hk _ h
  · rw [subK_eq, outK_eq] at h; exact hk _ h
  · rw [mulK_eq, outK_eq] at h; exact hk _ h
  · cases hb : isZ b with
    | true => rw [hb] at h; cases h
    | false => rw [hb] at h; simp only [quoK_eq, outK_eq] at h; exact ⟨isZ_false hb, hk _ h⟩
  · cases hb : isZ b with
    | true => rw [hb] at h; cases h
    | false => rw [hb] at h; simp only [remK_eq] at h; exact ⟨isZ_false hb, hk _ h⟩
  · split at h
    · rename_i hb
      have hb := eqI_iff.1 hb
      subst hb
      rw [fI_eq] at h
      exact .inl ⟨rfl, hk _ h⟩
    · rename_i hb
      split at h
      · rw [fI_eq] at h
        exact .inr ⟨eqI_false.1 hb, _, run_and_nat _ _, hk _ (fitsK h)⟩
      · cases h
theorem s_cmp {op : BinOp} {a b : Int} {K : Bool → RT} {K' : Bool → Prop} (hk : ∀ n, K n = yes → K' n) (h : (BA Sg T call).cmp op a b K = yes) : (PH C Sg T).cmp op a b K' := by
  obtain ⟨t, h1, h2⟩ := cmpB_ok h
  show cmpP op a b K'
  cases op <;> simp only [cmpRes, Option.some.injEq] at h1 <;> first | (cases h1; done) | (simp only [cmpP]; rw [h1]; exact hk _ h2)
theorem s_eqs {l : List (Lf × Lf)} {K : Bool → RT} {K' : Bool → Prop} (hk : ∀ n, K n = yes → K' n) (h : (BA Sg T call).eqs l K = yes) : (PH C Sg T).eqs l K' := hk _ (eqsB_ok h)
theorem s_conv {k : IntKind} {a : Int} {K : Int → RT} {K' : Int → Prop} (hk : ∀ n, K n = yes → K' n) (h : (BA Sg T call).conv k a K = yes) : (PH C Sg T).conv k a K' := hk _ ((BA_ok hc).conv k a K h)
theorem s_sel {t : Bool} {a b : Int} {K : Int → RT} {K' : Int → Prop} (hk : ∀ n, K n = yes → K' n) (h : (BA Sg T call).sel t a b K = yes) : (PH C Sg T).sel t a b K' := hk _ ((BA_ok hc).sel t a b K h)
theorem s_opt {α : Type} {o : Option α} {K : α → RT} {K' : α → Prop} (hk : ∀ n, K n = yes → K' n) (h : (BA Sg T call).opt o K = yes) : (PH C Sg T).opt o K' := by
  obtain ⟨x, h1, h2⟩ := (BA_ok hc).opt o K h
  exact ⟨x, h1, hk _ h2⟩
theorem s_chk {v : Value} {K : RT} {K' : Prop} (hk : K = yes → K') (h : (BA Sg T call).chk v K = yes) : (PH C Sg T).chk v K' := by
  obtain ⟨h1, h2⟩ := (BA_ok hc).chk v K h
  exact ⟨h1, hk h2⟩
theorem s_unI {l : List Lf} {K : Int → List Lf → RT} {K' : Int → List Lf → Prop} (hk : ∀ n r, K n r = yes → K' n r) (h : (BA Sg T call).unI l K = yes) : (PH C Sg T).unI l K' := by
  obtain ⟨n, r, rfl, h2⟩ := (BA_ok hc).unI l K h
  exact hk _ _ h2
theorem s_unB {l : List Lf} {K : Bool → List Lf → RT} {K' : Bool → List Lf → Prop} (hk : ∀ n r, K n r = yes → K' n r) (h : (BA Sg T call).unB l K = yes) : (PH C Sg T).unB l K' := by
  obtain ⟨n, r, rfl, h2⟩ := (BA_ok hc).unB l K h
  exact hk _ _ h2
theorem s_unV {l : List Lf} {K : Value → List Lf → RT} {K' : Value → List Lf → Prop} (hk : ∀ n r, K n r = yes → K' n r) (h : (BA Sg T call).unV l K = yes) : (PH C Sg T).unV l K' := by
  obtain ⟨n, r, rfl, h2⟩ := (BA_ok hc).unV l K h
  exact hk _ _ h2
theorem s_un0 {l : List Lf} {K : RT} {K' : Prop} (hk : K = yes → K') (h : (BA Sg T call).un0 l K = yes) : (PH C Sg T).un0 l K' := by
  obtain ⟨rfl, h2⟩ := (BA_ok hc).un0 l K h
  exact hk h2
theorem s_ucI {k : IntKind} {l : List Value} {K : Int → List Value → RT} {K' : Int → List Value → Prop} (hk : ∀ n r, K n r = yes → K' n r) (h : (BA Sg T call).ucI k l K = yes) : (PH C Sg T).ucI k l K' := by
  obtain ⟨n, r, rfl, h2⟩ := (BA_ok hc).ucI k l K h
  exact ⟨rfl, hk _ _ h2⟩
theorem s_ucB {l : List Value} {K : Bool → List Value → RT} {K' : Bool → List Value → Prop} (hk : ∀ n r, K n r = yes → K' n r) (h : (BA Sg T call).ucB l K = yes) : (PH C Sg T).ucB l K' := by
  obtain ⟨n, r, rfl, h2⟩ := (BA_ok hc).ucB l K h
  exact hk _ _ h2
theorem s_ucV {l : List Value} {K : Value → List Value → RT} {K' : Value → List Value → Prop} (hk : ∀ n r, K n r = yes → K' n r) (h : (BA Sg T call).ucV l K = yes) : (PH C Sg T).ucV l K' := by
  obtain ⟨n, r, rfl, h2⟩ := (BA_ok hc).ucV l K h
  exact hk _ _ h2
theorem s_uc0 {l : List Value} {K : RT} {K' : Prop} (hk : K = yes → K') (h : (BA Sg T call).uc0 l K = yes) : (PH C Sg T).uc0 l K' := by
  obtain ⟨rfl, h2⟩ := (BA_ok hc).uc0 l K h
  exact hk h2
theorem s_peek {f : Pk} {h : HTr} {K : List Value → RT} {K' : List Value → Prop} (hk : ∀ n, K n = yes → K' n) (e : (BA Sg T call).peek f h K = yes) : (PH C Sg T).peek f (toL h) K' := by
  obtain ⟨cs, h1, h2⟩ := (BA_ok hc).peek f h K e
  exact ⟨cs, by rw [getH_eq]; exact h1, hk _ h2⟩
theorem s_heap {f : Hp} {h : HTr} {K : List Value → HTr → RT} {K' : List Value → HL → Prop} (hk : ∀ l h, K l h = yes → K' l (toL h)) (e : (BA Sg T call).heap f h K = yes) : (PH C Sg T).heap f (toL h) K' := by
  have e : heapB T f h K = yes := e
  obtain ⟨acts, cs, h', a1, a2, a3⟩ := heapB_ok e
  exact ⟨acts, cs, a1, a2 ▸ hk _ _ a3⟩
theorem s_new {o : HObj} {h : HTr} {K : Nat → HTr → RT} {K' : Nat → HL → Prop} (hk : ∀ l h, K l h = yes → K' l (toL h)) (e : (BA Sg T call).new o h K = yes) : (PH C Sg T).new o (toL h) K' := by
  have e : newB o h K = yes := e
  unfold newB at e
  obtain ⟨x, e1, e2⟩ := keepO_ok (o := o) (k := fun o => pushK h o fun h' => K h.n h')
  rw [e2, pushK_eq] at e
  have e := hk _ _ e
  rw [toL_push, e1] at e
  show K' (toL h).length (toL h ++ [.o o])
  rw [toL_len]; exact e
theorem s_call {g : FuncId} {l : List Lf} {h : HTr} {K : List Lf → HTr → RT} {K' : List Lf → HL → Prop} (hk : ∀ l h, K l h = yes → K' l (toL h)) (e : (BA Sg T call).call g l h K = yes) : (PH C Sg T).call g l (toL h) K' := by
  obtain ⟨rs, h', h1, h2⟩ := callB_ok hc e
  exact ⟨rs, toL h', h1, hk _ _ h2⟩
theorem s_callv {v : Value} {l : List Value} {hs : List SK} {h : HTr} {K : List Lf → HTr → RT} {K' : List Lf → HL → Prop} (hk : ∀ l h, K l h = yes → K' l (toL h)) (e : (BA Sg T call).callv v l hs h K = yes) : (PH C Sg T).callv v l hs (toL h) K' := by
  obtain ⟨rs, h', h1, h2⟩ := callvB_ok hc e
  exact ⟨rs, toL h', h1, hk _ _ h2⟩
theorem s_join {b : List Lf → HTr → RT} {b' : List Lf → HL → Prop} {m : (List Lf → HTr → RT) → RT} {m' : (List Lf → HL → Prop) → Prop} (hb : KLe b b') (hm : ∀ j j', KLe j j' → m j = yes → m' j') (e : (BA Sg T call).join b m = yes) : (PH C Sg T).join b' m' := hm _ _ hb e
theorem s_loop {F : (List Lf → HTr → RT) → List Lf → HTr → RT} {F' : (List Lf → HL → Prop) → List Lf → HL → Prop} {l : List Lf} {h : HTr} (hF : ∀ s s', KLe s s' → ∀ l h, F s l h = yes → F' s' l (toL h)) (e : (BA Sg T call).loop F l h = yes) : (PH C Sg T).loop F' l (toL h) := by
  obtain ⟨it, i0, i1, n, hn⟩ := (BA_ok hc).loop F l h e
  refine ⟨n, ?_⟩
  have : ∀ n l h, it n l h = yes → itH F' n l (toL h) := by
    intro n
    induction n with
    | zero => intro l h hn; exact absurd hn (i0 l h)
    | succ n ih =>
      intro l h hn
      rw [i1] at hn
      exact hF _ _ (fun l h => ih l h) l h hn
  exact this n l h hn
theorem s_rfun {κ : Nat} {v : Value} {vals : List Value} {h : HTr} {K : Option Code → HTr → RT} {K' : Option Code → HL → Prop} (hk : ∀ l h, K l h = yes → K' l (toL h)) (e : (BA Sg T call).rfun κ v vals h K = yes) : (PH C Sg T).rfun κ v vals (toL h) K' := by
  obtain ⟨g, first, cap, r, H1, lp, h2, a1, a2, a3, a4, a5, a6⟩ := rfunB_ok hc e
  exact ⟨g, first, cap, r, H1, lp, toL h2, a1, a2, a3, a4, a5, hk _ _ a6⟩
/-- Answers to how a round ended, side by side. -/
inductive SL2 : List (Nat × RT) → List (Nat × Prop) → Prop
  | nil : SL2 [] []
  | cons {id : Nat} {x : RT} {x' : Prop} {l : List (Nat × RT)} {l' : List (Nat × Prop)} (hx : x = yes → x') (hl : SL2 l l') : SL2 ((id, x) :: l) ((id, x') :: l')
omit hc in
theorem SL2.mem {l : List (Nat × RT)} {l' : List (Nat × Prop)} (h : SL2 l l') {id : Nat} {x : RT} (hm : (id, x) ∈ l) (hx : x = yes) : ∃ y, (id, y) ∈ l' ∧ y := by
  induction h with
  | nil => cases hm
  | cons h1 h2 ih =>
    rcases List.mem_cons.1 hm with e | hm
    · cases e; exact ⟨_, List.mem_cons_self, h1 hx⟩
    · obtain ⟨y, a, b⟩ := ih hm
      exact ⟨y, List.mem_cons_of_mem _ a, b⟩
theorem s_pend {pd : Option Code} {kn kr : RT} {kn' kr' : Prop} {ks : List (Nat × RT)} {ks' : List (Nat × Prop)} (h1 : kn = yes → kn') (h2 : kr = yes → kr') (h3 : SL2 ks ks') (e : (BA Sg T call).pend pd kn kr ks = yes) : (PH C Sg T).pend pd kn' kr' ks' := by
  rcases (BA_ok hc).pend pd kn kr ks e with ⟨rfl, h⟩ | ⟨rfl, h⟩ | ⟨id, x, rfl, hm, hx⟩
  · exact h1 h
  · exact h2 h
  · exact h3.mem hm hx
theorem s_lp1 {l : Nat} {h : HTr} {K : HTr → RT} {K' : HL → Prop} (hk : ∀ h, K h = yes → K' (toL h)) (e : (BA Sg T call).lp1 l h K = yes) : (PH C Sg T).lp1 l (toL h) K' := by
  obtain ⟨lp, h', a1, a2, a3, a4⟩ := (BA_ok hc).lp1 l h K e
  exact ⟨lp, toL h', a1, a2, a3, hk _ a4⟩
theorem s_lp2 {l : Nat} {j : Option Code} {h : HTr} {K : HTr → RT} {K' : HL → Prop} (hk : ∀ h, K h = yes → K' (toL h)) (e : (BA Sg T call).lp2 l j h K = yes) : (PH C Sg T).lp2 l j (toL h) K' := by
  obtain ⟨lp, h', a1, a3, a4⟩ := (BA_ok hc).lp2 l j h K e
  exact ⟨lp, toL h', a1, a3, hk _ a4⟩
end

theorem itH_rule {F : (List Lf → HL → Prop) → List Lf → HL → Prop} (Inv : Nat → List Lf → HL → Prop)
    (step : ∀ m ls h, Inv m ls h → ∀ self : List Lf → HL → Prop, (∀ m' ls h, m' < m → Inv m' ls h → self ls h) → F self ls h) : ∀ n m ls h, m < n → Inv m ls h → itH F n ls h
  | 0, _, _, _, hm, _ => absurd hm (Nat.not_lt_zero _)
  | n + 1, m, ls, h, hm, hi => step m ls h hi (itH F n) fun m' ls h h' hi' => itH_rule Inv step n m' ls h (by omega) hi'
/-- A loop: a measure and what holds. -/
theorem loopH_rule {F : (List Lf → HL → Prop) → List Lf → HL → Prop} (Inv : Nat → List Lf → HL → Prop) {m : Nat} {ls : List Lf} {h : HL} (hi : Inv m ls h)
    (step : ∀ m ls h, Inv m ls h → ∀ self : List Lf → HL → Prop, (∀ m' ls h, m' < m → Inv m' ls h → self ls h) → F self ls h) : loopH F ls h :=
  ⟨m + 1, itH_rule Inv step (m + 1) m ls h (Nat.lt_succ_self m) hi⟩
end
end Sx
end Go.Am

/-
  THE ALGEBRA OF PROPOSITIONS, its rules as equations: a step each.
-/
namespace Go.Am
namespace Sx

/-- What comes behind, put away: no step looks into it. -/
class Bx (α : Sort _) where
  v : α
noncomputable def hid {α : Sort _} [b : Bx α] : α := b.v
section
variable [Val] [Kno] {C : Cfg} {Sg : FuncId → Option Sig} {T : Nat → Site}

theorem b_unI {n : Int} {r : List Lf} {K : Int → List Lf → Prop} : (PH C Sg T).unI (.i n :: r) K = K n r := rfl
theorem b_unB {n : Bool} {r : List Lf} {K : Bool → List Lf → Prop} : (PH C Sg T).unB (.b n :: r) K = K n r := rfl
theorem b_unV {n : Value} {r : List Lf} {K : Value → List Lf → Prop} : (PH C Sg T).unV (.v n :: r) K = K n r := rfl
theorem b_un0 {K : Prop} : (PH C Sg T).un0 [] K = K := rfl
theorem b_ucI {k : IntKind} {n : Int} {r : List Value} {K : Int → List Value → Prop} : (PH C Sg T).ucI k (.int k n :: r) K = K n r := by
  show (k = k ∧ K n r) = K n r
  simp
theorem b_ucB {n : Bool} {r : List Value} {K : Bool → List Value → Prop} : (PH C Sg T).ucB (.bool n :: r) K = K n r := rfl
theorem b_ucV {n : Value} {r : List Value} {K : Value → List Value → Prop} : (PH C Sg T).ucV (n :: r) K = K n r := rfl
theorem b_uc0 {K : Prop} : (PH C Sg T).uc0 [] K = K := rfl
theorem p_chk {v : Value} {K : Prop} (h : goodV v = true) : (PH C Sg T).chk v K = K := by
  show (goodV v = true ∧ K) = K
  simp [h]
theorem b_cond_t {X Y : Prop} : (PH C Sg T).cond true X Y = X := by
  show ((true = true → X) ∧ (true = false → Y)) = X
  simp
theorem b_cond_f {X Y : Prop} : (PH C Sg T).cond false X Y = Y := by
  show ((false = true → X) ∧ (false = false → Y)) = Y
  simp
theorem b_lss_t {a b : Int} {K : Bool → Prop} (h : a < b) : (PH C Sg T).cmp .lss a b K = K true := by
  show K (decide (a < b)) = _; rw [decide_eq_true h]
theorem b_lss_f {a b : Int} {K : Bool → Prop} (h : b ≤ a) : (PH C Sg T).cmp .lss a b K = K false := by
  show K (decide (a < b)) = _; rw [decide_eq_false (by omega)]
theorem b_leq_t {a b : Int} {K : Bool → Prop} (h : a ≤ b) : (PH C Sg T).cmp .leq a b K = K true := by
  show K (decide (a ≤ b)) = _; rw [decide_eq_true h]
theorem b_leq_f {a b : Int} {K : Bool → Prop} (h : b < a) : (PH C Sg T).cmp .leq a b K = K false := by
  show K (decide (a ≤ b)) = _; rw [decide_eq_false (by omega)]
theorem b_gtr_t {a b : Int} {K : Bool → Prop} (h : b < a) : (PH C Sg T).cmp .gtr a b K = K true := by
  show K (decide (a > b)) = _; rw [decide_eq_true h]
theorem b_gtr_f {a b : Int} {K : Bool → Prop} (h : a ≤ b) : (PH C Sg T).cmp .gtr a b K = K false := by
  show K (decide (a > b)) = _; rw [decide_eq_false (by omega)]
theorem b_geq_t {a b : Int} {K : Bool → Prop} (h : b ≤ a) : (PH C Sg T).cmp .geq a b K = K true := by
  show K (decide (a ≥ b)) = _; rw [decide_eq_true h]
theorem b_geq_f {a b : Int} {K : Bool → Prop} (h : a < b) : (PH C Sg T).cmp .geq a b K = K false := by
  show K (decide (a ≥ b)) = _; rw [decide_eq_false (by omega)]
theorem b_eql_t {a b : Int} {K : Bool → Prop} (h : a = b) : (PH C Sg T).cmp .eql a b K = K true := by
  show K (a == b) = _; rw [beq_iff_eq.2 h]
theorem b_eql_f {a b : Int} {K : Bool → Prop} (h : a ≠ b) : (PH C Sg T).cmp .eql a b K = K false := by
  show K (a == b) = _; rw [beq_false_of_ne h]
theorem b_neq_t {a b : Int} {K : Bool → Prop} (h : a ≠ b) : (PH C Sg T).cmp .neq a b K = K true := by
  show K (a != b) = _; rw [bne_iff_ne.2 h]
theorem b_neq_f {a b : Int} {K : Bool → Prop} (h : a = b) : (PH C Sg T).cmp .neq a b K = K false := by
  show K (a != b) = _; subst h; simp
theorem b_add {a b : Int} {K : Int → Prop} (h1 : -9223372036854775808 ≤ a + b) (h2 : a + b ≤ 9223372036854775807) : (PH C Sg T).ari .add .i64 a b K = K (a + b) := by
  show K (IntKind.wrap .i64 (a + b)) = _; rw [wrap_i64 h1 h2]
theorem b_sub {a b : Int} {K : Int → Prop} (h1 : -9223372036854775808 ≤ a - b) (h2 : a - b ≤ 9223372036854775807) : (PH C Sg T).ari .sub .i64 a b K = K (a - b) := by
  show K (IntKind.wrap .i64 (a - b)) = _; rw [wrap_i64 h1 h2]
theorem b_mul {a b : Int} {K : Int → Prop} (h1 : -9223372036854775808 ≤ a * b) (h2 : a * b ≤ 9223372036854775807) : (PH C Sg T).ari .mul .i64 a b K = K (a * b) := by
  show K (IntKind.wrap .i64 (a * b)) = _; rw [wrap_i64 h1 h2]
theorem b_add8 {a b : Int} {K : Int → Prop} (h1 : 0 ≤ a + b) (h2 : a + b ≤ 255) : (PH C Sg T).ari .add .u8 a b K = K (a + b) := by
  show K (IntKind.wrap .u8 (a + b)) = _; rw [wrap_u8 h1 h2]
theorem b_sub8 {a b : Int} {K : Int → Prop} (h1 : 0 ≤ a - b) (h2 : a - b ≤ 255) : (PH C Sg T).ari .sub .u8 a b K = K (a - b) := by
  show K (IntKind.wrap .u8 (a - b)) = _; rw [wrap_u8 h1 h2]
theorem b_mul8 {a b : Int} {K : Int → Prop} (h1 : 0 ≤ a * b) (h2 : a * b ≤ 255) : (PH C Sg T).ari .mul .u8 a b K = K (a * b) := by
  show K (IntKind.wrap .u8 (a * b)) = _; rw [wrap_u8 h1 h2]
theorem tdiv_nn {a b : Int} (h : 0 ≤ a) : a.tdiv b = a / b := Int.tdiv_eq_ediv_of_nonneg h
theorem b_quo_nn {a b : Int} {K : Int → Prop} (h : 0 ≤ a) (hb : 0 < b) (h2 : a ≤ 9223372036854775807) : (PH C Sg T).ari .quo .i64 a b K = K (a / b) := by
  show (b ≠ 0 ∧ K (IntKind.wrap .i64 (a.tdiv b))) = _
  have h3 : a / b ≤ a := Int.ediv_le_self b h
  have h4 : 0 ≤ a / b := Int.ediv_nonneg h (by omega)
  rw [tdiv_nn h, wrap_i64 (by omega) (by omega)]
  simp; intro _ h; omega
theorem b_quo_ev {a : Int} {K : Int → Prop} (h : a % 2 = 0) (h1 : -9223372036854775808 ≤ a) (h2 : a ≤ 9223372036854775807) : (PH C Sg T).ari .quo .i64 a 2 K = K (a / 2) := by
  show ((2 : Int) ≠ 0 ∧ K (IntKind.wrap .i64 (a.tdiv 2))) = _
  rw [Int.tdiv_eq_ediv_of_dvd (Int.dvd_of_emod_eq_zero h), wrap_i64 (by omega) (by omega)]
  simp
theorem b_quo_dv {a b : Int} {K : Int → Prop} (h : a % b = 0) (hb : 0 < b) (h1 : -9223372036854775808 ≤ a) (h2 : a ≤ 9223372036854775807) : (PH C Sg T).ari .quo .i64 a b K = K (a / b) := by
  show (b ≠ 0 ∧ K (IntKind.wrap .i64 (a.tdiv b))) = _
  obtain ⟨q, rfl⟩ := Int.dvd_of_emod_eq_zero h
  rw [Int.mul_tdiv_cancel_left q (by omega), Int.mul_ediv_cancel_left q (by omega)]
  have hq : -9223372036854775808 ≤ q ∧ q ≤ 9223372036854775807 := by
    rcases Int.le_total 0 q with hs | hs
    · have := Int.mul_le_mul_of_nonneg_right (show (1 : Int) ≤ b by omega) hs
      omega
    · have := Int.mul_le_mul_of_nonneg_right (show (1 : Int) ≤ b by omega) (show 0 ≤ -q by omega)
      rw [Int.mul_neg b q] at this
      omega
  rw [wrap_i64 hq.1 hq.2]
  simp; intro _ h; omega
theorem b_rem_nn {k : IntKind} {a b : Int} {K : Int → Prop} (h : 0 ≤ a) (hb : 0 < b) : (PH C Sg T).ari .rem k a b K = K (a % b) := by
  show (b ≠ 0 ∧ K (a.tmod b)) = _
  rw [Int.tmod_eq_emod_of_nonneg h]
  simp; intro _ h; omega
theorem b_rem_np {k : IntKind} {a b : Int} {K : Int → Prop} (h : a ≤ 0) (hb : 0 < b) : (PH C Sg T).ari .rem k a b K = K (-((-a) % b)) := by
  show (b ≠ 0 ∧ K (a.tmod b)) = _
  have : a.tmod b = -((-a) % b) := by
    have h1 := Int.neg_tmod a b
    rw [Int.tmod_eq_emod_of_nonneg (a := -a) (by omega)] at h1
    omega
  rw [this]
  simp; intro _ h; omega
theorem b_and1 {a : Int} {K : Int → Prop} : (PH C Sg T).ari .and .i64 a 1 K = K (a % 2) := by
  show (((1 : Int) = 1 ∧ K (a % 2)) ∨ ((1 : Int) ≠ 1 ∧ ∃ n, ArRun .and .i64 a 1 n ∧ K n)) = K (a % 2)
  simp
theorem b_conv {a : Int} {K : Int → Prop} (h1 : -9223372036854775808 ≤ a) (h2 : a ≤ 9223372036854775807) : (PH C Sg T).conv .i64 a K = K a := by
  show K (IntKind.wrap .i64 a) = _; rw [wrap_i64 h1 h2]
theorem b_conv8 {a : Int} {K : Int → Prop} (h1 : 0 ≤ a) (h2 : a ≤ 255) : (PH C Sg T).conv .u8 a K = K a := by
  show K (IntKind.wrap .u8 a) = _; rw [wrap_u8 h1 h2]
theorem b_sel_t {a b : Int} {K : Int → Prop} : (PH C Sg T).sel true a b K = K a := rfl
theorem b_sel_f {a b : Int} {K : Int → Prop} : (PH C Sg T).sel false a b K = K b := rfl
theorem b_opt {α : Type} {x : α} {K : α → Prop} : (PH C Sg T).opt (some x) K = K x := by
  show (∃ y, some x = some y ∧ K y) = K x
  simp
theorem b_inB {n : Nat} {i : Int} {K : Unit → Prop} (h1 : 0 ≤ i) (h2 : i < (n : Int)) : (PH C Sg T).opt (inB n i) K = K () := by
  rw [show inB n i = some () from (inB_eq n i).trans (if_pos ⟨h1, h2⟩), b_opt]
theorem p_opt_eq {α : Type} {o : Option α} {x : α} {K : α → Prop} (h : o = some x) : (PH C Sg T).opt o K = K x := by
  rw [h, b_opt]
theorem b_join {b : List Lf → HL → Prop} {m : (List Lf → HL → Prop) → Prop} : (PH C Sg T).join b m = m b := rfl
theorem b_eqs0 {K : Bool → Prop} : (PH C Sg T).eqs [] K = K true := rfl
theorem b_eqs_t {a b : Int} {l : List (Lf × Lf)} {K : Bool → Prop} (h : a = b) : (PH C Sg T).eqs ((.i a, .i b) :: l) K = (PH C Sg T).eqs l K := by
  show K (eqAll _) = K (eqAll l)
  subst h
  simp [eqAll, eqLfD]
theorem b_eqs_f {a b : Int} {l : List (Lf × Lf)} {K : Bool → Prop} (h : a ≠ b) : (PH C Sg T).eqs ((.i a, .i b) :: l) K = K false := by
  show K (eqAll _) = K false
  have : (a == b) = false := beq_false_of_ne h
  simp [eqAll, eqLfD, this]
theorem p_loop {F : (List Lf → HL → Prop) → List Lf → HL → Prop} {ls : List Lf} {h : HL} (n : Nat) (hn : itH F n ls h) : (PH C Sg T).loop F ls h := ⟨n, hn⟩
theorem b_it {F : (List Lf → HL → Prop) → List Lf → HL → Prop} {n : Nat} {ls : List Lf} {h : HL} : itH F (n + 1) ls h = F (itH F n) ls h := rfl
theorem p_call {g : FuncId} {ls rs : List Lf} {h : HL} {K : List Lf → HL → Prop} (hc : ∀ H, CallL C Sg g ls H rs H) (hk : K rs h) : (PH C Sg T).call g ls h (@hid _ ⟨K⟩) := ⟨rs, h, hc _, hk⟩
theorem p_cond {b : Bool} {X Y : Prop} (h1 : b = true → X) (h2 : b = false → Y) : (PH C Sg T).cond b (@hid _ ⟨X⟩) (@hid _ ⟨Y⟩) := ⟨h1, h2⟩
/-- Truth values compared. -/
theorem b_eqsb_t {a b : Bool} {l : List (Lf × Lf)} {K : Bool → Prop} (h : a = b) : (PH C Sg T).eqs ((.b a, .b b) :: l) K = (PH C Sg T).eqs l K := by
  show K (eqAll _) = K (eqAll l)
  subst h
  simp [eqAll, eqLfD]
theorem b_eqsb_tf {l : List (Lf × Lf)} {K : Bool → Prop} : (PH C Sg T).eqs ((.b true, .b false) :: l) K = K false := rfl
theorem b_eqsb_ft {l : List (Lf × Lf)} {K : Bool → Prop} : (PH C Sg T).eqs ((.b false, .b true) :: l) K = K false := rfl
theorem b_mul_1 {b : Int} {K : Int → Prop} (h1 : -9223372036854775808 ≤ b) (h2 : b ≤ 9223372036854775807) : (PH C Sg T).ari .mul .i64 1 b K = K b := by
  show K (IntKind.wrap .i64 (1 * b)) = _; rw [Int.one_mul, wrap_i64 h1 h2]
theorem b_mul_0 {b : Int} {K : Int → Prop} : (PH C Sg T).ari .mul .i64 0 b K = K 0 := by
  show K (IntKind.wrap .i64 (0 * b)) = _; rw [Int.zero_mul]; rfl
theorem b_mul_m {b : Int} {K : Int → Prop} (h1 : -9223372036854775808 ≤ -b) (h2 : -b ≤ 9223372036854775807) : (PH C Sg T).ari .mul .i64 (-1) b K = K (-b) := by
  show K (IntKind.wrap .i64 (-1 * b)) = _
  have : (-1 * b : Int) = -b := by omega
  rw [this, wrap_i64 h1 h2]
theorem b_mul_r1 {b : Int} {K : Int → Prop} (h1 : -9223372036854775808 ≤ b) (h2 : b ≤ 9223372036854775807) : (PH C Sg T).ari .mul .i64 b 1 K = K b := by
  show K (IntKind.wrap .i64 (b * 1)) = _; rw [Int.mul_one, wrap_i64 h1 h2]
theorem b_mul_r0 {b : Int} {K : Int → Prop} : (PH C Sg T).ari .mul .i64 b 0 K = K 0 := by
  show K (IntKind.wrap .i64 (b * 0)) = _; rw [Int.mul_zero]; rfl
theorem b_mul_rm {b : Int} {K : Int → Prop} (h1 : -9223372036854775808 ≤ -b) (h2 : -b ≤ 9223372036854775807) : (PH C Sg T).ari .mul .i64 b (-1) K = K (-b) := by
  show K (IntKind.wrap .i64 (b * -1)) = _
  have : (b * -1 : Int) = -b := by omega
  rw [this, wrap_i64 h1 h2]
theorem b_add_0 {b : Int} {K : Int → Prop} (h1 : -9223372036854775808 ≤ b) (h2 : b ≤ 9223372036854775807) : (PH C Sg T).ari .add .i64 0 b K = K b := by
  show K (IntKind.wrap .i64 (0 + b)) = _; rw [Int.zero_add, wrap_i64 h1 h2]
theorem b_add_r0 {b : Int} {K : Int → Prop} (h1 : -9223372036854775808 ≤ b) (h2 : b ≤ 9223372036854775807) : (PH C Sg T).ari .add .i64 b 0 K = K b := by
  show K (IntKind.wrap .i64 (b + 0)) = _; rw [Int.add_zero, wrap_i64 h1 h2]
theorem b_add_11 {K : Int → Prop} : (PH C Sg T).ari .add .i64 1 1 K = K 2 := by
  show K (IntKind.wrap .i64 (1 + 1)) = _; rfl
theorem b_quo_1 {a : Int} {K : Int → Prop} (h1 : -9223372036854775808 ≤ a) (h2 : a ≤ 9223372036854775807) : (PH C Sg T).ari .quo .i64 a 1 K = K a := by
  show ((1 : Int) ≠ 0 ∧ K (IntKind.wrap .i64 (a.tdiv 1))) = _
  rw [Int.tdiv_one, wrap_i64 h1 h2]; simp
theorem p_ari_2 {op : BinOp} {k : IntKind} {a b b' : Int} {K : Int → Prop} (hb : b = b') (h : (PH C Sg T).ari op k a b' K) : (PH C Sg T).ari op k a b K := by rw [hb]; exact h
theorem p_opt_r {α : Type} {o : Option α} {x : α} {K : α → Prop} (h : o = some x) (hk : K x) : (PH C Sg T).opt o (@hid _ ⟨K⟩) := ⟨x, h, hk⟩
theorem pvx {vs : List Value} {base sz n : Nat} {i j : Int} {o : Option (List Value)} (h2 : pickV vs base [(j, sz)] n = o) (h : i = j) : pickV vs base [(i, sz)] n = o := by rw [h]; exact h2
theorem pvx2 {vs : List Value} {base sz sz' n : Nat} {i j i' j' : Int} {o : Option (List Value)} (h2 : pickV vs base [(j, sz), (j', sz')] n = o) (h : i = j) (h' : i' = j') : pickV vs base [(i, sz), (i', sz')] n = o := by rw [h, h']; exact h2
theorem plx {ls : List Lf} {base sz n : Nat} {i : Int} {o : Option (List Lf)} (j : Int) (h : i = j) (h2 : pickL ls base [(j, sz)] n = o) : pickL ls base [(i, sz)] n = o := by rw [h]; exact h2
theorem ptx {ls new : List Lf} {base sz : Nat} {i : Int} {o : Option (List Lf)} (j : Int) (h : i = j) (h2 : putL ls base [(j, sz)] new = o) : putL ls base [(i, sz)] new = o := by rw [h]; exact h2
/-! ### The same, with what comes behind put away -/
theorem p_unI {n : Int} {r : List Lf} {K : Int → List Lf → Prop} : (PH C Sg T).unI (.i n :: r) (@hid _ ⟨K⟩) = K n r := b_unI
theorem p_unB {n : Bool} {r : List Lf} {K : Bool → List Lf → Prop} : (PH C Sg T).unB (.b n :: r) (@hid _ ⟨K⟩) = K n r := b_unB
theorem p_unV {n : Value} {r : List Lf} {K : Value → List Lf → Prop} : (PH C Sg T).unV (.v n :: r) (@hid _ ⟨K⟩) = K n r := b_unV
theorem p_un0 {K : Prop} : (PH C Sg T).un0 [] (@hid _ ⟨K⟩) = K := b_un0
theorem p_ucI {k : IntKind} {n : Int} {r : List Value} {K : Int → List Value → Prop} : (PH C Sg T).ucI k (.int k n :: r) (@hid _ ⟨K⟩) = K n r := b_ucI
theorem p_ucB {n : Bool} {r : List Value} {K : Bool → List Value → Prop} : (PH C Sg T).ucB (.bool n :: r) (@hid _ ⟨K⟩) = K n r := b_ucB
theorem p_ucV {n : Value} {r : List Value} {K : Value → List Value → Prop} : (PH C Sg T).ucV (n :: r) (@hid _ ⟨K⟩) = K n r := b_ucV
theorem p_uc0 {K : Prop} : (PH C Sg T).uc0 [] (@hid _ ⟨K⟩) = K := b_uc0
theorem p_cond_t {X Y : Prop} : (PH C Sg T).cond true (@hid _ ⟨X⟩) Y = X := b_cond_t
theorem p_cond_f {X Y : Prop} : (PH C Sg T).cond false X (@hid _ ⟨Y⟩) = Y := b_cond_f
theorem p_lss_t {a b : Int} {K : Bool → Prop} (h : a < b) : (PH C Sg T).cmp .lss a b (@hid _ ⟨K⟩) = K true := b_lss_t h
theorem p_lss_f {a b : Int} {K : Bool → Prop} (h : b ≤ a) : (PH C Sg T).cmp .lss a b (@hid _ ⟨K⟩) = K false := b_lss_f h
theorem p_leq_t {a b : Int} {K : Bool → Prop} (h : a ≤ b) : (PH C Sg T).cmp .leq a b (@hid _ ⟨K⟩) = K true := b_leq_t h
theorem p_leq_f {a b : Int} {K : Bool → Prop} (h : b < a) : (PH C Sg T).cmp .leq a b (@hid _ ⟨K⟩) = K false := b_leq_f h
theorem p_gtr_t {a b : Int} {K : Bool → Prop} (h : b < a) : (PH C Sg T).cmp .gtr a b (@hid _ ⟨K⟩) = K true := b_gtr_t h
theorem p_gtr_f {a b : Int} {K : Bool → Prop} (h : a ≤ b) : (PH C Sg T).cmp .gtr a b (@hid _ ⟨K⟩) = K false := b_gtr_f h
theorem p_geq_t {a b : Int} {K : Bool → Prop} (h : b ≤ a) : (PH C Sg T).cmp .geq a b (@hid _ ⟨K⟩) = K true := b_geq_t h
theorem p_geq_f {a b : Int} {K : Bool → Prop} (h : a < b) : (PH C Sg T).cmp .geq a b (@hid _ ⟨K⟩) = K false := b_geq_f h
theorem p_eql_t {a b : Int} {K : Bool → Prop} (h : a = b) : (PH C Sg T).cmp .eql a b (@hid _ ⟨K⟩) = K true := b_eql_t h
theorem p_eql_f {a b : Int} {K : Bool → Prop} (h : a ≠ b) : (PH C Sg T).cmp .eql a b (@hid _ ⟨K⟩) = K false := b_eql_f h
theorem p_neq_t {a b : Int} {K : Bool → Prop} (h : a ≠ b) : (PH C Sg T).cmp .neq a b (@hid _ ⟨K⟩) = K true := b_neq_t h
theorem p_neq_f {a b : Int} {K : Bool → Prop} (h : a = b) : (PH C Sg T).cmp .neq a b (@hid _ ⟨K⟩) = K false := b_neq_f h
theorem p_add {a b : Int} {K : Int → Prop} (h1 : -9223372036854775808 ≤ a + b) (h2 : a + b ≤ 9223372036854775807) : (PH C Sg T).ari .add .i64 a b (@hid _ ⟨K⟩) = K (a + b) := b_add h1 h2
theorem p_sub {a b : Int} {K : Int → Prop} (h1 : -9223372036854775808 ≤ a - b) (h2 : a - b ≤ 9223372036854775807) : (PH C Sg T).ari .sub .i64 a b (@hid _ ⟨K⟩) = K (a - b) := b_sub h1 h2
theorem p_mul {a b : Int} {K : Int → Prop} (h1 : -9223372036854775808 ≤ a * b) (h2 : a * b ≤ 9223372036854775807) : (PH C Sg T).ari .mul .i64 a b (@hid _ ⟨K⟩) = K (a * b) := b_mul h1 h2
theorem p_add8 {a b : Int} {K : Int → Prop} (h1 : 0 ≤ a + b) (h2 : a + b ≤ 255) : (PH C Sg T).ari .add .u8 a b (@hid _ ⟨K⟩) = K (a + b) := b_add8 h1 h2
theorem p_sub8 {a b : Int} {K : Int → Prop} (h1 : 0 ≤ a - b) (h2 : a - b ≤ 255) : (PH C Sg T).ari .sub .u8 a b (@hid _ ⟨K⟩) = K (a - b) := b_sub8 h1 h2
theorem p_mul8 {a b : Int} {K : Int → Prop} (h1 : 0 ≤ a * b) (h2 : a * b ≤ 255) : (PH C Sg T).ari .mul .u8 a b (@hid _ ⟨K⟩) = K (a * b) := b_mul8 h1 h2
theorem p_quo_nn {a b : Int} {K : Int → Prop} (h : 0 ≤ a) (hb : 0 < b) (h2 : a ≤ 9223372036854775807) : (PH C Sg T).ari .quo .i64 a b (@hid _ ⟨K⟩) = K (a / b) := b_quo_nn h hb h2
theorem p_quo_ev {a : Int} {K : Int → Prop} (h : a % 2 = 0) (h1 : -9223372036854775808 ≤ a) (h2 : a ≤ 9223372036854775807) : (PH C Sg T).ari .quo .i64 a 2 (@hid _ ⟨K⟩) = K (a / 2) := b_quo_ev h h1 h2
theorem p_quo_dv {a b : Int} {K : Int → Prop} (h : a % b = 0) (hb : 0 < b) (h1 : -9223372036854775808 ≤ a) (h2 : a ≤ 9223372036854775807) : (PH C Sg T).ari .quo .i64 a b (@hid _ ⟨K⟩) = K (a / b) := b_quo_dv h hb h1 h2
theorem p_rem_nn {k : IntKind} {a b : Int} {K : Int → Prop} (h : 0 ≤ a) (hb : 0 < b) : (PH C Sg T).ari .rem k a b (@hid _ ⟨K⟩) = K (a % b) := b_rem_nn h hb
theorem p_rem_np {k : IntKind} {a b : Int} {K : Int → Prop} (h : a ≤ 0) (hb : 0 < b) : (PH C Sg T).ari .rem k a b (@hid _ ⟨K⟩) = K (-((-a) % b)) := b_rem_np h hb
theorem p_and1 {a : Int} {K : Int → Prop} : (PH C Sg T).ari .and .i64 a 1 (@hid _ ⟨K⟩) = K (a % 2) := b_and1
theorem p_conv {a : Int} {K : Int → Prop} (h1 : -9223372036854775808 ≤ a) (h2 : a ≤ 9223372036854775807) : (PH C Sg T).conv .i64 a (@hid _ ⟨K⟩) = K a := b_conv h1 h2
theorem p_conv8 {a : Int} {K : Int → Prop} (h1 : 0 ≤ a) (h2 : a ≤ 255) : (PH C Sg T).conv .u8 a (@hid _ ⟨K⟩) = K a := b_conv8 h1 h2
theorem p_sel_t {a b : Int} {K : Int → Prop} : (PH C Sg T).sel true a b (@hid _ ⟨K⟩) = K a := b_sel_t
theorem p_sel_f {a b : Int} {K : Int → Prop} : (PH C Sg T).sel false a b (@hid _ ⟨K⟩) = K b := b_sel_f
theorem p_opt {α : Type} {x : α} {K : α → Prop} : (PH C Sg T).opt (some x) (@hid _ ⟨K⟩) = K x := b_opt
theorem p_inB {n : Nat} {i : Int} {K : Unit → Prop} (h1 : 0 ≤ i) (h2 : i < (n : Int)) : (PH C Sg T).opt (inB n i) (@hid _ ⟨K⟩) = K () := b_inB h1 h2
theorem p_join {b : List Lf → HL → Prop} {m : (List Lf → HL → Prop) → Prop} : (PH C Sg T).join (@hid _ ⟨b⟩) (@hid _ ⟨m⟩) = m (@hid _ ⟨b⟩) := b_join
theorem p_eqs0 {K : Bool → Prop} : (PH C Sg T).eqs [] (@hid _ ⟨K⟩) = K true := b_eqs0
theorem p_eqs_t {a b : Int} {l : List (Lf × Lf)} {K : Bool → Prop} (h : a = b) : (PH C Sg T).eqs ((.i a, .i b) :: l) (@hid _ ⟨K⟩) = (PH C Sg T).eqs l (@hid _ ⟨K⟩) := b_eqs_t h
theorem p_eqs_f {a b : Int} {l : List (Lf × Lf)} {K : Bool → Prop} (h : a ≠ b) : (PH C Sg T).eqs ((.i a, .i b) :: l) (@hid _ ⟨K⟩) = K false := b_eqs_f h
theorem p_it {F : (List Lf → HL → Prop) → List Lf → HL → Prop} {n : Nat} {ls : List Lf} {h : HL} : itH (@hid _ ⟨F⟩) (n + 1) ls h = F (itH (@hid _ ⟨F⟩) n) ls h := b_it
theorem p_eqsb_t {a b : Bool} {l : List (Lf × Lf)} {K : Bool → Prop} (h : a = b) : (PH C Sg T).eqs ((.b a, .b b) :: l) (@hid _ ⟨K⟩) = (PH C Sg T).eqs l (@hid _ ⟨K⟩) := b_eqsb_t h
theorem p_eqsb_tf {l : List (Lf × Lf)} {K : Bool → Prop} : (PH C Sg T).eqs ((.b true, .b false) :: l) (@hid _ ⟨K⟩) = K false := b_eqsb_tf
theorem p_eqsb_ft {l : List (Lf × Lf)} {K : Bool → Prop} : (PH C Sg T).eqs ((.b false, .b true) :: l) (@hid _ ⟨K⟩) = K false := b_eqsb_ft
theorem p_mul_1 {b : Int} {K : Int → Prop} (h1 : -9223372036854775808 ≤ b) (h2 : b ≤ 9223372036854775807) : (PH C Sg T).ari .mul .i64 1 b (@hid _ ⟨K⟩) = K b := b_mul_1 h1 h2
theorem p_mul_0 {b : Int} {K : Int → Prop} : (PH C Sg T).ari .mul .i64 0 b (@hid _ ⟨K⟩) = K 0 := b_mul_0
theorem p_mul_m {b : Int} {K : Int → Prop} (h1 : -9223372036854775808 ≤ -b) (h2 : -b ≤ 9223372036854775807) : (PH C Sg T).ari .mul .i64 (-1) b (@hid _ ⟨K⟩) = K (-b) := b_mul_m h1 h2
theorem p_mul_r1 {b : Int} {K : Int → Prop} (h1 : -9223372036854775808 ≤ b) (h2 : b ≤ 9223372036854775807) : (PH C Sg T).ari .mul .i64 b 1 (@hid _ ⟨K⟩) = K b := b_mul_r1 h1 h2
theorem p_mul_r0 {b : Int} {K : Int → Prop} : (PH C Sg T).ari .mul .i64 b 0 (@hid _ ⟨K⟩) = K 0 := b_mul_r0
theorem p_mul_rm {b : Int} {K : Int → Prop} (h1 : -9223372036854775808 ≤ -b) (h2 : -b ≤ 9223372036854775807) : (PH C Sg T).ari .mul .i64 b (-1) (@hid _ ⟨K⟩) = K (-b) := b_mul_rm h1 h2
theorem p_add_0 {b : Int} {K : Int → Prop} (h1 : -9223372036854775808 ≤ b) (h2 : b ≤ 9223372036854775807) : (PH C Sg T).ari .add .i64 0 b (@hid _ ⟨K⟩) = K b := b_add_0 h1 h2
theorem p_add_r0 {b : Int} {K : Int → Prop} (h1 : -9223372036854775808 ≤ b) (h2 : b ≤ 9223372036854775807) : (PH C Sg T).ari .add .i64 b 0 (@hid _ ⟨K⟩) = K b := b_add_r0 h1 h2
theorem p_add_11 {K : Int → Prop} : (PH C Sg T).ari .add .i64 1 1 (@hid _ ⟨K⟩) = K 2 := b_add_11
theorem p_quo_1 {a : Int} {K : Int → Prop} (h1 : -9223372036854775808 ≤ a) (h2 : a ≤ 9223372036854775807) : (PH C Sg T).ari .quo .i64 a 1 (@hid _ ⟨K⟩) = K a := b_quo_1 h1 h2
theorem p_hid2 {f : List Lf → HL → Prop} {a : List Lf} {b : HL} : @hid _ ⟨f⟩ a b = f a b := rfl
theorem p_eqs2_f {a b c d : Int} {K : Bool → Prop} (h : ¬ (a = c ∧ b = d)) : (PH C Sg T).eqs [(.i a, .i c), (.i b, .i d)] (@hid _ ⟨K⟩) = K false := by
  show K (eqAll _) = K false
  have : eqAll [(.i a, .i c), (.i b, .i d)] = false := by
    rw [Bool.eq_false_iff]
    simpa [eqAll, eqLfD] using h
  rw [this]
theorem p_eqs3_f {a b c d e f : Int} {K : Bool → Prop} (h : ¬ (a = d ∧ b = e ∧ c = f)) : (PH C Sg T).eqs [(.i a, .i d), (.i b, .i e), (.i c, .i f)] (@hid _ ⟨K⟩) = K false := by
  show K (eqAll _) = K false
  have : eqAll [(.i a, .i d), (.i b, .i e), (.i c, .i f)] = false := by
    rw [Bool.eq_false_iff]
    simpa [eqAll, eqLfD] using h
  rw [this]
theorem p_callH {g : FuncId} {ls rs : List Lf} {h h' : HL} {K : List Lf → HL → Prop} (hc : CallL C Sg g ls (absH T h) rs (absH T h')) (hk : K rs h') : (PH C Sg T).call g ls h (@hid _ ⟨K⟩) := ⟨rs, h', hc, hk⟩
theorem p_callE {g : FuncId} {ls : List Lf} {h : HL} {P : Int → Prop} {K : List Lf → HL → Prop} (hc : ∃ r, P r ∧ ∀ H, CallL C Sg g ls H [.i r] H) (hk : ∀ r, P r → K [.i r] h) : (PH C Sg T).call g ls h (@hid _ ⟨K⟩) := by
  obtain ⟨r, h1, h2⟩ := hc
  exact ⟨_, h, h2 _, hk r h1⟩
theorem callv_ct {g : FuncId} {sg : Sig} {ls rs : List Lf} {H H' : List HObj} (hc : CallL C Sg g ls H rs H') (hs : Sg g = some sg) (xs : List S0) (h1 : areIs xs sg.ps = true) (h2 : lfsOf xs = ls) :
    CallV C (.func (.func g) #[] #[]) (valsOf xs) sg.rs H rs H' := by
  obtain ⟨sg', xs', ys, c1, c2, c3, c4⟩ := hc
  rw [hs] at c1
  cases c1
  obtain ⟨w1, _⟩ := areIs_val c2.1 h1 (c2.2.1.trans h2.symm)
  rw [w1] at c4
  exact ⟨ys, c3, .inl ⟨g, #[], #[], rfl, by simpa using c4⟩⟩
theorem p_callv {v : Value} {args : List Value} {hs : List SK} {rs : List Lf} {h h' : HL} {K : List Lf → HL → Prop} (hc : CallV C v args hs (absH T h) rs (absH T h')) (hk : K rs h') : (PH C Sg T).callv v args hs h (@hid _ ⟨K⟩) := ⟨rs, h', hc, hk⟩
theorem p_new {o : HObj} {h : HL} {K : Nat → HL → Prop} : (PH C Sg T).new o h (@hid _ ⟨K⟩) = K h.length (h ++ [.o o]) := rfl
theorem p_chk_r {v : Value} {K : Prop} (h : goodV v = true) (hk : K) : (PH C Sg T).chk v (@hid _ ⟨K⟩) := ⟨h, hk⟩
theorem p_heap_r {f : Hp} {h : HL} {K : List Value → HL → Prop} {acts : List Act1} {cs : List Value} (e : f.run (getH T h) h.length = some (acts, cs)) (hk : K cs (actsOnH h acts)) : (PH C Sg T).heap f h (@hid _ ⟨K⟩) := ⟨acts, cs, e, hk⟩
theorem p_peek_r {f : Pk} {h : HL} {K : List Value → Prop} {cs : List Value} (e : f.run (getH T h) = some cs) (hk : K cs) : (PH C Sg T).peek f h (@hid _ ⟨K⟩) := ⟨cs, e, hk⟩
/-- Rules in one. -/
noncomputable def pxs (C : Cfg) (Sg : FuncId → Option Sig) (T : Nat → Site) := And.intro @p_hid2 (And.intro (@p_new _ _ C Sg T) (And.intro (@p_unI _ _ C Sg T) (And.intro (@p_unB _ _ C Sg T) (And.intro (@p_unV _ _ C Sg T) (And.intro (@p_un0 _ _ C Sg T) (And.intro (@p_ucI _ _ C Sg T) (And.intro (@p_ucB _ _ C Sg T) (And.intro (@p_ucV _ _ C Sg T) (And.intro (@p_uc0 _ _ C Sg T) (And.intro (@p_cond_t _ _ C Sg T) (And.intro (@p_cond_f _ _ C Sg T) (And.intro (@p_opt _ _ C Sg T) (And.intro (@p_inB _ _ C Sg T) (And.intro (@p_join _ _ C Sg T) (And.intro (@p_sel_t _ _ C Sg T) (And.intro (@p_sel_f _ _ C Sg T) ((@p_it))))))))))))))))))
/-- Rules in one. -/
noncomputable def pxc (C : Cfg) (Sg : FuncId → Option Sig) (T : Nat → Site) := And.intro (@p_lss_t _ _ C Sg T) (And.intro (@p_lss_f _ _ C Sg T) (And.intro (@p_leq_t _ _ C Sg T) (And.intro (@p_leq_f _ _ C Sg T) (And.intro (@p_gtr_t _ _ C Sg T) (And.intro (@p_gtr_f _ _ C Sg T) (And.intro (@p_geq_t _ _ C Sg T) (And.intro (@p_geq_f _ _ C Sg T) (And.intro (@p_eql_t _ _ C Sg T) (And.intro (@p_eql_f _ _ C Sg T) (And.intro (@p_neq_t _ _ C Sg T) (And.intro (@p_neq_f _ _ C Sg T) (And.intro (@p_eqs0 _ _ C Sg T) (And.intro (@p_eqs_t _ _ C Sg T) (And.intro (@p_eqs_f _ _ C Sg T) (And.intro (@p_eqs2_f _ _ C Sg T) (And.intro (@p_eqs3_f _ _ C Sg T) (And.intro (@p_eqsb_t _ _ C Sg T) (And.intro (@p_eqsb_tf _ _ C Sg T) ((@p_eqsb_ft _ _ C Sg T))))))))))))))))))))
/-- Rules in one. -/
noncomputable def pxa (C : Cfg) (Sg : FuncId → Option Sig) (T : Nat → Site) := And.intro (@p_mul_1 _ _ C Sg T) (And.intro (@p_mul_0 _ _ C Sg T) (And.intro (@p_mul_m _ _ C Sg T) (And.intro (@p_mul_r1 _ _ C Sg T) (And.intro (@p_mul_r0 _ _ C Sg T) (And.intro (@p_mul_rm _ _ C Sg T) (And.intro (@p_add_0 _ _ C Sg T) (And.intro (@p_add_r0 _ _ C Sg T) (And.intro (@p_add_11 _ _ C Sg T) (And.intro (@p_quo_1 _ _ C Sg T) (And.intro (@p_add _ _ C Sg T) (And.intro (@p_sub _ _ C Sg T) (And.intro (@p_mul _ _ C Sg T) (And.intro (@p_add8 _ _ C Sg T) (And.intro (@p_sub8 _ _ C Sg T) (And.intro (@p_mul8 _ _ C Sg T) (And.intro (@p_quo_nn _ _ C Sg T) (And.intro (@p_quo_dv _ _ C Sg T) (And.intro (@p_rem_nn _ _ C Sg T) (And.intro (@p_rem_np _ _ C Sg T) (And.intro (@p_and1 _ _ C Sg T) (And.intro (@p_conv _ _ C Sg T) ((@p_conv8 _ _ C Sg T)))))))))))))))))))))))
end
end Sx
end Go.Am

/-
  THE SEAT'S CALLS: what is known of them, and how it is shown (over the heaps of runs).
-/
set_option maxRecDepth 100000
namespace Go.Am
open Sx Go.Proofs

theorem gl_cell (g : Nat) (vs : List Value) (h : cc.G g = some vs) : vs.all cellOk = true := by
  unfold cc at h
  simp only at h
  split at h <;> first | (cases h; done) | (obtain rfl := Option.some.inj h; kernel_rfl)
noncomputable abbrev P1 : Alg Prop HL := PH cc sgTab siteTab
/-- It answers so, and leaves nothing behind. -/
abbrev Cc (g : FuncId) (ls rs : List Lf) : Prop := ∀ H, CallL cc sgTab g ls H rs H

theorem fn_ok {f : FuncId} {fn : Fn1} (hi : FnIs (xc f) sgTab f fn) {ls : List Lf} {H : HL} {K : List Lf → HL → Prop} (hls : goodLs ls = true)
    (h : execF P1 (xc f) sgTab drN fn ls H K) : ∃ rs H', CallL cc sgTab f ls (absH siteTab H) rs (absH siteTab H') ∧ K rs H' := by
  obtain ⟨rs, h', a1, _, a3⟩ := execF_ok (X := xc f) (holds := id) (abs := absH siteTab) (PH_ok cc sgTab siteTab) drN_ok hi (goodLs_ok hls) h
  exact ⟨rs, h', a1, a3⟩
/-- The rules, here. -/
def qxs := pxs cc sgTab siteTab
/-- The rules, here. -/
def qxc := pxc cc sgTab siteTab
/-- The rules, here. -/
def qxa := pxa cc sgTab siteTab
end Go.Am

/-
  SheetsKnown: the closed law says true.
-/
set_option maxRecDepth 100000
namespace Go.Am
open Sx Go.Proofs

theorem sheetsKnown_any (_ : (0 : Int) ≤ 0) : Cc 8 [] [.b true] := sheetsKnown_cc
end Go.Am
/-
  ARGUMENTS WITHOUT ADDRESSES, as the row reads them.
-/
namespace Go.Am
namespace Sx
open Go.ChangeShapes Go.WideShapes Go.ChangeAt Go.WideMaps Go.WideElems Go.RowKit

/-- The cells are of these kinds, in their ranges. -/
noncomputable def FitC : List LK → List Value → Prop
  | [], [] => True
  | .i k :: ks, v :: vs => (∃ n, v = .int k n ∧ (Lit.int k n).wf = true) ∧ FitC ks vs
  | .b :: ks, v :: vs => (∃ t, v = .bool t) ∧ FitC ks vs
  | _, _ => False
/-- The leaves are of these kinds, in their ranges. -/
noncomputable def FitL : List LK → List Lf → Prop
  | [], [] => True
  | .i k :: ks, .i n :: ls => (Lit.int k n).wf = true ∧ FitL ks ls
  | .b :: ks, .b _ :: ls => FitL ks ls
  | _, _ => False

theorem FitC.len : ∀ {ks : List LK} {vs : List Value}, FitC ks vs → vs.length = ks.length
  | [], [], _ => rfl
  | .i k :: ks, v :: vs, h => by simp [FitC.len h.2]
  | .b :: ks, v :: vs, h => by simp [FitC.len h.2]
  | .v :: _, _, h => by cases h
  | [], _ :: _, h => by cases h
  | .i _ :: _, [], h => by cases h
  | .b :: _, [], h => by cases h
theorem FitC.app : ∀ {ks ks' : List LK} {vs vs' : List Value}, FitC ks vs → FitC ks' vs' → FitC (ks ++ ks') (vs ++ vs')
  | [], _, [], _, _, h => h
  | .i k :: ks, _, v :: vs, _, h, h' => ⟨h.1, FitC.app h.2 h'⟩
  | .b :: ks, _, v :: vs, _, h, h' => ⟨h.1, FitC.app h.2 h'⟩
  | .v :: _, _, _, _, h, _ => by cases h
  | [], _, _ :: _, _, h, _ => by cases h
  | .i _ :: _, _, [], _, h, _ => by cases h
  | .b :: _, _, [], _, h, _ => by cases h
theorem FitL.app : ∀ {ks ks' : List LK} {vs vs' : List Lf}, FitL ks vs → FitL ks' vs' → FitL (ks ++ ks') (vs ++ vs')
  | [], _, [], _, _, h => h
  | .i k :: ks, _, .i v :: vs, _, h, h' => ⟨h.1, FitL.app h.2 h'⟩
  | .b :: ks, _, .b v :: vs, _, h, h' => FitL.app (ks := ks) h h'
  | .v :: _, _, _, _, h, _ => by cases h
  | [], _, _ :: _, _, h, _ => by cases h
  | .i _ :: _, _, [], _, h, _ => by cases h
  | .b :: _, _, [], _, h, _ => by cases h
  | .i _ :: _, _, .b _ :: _, _, h, _ => by cases h
  | .i _ :: _, _, .v _ :: _, _, h, _ => by cases h
  | .b :: _, _, .i _ :: _, _, h, _ => by cases h
  | .b :: _, _, .v _ :: _, _, h, _ => by cases h
/-- Cells as leaves. -/
theorem FitC.sl : ∀ {ks : List LK} {vs : List Value}, FitC ks vs → ∃ xs : List SL, xs.map SL.val = vs ∧ allIs xs ks = true ∧ (∀ x ∈ xs, x.good) ∧ FitL ks (xs.map SL.lf)
  | [], [], _ => ⟨[], rfl, rfl, fun _ h => (by cases h), trivial⟩
  | .i k :: ks, v :: vs, h => by
    obtain ⟨⟨n, rfl, hw⟩, h2⟩ := h
    obtain ⟨xs, a, b, c, d⟩ := FitC.sl h2
    exact ⟨.i k n :: xs, by simp [a, SL.val], by simp [allIs, b, SL.is, kSame_self], fun x hx => by
      rcases List.mem_cons.1 hx with rfl | hx
      · trivial
      · exact c x hx, hw, d⟩
  | .b :: ks, v :: vs, h => by
    obtain ⟨⟨n, rfl⟩, h2⟩ := h
    obtain ⟨xs, a, b, c, d⟩ := FitC.sl h2
    exact ⟨.b n :: xs, by simp [a, SL.val], by simp [allIs, b, SL.is], fun x hx => by
      rcases List.mem_cons.1 hx with rfl | hx
      · trivial
      · exact c x hx, d⟩
  | .v :: _, _, h => by cases h
  | [], _ :: _, h => by cases h
  | .i _ :: _, [], h => by cases h
  | .b :: _, [], h => by cases h

/-- The kinds of the cells of a type of numbers, truth values and structs. -/
noncomputable def flatF (F : TypeId → Option (List LK)) : List Field → Nat → Option (List LK)
  | [], _ => some []
  | f :: fs, off => match Nat.beq f.offset off, F f.type with
    | true, some ks => (flatF F fs (off + ks.length)).map (ks ++ ·)
    | _, _ => none
noncomputable def flatT (P : Program) : Nat → TypeId → Option (List LK)
  | 0, _ => none
  | d + 1, t => match P.underlying t with
    | some (.int k) => some [.i k]
    | some .bool => some [.b]
    | some (.struct fs) => match flatF (flatT P d) fs.toList 0 with
      | some ks => match Nat.beq ks.length (P.cellsOf t) with
        | true => some ks
        | false => none
      | none => none
    | _ => none
noncomputable def skT (P : Program) (t : TypeId) : Option SK :=
  match P.underlying t with
  | some (.int k) => some (.leaf (.i k))
  | some .bool => some (.leaf .b)
  | some (.struct _) => (flatT P 20 t).map .agg
  | _ => none

section
variable {H : Type} {enc : TypeId × Value → H} {P : Program}

theorem take_take_len {α : Type} (l : List α) (c : Nat) : l.take (l.take c).length = l.take c := by
  rw [List.length_take]
  rcases Nat.le_total c l.length with h | h
  · rw [Nat.min_eq_left h]
  · rw [Nat.min_eq_right h, List.take_of_length_le h, List.take_of_length_le (Nat.le_refl _)]

theorem flatF_ok {F : TypeId → Option (List LK)} {w : World} {base : Nat} {sp : Nat → Bool} {held : Bool} {fuel : Nat}
    (hF : ∀ t ks, F t = some ks → ∀ cs (x : DataW H × List MemPlace), DataW.trod enc P w base sp held fuel t cs = some x → x.2 = [] ∧ FitC ks cs ∧ ∀ w' b' s' h', DataW.trod enc P w' b' s' h' fuel t cs = some x) (cs : List Value) :
    ∀ (fs : List Field) (off : Nat) (ks : List LK) (xs : List (DataW H × List MemPlace)), flatF F fs off = some ks → fs.mapM (fun f => DataW.trod enc P w base sp held fuel f.type ((cs.drop f.offset).take (P.cellsOf f.type))) = some xs →
      xs.flatMap (·.2) = [] ∧ FitC ks ((cs.drop off).take ks.length) ∧ ∀ w' b' s' h', fs.mapM (fun f => DataW.trod enc P w' b' s' h' fuel f.type ((cs.drop f.offset).take (P.cellsOf f.type))) = some xs
  | [], off, ks, xs, h1, h2 => by
    simp only [flatF, Option.some.injEq] at h1
    subst h1
    simp only [List.mapM_nil, Option.pure_def, Option.some.injEq] at h2
    subst h2
    refine ⟨rfl, by simp [FitC], fun _ _ _ _ => by simp⟩
  | f :: fs, off, ks, xs, h1, h2 => by
    simp only [flatF] at h1
    split at h1
    · rename_i k1 e1 e2
      obtain ⟨k2, e3, rfl⟩ := Option.map_eq_some_iff.1 h1
      have e1 := Nat.eq_of_beq_eq_true e1
      rw [List.mapM_cons] at h2
      obtain ⟨x, h3, h2⟩ := Option.bind_eq_some_iff.1 h2
      obtain ⟨ys, h4, h2⟩ := Option.bind_eq_some_iff.1 h2
      cases h2
      obtain ⟨a1, a2, a3⟩ := hF _ _ e2 _ _ h3
      obtain ⟨b1, b2, b3⟩ := flatF_ok hF cs fs _ k2 ys e3 h4
      refine ⟨by simp [a1, b1], ?_, fun w' b' s' h' => ?_⟩
      · rw [List.length_append, List.take_add]
        refine FitC.app ?_ (by rw [List.drop_drop]; exact b2)
        have hl := FitC.len a2
        rw [e1] at a2 hl
        rw [← hl, take_take_len]
        exact a2
      · rw [List.mapM_cons, a3 w' b' s' h', b3 w' b' s' h']
        rfl
    · cases h1

theorem flatT_ok : ∀ (d : Nat) (t : TypeId) (ks : List LK), flatT P d t = some ks → ∀ (w : World) (base : Nat) (sp : Nat → Bool) (held : Bool) (fuel : Nat) (cs : List Value) (x : DataW H × List MemPlace), DataW.trod enc P w base sp held fuel t cs = some x →
    x.2 = [] ∧ FitC ks cs ∧ ∀ w' b' s' h', DataW.trod enc P w' b' s' h' fuel t cs = some x
  | 0, _, _, h => by cases h
  | d + 1, t, ks, h => by
    intro w base sp held fuel cs x hx
    simp only [flatT] at h
    split at h
    · rename_i k e
      cases h
      obtain ⟨n, rfl, rfl, hw⟩ := DataW.trod_int e hx
      refine ⟨rfl, ⟨⟨n, rfl, hw⟩, trivial⟩, fun w' b' s' h' => ?_⟩
      cases fuel with
      | zero => simp [DataW.trod] at hx
      | succ m => simp [DataW.trod, e, hw]
    · rename_i e
      cases h
      obtain ⟨n, rfl, rfl⟩ := DataW.trod_bool e hx
      refine ⟨rfl, ⟨⟨n, rfl⟩, trivial⟩, fun w' b' s' h' => ?_⟩
      cases fuel with
      | zero => simp [DataW.trod] at hx
      | succ m => simp [DataW.trod, e]
    · rename_i fs e
      split at h
      · rename_i k2 e2
        split at h
        · rename_i e3
          cases h
          have e3 := Nat.eq_of_beq_eq_true e3
          cases fuel with
          | zero => simp [DataW.trod] at hx
          | succ m =>
            simp only [DataW.trod, e] at hx
            split at hx
            · rename_i hl
              obtain ⟨xs, h5, rfl⟩ := Option.map_eq_some_iff.1 hx
              obtain ⟨a1, a2, a3⟩ := flatF_ok (fun t ks h cs x hx => flatT_ok d t ks h w base sp held m cs x hx) cs fs.toList 0 ks xs e2 h5
              rw [List.drop_zero, List.take_of_length_le (by omega)] at a2
              refine ⟨a1, a2, fun w' b' s' h' => ?_⟩
              simp only [DataW.trod, e, hl, if_true]
              rw [a3 w' b' s' h']
              rfl
            · cases hx
        · cases h
      · cases h
    · cases h

theorem open_flat {w : World} {r : Reach} {b0 base : Nat} {sp : Nat → Bool} {held : Bool} {t : TypeId} {sk : SK} {v : Value} {d : DataW H} {ps : List MemPlace} (h : skT P t = some sk) (hval : Value.okWide P w r b0 t v) (hd : DataW.Trod enc P w base sp held t v d ps) :
    ∃ x : S0, v = x.val ∧ x.is sk = true ∧ x.good ∧ FitL (skKs sk) (x.cells.map SL.lf) ∧ ps = [] ∧ ∀ w' b' s' h', DataW.Trod enc P w' b' s' h' t v d [] := by
  unfold skT at h
  split at h
  · rename_i k e
    cases h
    obtain ⟨n, rfl, rfl, rfl, hw⟩ := open_int e hval hd
    refine ⟨.leaf (.i k n), rfl, by simp [S0.is, SL.is, kSame_self], fun x hx => ?_, ⟨hw, trivial⟩, rfl, fun w' b' s' h' => shut_int e hw⟩
    simp only [S0.cells, List.mem_singleton] at hx
    subst hx; trivial
  · rename_i e
    cases h
    obtain ⟨n, rfl, rfl, rfl⟩ := open_bool e hval hd
    refine ⟨.leaf (.b n), rfl, rfl, fun x hx => ?_, trivial, rfl, fun w' b' s' h' => shut_bool e n⟩
    simp only [S0.cells, List.mem_singleton] at hx
    subst hx; trivial
  · rename_i fs e
    obtain ⟨ks, e2, rfl⟩ := Option.map_eq_some_iff.1 h
    obtain ⟨cs, rfl, hc⟩ := okWide_struct e hval
    obtain ⟨fuel, hf⟩ := hd
    obtain ⟨a1, a2, a3⟩ := flatT_ok 20 t ks e2 w base sp held fuel _ _ hf
    obtain ⟨xs, b1, b2, b3, b4⟩ := FitC.sl a2
    have a1 : ps = [] := a1
    subst a1
    refine ⟨.agg xs, ?_, b2, b3, b4, rfl, fun w' b' s' h' => ⟨fuel, a3 w' b' s' h'⟩⟩
    show Value.agg cs = .agg ⟨xs.map SL.val⟩
    rw [b1]
    rfl
  · cases h

noncomputable def skTs (P : Program) : List TypeId → Option (List SK)
  | [] => some []
  | t :: ts => match skT P t, skTs P ts with
    | some k, some ks => some (k :: ks)
    | _, _ => none

theorem open_args {w : World} {b0 base : Nat} {r : Reach} {sp : Nat → Bool} {held : Bool} : ∀ (ts : List TypeId) (sks : List SK) (vs : List Value) (ds : List (DataW H)) (ps : List MemPlace), skTs P ts = some sks →
    (∀ (j : Nat) t v, ts[j]? = some t → vs[j]? = some v → Value.okWide P w r b0 t v) → DataW.TrodAll enc P w base sp held ts vs ds ps →
    ∃ xs : List S0, vs = valsOf xs ∧ areIs xs sks = true ∧ (∀ x ∈ xs, x.good) ∧ FitL (sks.flatMap skKs) (lfsOf xs) ∧ ps = [] ∧ ∀ w' b' s' h', DataW.TrodAll enc P w' b' s' h' ts vs ds []
  | [], sks, [], [], ps, h, _, ht => by
    cases h
    have ht : ps = [] := ht
    exact ⟨[], rfl, rfl, fun _ h => (by cases h), trivial, ht, fun _ _ _ _ => rfl⟩
  | t :: ts, sks, v :: vs, d :: ds, ps, h, hv, ht => by
    simp only [skTs] at h
    split at h
    · rename_i k ks e1 e2
      cases h
      obtain ⟨p, q, h1, h2, rfl⟩ := ht
      obtain ⟨x, a1, a2, a3, a4, rfl, a6⟩ := open_flat e1 (hv 0 t v rfl rfl) h1
      obtain ⟨xs, b1, b2, b3, b4, rfl, b6⟩ := open_args ts ks vs ds q e2 (fun j t v h1 h2 => hv (j + 1) t v h1 h2) h2
      refine ⟨x :: xs, by rw [a1, b1]; rfl, by simp [areIs, a2, b2], fun y hy => ?_, ?_, rfl, fun w' b' s' h' => ⟨[], [], a6 w' b' s' h', b6 w' b' s' h', rfl⟩⟩
      · rcases List.mem_cons.1 hy with rfl | hy
        · exact a3
        · exact b3 y hy
      · exact FitL.app a4 b4
    · cases h
  | [], _, _ :: _, _, _, _, _, ht => by cases ht
  | [], _, [], _ :: _, _, _, _, ht => by cases ht
  | _ :: _, _, [], _, _, _, _, ht => by cases ht
  | _ :: _, _, _ :: _, [], _, _, _, ht => by cases ht
end

section
variable [Val]
/-- A contract, as a call. -/
theorem callok_of_ct {C : Cfg} {N : FuncId → Option Nat} {Sg : FuncId → Option Sig} (hm : C.P.follows .mixedOrders = true) {g : FuncId} {sg : Sig} (hs : Sg g = some sg) {ls rs : List Lf} (hc : Ct C N Sg g ls rs) {xs ys : List S0} (h1 : areIs xs sg.ps = true) (h2 : lfsOf xs = ls) (h3 : areIs ys sg.rs = true) (h4 : lfsOf ys = rs) (H : List HObj) :
    CallOk C g (valsOf xs) H (packA (valsOf ys)) H := by
  let _ : Kno := KnoC C N
  obtain ⟨sg', xs', ys', c1, c2, c3, c4⟩ := hc H
  rw [hs] at c1
  cases c1
  obtain ⟨w1, _⟩ := areIs_val c2.1 h1 (c2.2.1.trans h2.symm)
  obtain ⟨w2, _⟩ := areIs_val c3.1 h3 (c3.2.1.trans h4.symm)
  rw [w1, w2] at c4
  exact uCallC_ok hm c4
end
end Sx
end Go.Am
namespace Go.Am
namespace Sx
theorem FitL.i {k : IntKind} {ks : List LK} {ls : List Lf} (h : FitL (.i k :: ks) ls) : ∃ n r, ls = .i n :: r ∧ (Lit.int k n).wf = true ∧ FitL ks r := by
  match ls, h with
  | .i n :: r, h => exact ⟨n, r, rfl, h.1, h.2⟩
theorem FitL.b {ks : List LK} {ls : List Lf} (h : FitL (.b :: ks) ls) : ∃ n r, ls = .b n :: r ∧ FitL ks r := by
  match ls, h with
  | .b n :: r, h => exact ⟨n, r, rfl, h⟩
theorem FitL.nil {ls : List Lf} (h : FitL [] ls) : ls = [] := by
  match ls, h with
  | [], _ => rfl
theorem wf_i64 {n : Int} (h : (Lit.int .i64 n).wf = true) : -9223372036854775808 ≤ n ∧ n ≤ 9223372036854775807 := by
  simp only [Lit.wf, Bool.and_eq_true, decide_eq_true_eq] at h
  exact h
theorem wf_u8 {n : Int} (h : (Lit.int .u8 n).wf = true) : 0 ≤ n ∧ n ≤ 255 := by
  simp only [Lit.wf, Bool.and_eq_true, decide_eq_true_eq] at h
  exact h
theorem wf_i8 {n : Int} (h : (Lit.int .i8 n).wf = true) : -128 ≤ n ∧ n ≤ 127 := by
  simp only [Lit.wf, Bool.and_eq_true, decide_eq_true_eq] at h
  exact h
theorem trodAll_len {H : Type} {enc : TypeId × Value → H} {P : Program} {w : World} {base : Nat} {sp : Nat → Bool} {held : Bool} : ∀ {ts : List TypeId} {vs : List Value} {ds : List (DataW H)} {ps : List MemPlace}, DataW.TrodAll enc P w base sp held ts vs ds ps → ds.length = ts.length
  | [], [], [], _, _ => rfl
  | _ :: _, _ :: _, _ :: _, _, h => by
    obtain ⟨p, q, _, h2, _⟩ := h
    simp [trodAll_len h2]
  | [], _ :: _, _, _, h => by cases h
  | [], [], _ :: _, _, h => by cases h
  | _ :: _, [], _, _, h => by cases h
  | _ :: _, _ :: _, [], _, h => by cases h
end Sx
end Go.Am

/-
  WHAT THE ROW SAYS OF THE LISTED VARIABLES: the table of the quarters.
-/
set_option maxRecDepth 100000
namespace Go.Proofs.YtdngmncaohgacaaDoor
open Go Go.Am Go.Am.Sx
open Go.ChangeShapes Go.WideShapes Go.ChangeAt Go.WideMaps Go.WideElems Go.RowKit

abbrev laidC : List (String × DataW Unit) := [("crimp/cells.quarters", Rows.laid_crimp_cells_quarters)]
theorem name0 : Tryd.prog.globalNamed "crimp/cells.quarters" = some 0 := by kernel_rfl
/-- What the list gives. -/
theorem of_laid {W : World} (h : laidMetH Tryd.prog laidC W) (g : Nat) (vs : List Value) (hg : cc.G g = some vs) :
    g < W.heap.size ∧ vs.all cellOk = true ∧ vs.all flat = true ∧ ∃ c e fr, W.heap[g]? = some (.cells c e fr) ∧ c.toList = vs := by
  rw [MakeChecks.laidMetH_plain _ _ _ (by kernel_rfl)] at h
  obtain ⟨ps, h, _, _⟩ := h
  have main : ∃ c e fr, W.heap[g]? = some (.cells c e fr) ∧ c.toList = vs := by
    unfold cc at hg
    simp only at hg
    split at hg
    · cases hg
      exact laid_cells h "crimp/cells.quarters" Rows.laid_crimp_cells_quarters List.mem_cons_self 0 137 8 gl0 name0 (by kernel_rfl) (by kernel_rfl)
    · cases hg
  refine ⟨?_, gl_cell g vs hg, gl_flat g vs hg, main⟩
  obtain ⟨c, e, fr, h1, _⟩ := main
  rcases Nat.lt_or_ge g W.heap.size with h | h
  · exact h
  · rw [Array.getElem?_eq_none h] at h1; cases h1
theorem own : ownKnob Tryd.prog.godebug = none := by kernel_rfl
theorem door_met (os : Os) (args : Array Value) : laidMetH Tryd.prog laidC ((World.doorLaid Tryd.prog 400 os).forCall (fun _ _ => 0) ⟨#[], args, []⟩).memory :=
  laidMetH_of_parts3 (fuel := 8) (laidMet_of_run' 8 (by kernel_rfl) (by kernel_rfl)) (by kernel_rfl) (by kernel_rfl)
end Go.Proofs.YtdngmncaohgacaaDoor

