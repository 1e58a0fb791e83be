/-
  PART 7 OF THE PROOF: Ph1 Ph2 Pq Gp Hx1 Hx2 E1 Sx15 E0 E2 E3 Hx3 E4 E5 E9 E6 E7 E10 St9 E11 (no conditions).
-/
import Derived.Test.YtdfpmkmlomjonaaGreatDoorB6
set_option linter.unusedSectionVars false
set_option linter.unusedSimpArgs false
set_option linter.unusedVariables false
set_option linter.constructorNameAsVariable false
set_option linter.defProp false
/-
 THE ALGEBRA OF PROPOSITIONS OVER THE HEAPS OF RUNS; what a run shows holds in it.
-/
namespace Go.Am
namespace Sx
section
variable [Val] [Kno]
def peekH (T : Nat → Site) (f : Pk) (h : HL) (K : List Value → Prop) : Prop := ∃ cs, f.run (getH T h) = some cs ∧ K cs
def heapH (T : Nat → Site) (f : Hp) (h : HL) (K : List Value → HL → Prop) : Prop := ∃ acts cs, f.run (getH T h) h.length = some (acts, cs) ∧ K cs (fv h acts)
def callH (C : Cfg) (Sg : FuncId → Option Sig) (T : Nat → Site) (g : FuncId) (ls : List Lf) (h : HL) (K : List Lf → HL → Prop) : Prop := ∃ rs h', aQ C Sg g ls (absH T h) rs (absH T h') ∧ K rs h'
def callvH (C : Cfg) (T : Nat → Site) (v : Value) (args : List Value) (hs : List SK) (h : HL) (K : List Lf → HL → Prop) : Prop := ∃ rs h', qk C v args hs (absH T h) rs (absH T h') ∧ K rs h'
noncomputable def itH (F : (List Lf → HL → Prop) → List Lf → HL → Prop) (n : Nat) : List Lf → HL → Prop :=
 match n with
 | 0 => fun _ _ => False
 | n + 1 => F (itH F n)
def loopH (F : (List Lf → HL → Prop) → List Lf → HL → Prop) (ls : List Lf) (h : HL) : Prop := ∃ n, itH F n ls h
def rfunH (C : Cfg) (T : Nat → Site) (κ : Nat) (v : Value) (vals : List Value) (h : HL) (K : Option Code → HL → Prop) : Prop :=
 ∃ g first cap r H1 lp h2, v = .func (.func g) first cap ∧
  fk C g (first.toList ++ [.func (.yield (absH T h).length) #[] #[]] ++ cap.toList) (absH T h ++ [.loop (lpOf (T κ) κ vals)]) r H1 ∧
  dh H1 (absH T h).length = some lp ∧ lp.state ≠ .busy ∧ absH T h2 = H1.set (absH T h).length (.loop { lp with state := .exhausted }) ∧ K lp.pending h2
def lp1H (T : Nat → Site) (l : Nat) (h : HL) (K : HL → Prop) : Prop := ∃ lp h', dh (absH T h) l = some lp ∧ lp.state = .ready ∧ absH T h' = (absH T h).set l (.loop { lp with state := .busy }) ∧ K h'
def lp2H (T : Nat → Site) (l : Nat) (j : Option Code) (h : HL) (K : HL → Prop) : Prop := ∃ lp h', dh (absH T h) l = some lp ∧ absH T h' = (absH T h).set l (.loop { lp with state := if j.isNone then .ready else .done, pending := j }) ∧ K h'
noncomputable def PH (C : Cfg) (Sg : FuncId → Option Sig) (T : Nat → Site) : Alg Prop HL where
 fail := False
 cond := condP
 ari := ariP
 shf := fun op k a k' b K => ∃ n, ShRun op k a k' b n ∧ K n
 cmp := cmpP
 eqs := fun l K => K (cu l)
 conv := fun k a K => K (k.wrap a)
 sel := fun t a b K => K (if t then a else b)
 opt := optP
 chk := fun v K => ca v = true ∧ K
 unI := unIP
 unB := unBP
 unV := unVP
 un0 := un0P
 ucI := ucIP
 ucB := ucBP
 ucV := ucVP
 uc0 := uc0P
 peek := peekH T
 heap := heapH T
 new := fun o h K => K h.length (h ++ [.o o])
 call := callH C Sg T
 callv := callvH C T
 join := fun b m => m b
 loop := loopH
 rfun := rfunH C T
 pend := pendP
 lp1 := lp1H T
 lp2 := lp2H T
theorem PH_ok (C : Cfg) (Sg : FuncId → Option Sig) (T : Nat → Site) : AlgOk (PH C Sg T) C Sg T id (absH T) where
 fail := (ea C Sg T).fail
 cond := (ea C Sg T).cond
 ari := (ea C Sg T).ari
 shf := (ea C Sg T).shf
 cmp := (ea C Sg T).cmp
 eqs := (ea C Sg T).eqs
 conv := (ea C Sg T).conv
 sel := (ea C Sg T).sel
 opt := (ea C Sg T).opt
 chk := (ea C Sg T).chk
 unI := (ea C Sg T).unI
 unB := (ea C Sg T).unB
 unV := (ea C Sg T).unV
 un0 := (ea C Sg T).un0
 ucI := (ea C Sg T).ucI
 ucB := (ea C Sg T).ucB
 ucV := (ea C Sg T).ucV
 uc0 := (ea C Sg T).uc0
 peek := by
  intro f h K hk
  obtain ⟨cs, h1, h2⟩ := hk
  exact ⟨cs, by rw [← gI]; exact h1, h2⟩
 heap := by
  intro f h K hk
  obtain ⟨acts, cs, h1, h2⟩ := hk
  exact ⟨acts, cs, _, by rw [← gI, eV]; exact h1, gz T acts h, h2⟩
 new := fun o h K hk => ⟨_, fL T h _, by rw [eV]; exact hk⟩
 call := fun g ls h K hk => hk
 callv := fun v args hs h K hk => hk
 join := fun b m h => h
 loop := by
  intro F ls h hk
  obtain ⟨n, hk⟩ := hk
  exact ⟨itH F, fun ls h => (id : False → False), fun n ls h => rfl, n, hk⟩
 rfun := fun κ v vals h K hk => hk
 pend := (ea C Sg T).pend
 lp1 := fun l h K hk => hk
 lp2 := fun l j h K hk => hk
section
variable {C : Cfg} {Sg : FuncId → Option Sig} {T : Nat → Site} {call : aa} (hc : CallBOk C Sg T call)
abbrev KLe (K : List Lf → HTr → RT) (K' : List Lf → HL → Prop) : Prop := ∀ ls h, K ls h = yes → K' ls (toL h)
include hc
theorem nT {b : Bool} {x y : RT} {x' y' : Prop} (hx : x = yes → x') (hy : y = yes → y') (h : (BA Sg T call).cond b x y = yes) : (PH C Sg T).cond b x' y' := by
 rcases (iM hc).cond b x y h with ⟨rfl, h⟩ | ⟨rfl, h⟩
 ·exact ⟨fun _ => hx h, fun e => (by cases e)⟩
 ·exact ⟨fun e => (by cases e), fun _ => hy h⟩
theorem s_ari {op : BinOp} {k : IntKind} {a b : Int} {K : Int → RT} {K' : Int → Prop} (hk : ∀ n, K n = yes → K' n) (h : (BA Sg T call).ari op k a b K = yes) : (PH C Sg T).ari op k a b K' := by
 replace h : ariB op k a b K = yes := h
 show ariP op k a b K'
 cases op <;> simp only [ariB, reduceCtorEq] at h <;> simp only [ariP]
 ·rw [addK_eq, ej] at h; exact hk _ h
 ·rw [subK_eq, ej] at h; exact hk _ h
 ·rw [mulK_eq, ej] at h; exact hk _ h
 ·cases hb : isZ b with
  | true => rw [hb] at h; cases h
  | false => rw [hb] at h; simp only [quoK_eq, ej] at h; exact ⟨gf hb, hk _ h⟩
 ·cases hb : isZ b with
  | true => rw [hb] at h; cases h
  | false => rw [hb] at h; simp only [remK_eq] at h; exact ⟨gf hb, hk _ h⟩
 ·split at h
  ·rename_i hb
   have hb := lL.1 hb
   subst hb
   rw [gF] at h
   exact .inl ⟨rfl, hk _ h⟩
  ·rename_i hb
   split at h
   ·rw [gF] at h
    exact .inr ⟨eqI_false.1 hb, _, jF _ _, hk _ (fitsK h)⟩
   ·cases h
theorem s_cmp {op : BinOp} {a b : Int} {K : Bool → RT} {K' : Bool → Prop} (hk : ∀ n, K n = yes → K' n) (h : (BA Sg T call).cmp op a b K = yes) : (PH C Sg T).cmp op a b K' := by
 obtain ⟨t, h1, h2⟩ := cmpB_ok h
 show cmpP op a b K'
 cases op <;> simp only [iW, Option.some.injEq] at h1 <;> first | (cases h1; done) | (simp only [cmpP]; rw [h1]; exact hk _ h2)
theorem s_eqs {l : List (Lf × Lf)} {K : Bool → RT} {K' : Bool → Prop} (hk : ∀ n, K n = yes → K' n) (h : (BA Sg T call).eqs l K = yes) : (PH C Sg T).eqs l K' := hk _ (eqsB_ok h)
theorem s_opt {α : Type} {o : Option α} {K : α → RT} {K' : α → Prop} (hk : ∀ n, K n = yes → K' n) (h : (BA Sg T call).opt o K = yes) : (PH C Sg T).opt o K' := by
 obtain ⟨x, h1, h2⟩ := (iM hc).opt o K h
 exact ⟨x, h1, hk _ h2⟩
theorem gX {l : List Lf} {K : Int → List Lf → RT} {K' : Int → List Lf → Prop} (hk : ∀ n r, K n r = yes → K' n r) (h : (BA Sg T call).unI l K = yes) : (PH C Sg T).unI l K' := by
 obtain ⟨n, r, rfl, h2⟩ := (iM hc).unI l K h
 exact hk _ _ h2
theorem s_unV {l : List Lf} {K : Value → List Lf → RT} {K' : Value → List Lf → Prop} (hk : ∀ n r, K n r = yes → K' n r) (h : (BA Sg T call).unV l K = yes) : (PH C Sg T).unV l K' := by
 obtain ⟨n, r, rfl, h2⟩ := (iM hc).unV l K h
 exact hk _ _ h2
theorem nU {l : List Lf} {K : RT} {K' : Prop} (hk : K = yes → K') (h : (BA Sg T call).un0 l K = yes) : (PH C Sg T).un0 l K' := by
 obtain ⟨rfl, h2⟩ := (iM hc).un0 l K h
 exact hk h2
theorem s_ucI {k : IntKind} {l : List Value} {K : Int → List Value → RT} {K' : Int → List Value → Prop} (hk : ∀ n r, K n r = yes → K' n r) (h : (BA Sg T call).ucI k l K = yes) : (PH C Sg T).ucI k l K' := by
 obtain ⟨n, r, rfl, h2⟩ := (iM hc).ucI k l K h
 exact ⟨rfl, hk _ _ h2⟩
theorem s_uc0 {l : List Value} {K : RT} {K' : Prop} (hk : K = yes → K') (h : (BA Sg T call).uc0 l K = yes) : (PH C Sg T).uc0 l K' := by
 obtain ⟨rfl, h2⟩ := (iM hc).uc0 l K h
 exact hk h2
theorem s_peek {f : Pk} {h : HTr} {K : List Value → RT} {K' : List Value → Prop} (hk : ∀ n, K n = yes → K' n) (e : (BA Sg T call).peek f h K = yes) : (PH C Sg T).peek f (toL h) K' := by
 obtain ⟨cs, h1, h2⟩ := (iM hc).peek f h K e
 exact ⟨cs, by rw [gI]; exact h1, hk _ h2⟩
theorem pX {g : FuncId} {l : List Lf} {h : HTr} {K : List Lf → HTr → RT} {K' : List Lf → HL → Prop} (hk : ∀ l h, K l h = yes → K' l (toL h)) (e : (BA Sg T call).call g l h K = yes) : (PH C Sg T).call g l (toL h) K' := by
 obtain ⟨rs, h', h1, h2⟩ := lF hc e
 exact ⟨rs, toL h', h1, hk _ _ h2⟩
theorem s_join {b : List Lf → HTr → RT} {b' : List Lf → HL → Prop} {m : (List Lf → HTr → RT) → RT} {m' : (List Lf → HL → Prop) → Prop} (hb : KLe b b') (hm : ∀ j j', KLe j j' → m j = yes → m' j') (e : (BA Sg T call).join b m = yes) : (PH C Sg T).join b' m' := hm _ _ hb e
theorem s_loop {F : (List Lf → HTr → RT) → List Lf → HTr → RT} {F' : (List Lf → HL → Prop) → List Lf → HL → Prop} {l : List Lf} {h : HTr} (hF : ∀ s s', KLe s s' → ∀ l h, F s l h = yes → F' s' l (toL h)) (e : (BA Sg T call).loop F l h = yes) : (PH C Sg T).loop F' l (toL h) := by
 obtain ⟨it, i0, i1, n, hn⟩ := (iM hc).loop F l h e
 refine ⟨n, ?_⟩
 have : ∀ n l h, it n l h = yes → itH F' n l (toL h) := by
  intro n
  induction n with
  | zero => intro l h hn; exact absurd hn (i0 l h)
  | succ n ih =>
   intro l h hn
   rw [i1] at hn
   exact hF _ _ (fun l h => ih l h) l h hn
 exact this n l h hn
inductive SL2 : List (Nat × RT) → List (Nat × Prop) → Prop
 |nil : SL2 [] []
 |cons {id : Nat} {x : RT} {x' : Prop} {l : List (Nat × RT)} {l' : List (Nat × Prop)} (hx : x = yes → x') (hl : SL2 l l') : SL2 ((id, x) :: l) ((id, x') :: l')
omit hc in
end
theorem pC {F : (List Lf → HL → Prop) → List Lf → HL → Prop} (Inv : Nat → List Lf → HL → Prop)
  (step : ∀ m ls h, Inv m ls h → ∀ self : List Lf → HL → Prop, (∀ m' ls h, m' < m → Inv m' ls h → self ls h) → F self ls h) : ∀ n m ls h, m < n → Inv m ls h → itH F n ls h
 | 0, _, _, _, hm, _ => absurd hm (Nat.not_lt_zero _)
 | n + 1, m, ls, h, hm, hi => step m ls h hi (itH F n) fun m' ls h h' hi' => pC Inv step n m' ls h (by omega) hi'
theorem qH {F : (List Lf → HL → Prop) → List Lf → HL → Prop} (Inv : Nat → List Lf → HL → Prop) {m : Nat} {ls : List Lf} {h : HL} (hi : Inv m ls h)
  (step : ∀ m ls h, Inv m ls h → ∀ self : List Lf → HL → Prop, (∀ m' ls h, m' < m → Inv m' ls h → self ls h) → F self ls h) : loopH F ls h :=
 ⟨m + 1, pC Inv step (m + 1) m ls h (Nat.lt_succ_self m) hi⟩
end
end Sx
end Go.Am

/-
 THE ALGEBRA OF PROPOSITIONS, its rules as equations: a step each.
-/
namespace Go.Am
namespace Sx
class Bx (α : Sort _) where
 v : α
noncomputable def hid {α : Sort _} [b : Bx α] : α := b.v
section
variable [Val] [Kno] {C : Cfg} {Sg : FuncId → Option Sig} {T : Nat → Site}
theorem b_unI {n : Int} {r : List Lf} {K : Int → List Lf → Prop} : (PH C Sg T).unI (.i n :: r) K = K n r := rfl
theorem b_unB {n : Bool} {r : List Lf} {K : Bool → List Lf → Prop} : (PH C Sg T).unB (.b n :: r) K = K n r := rfl
theorem b_unV {n : Value} {r : List Lf} {K : Value → List Lf → Prop} : (PH C Sg T).unV (.v n :: r) K = K n r := rfl
theorem b_un0 {K : Prop} : (PH C Sg T).un0 [] K = K := rfl
theorem b_ucI {k : IntKind} {n : Int} {r : List Value} {K : Int → List Value → Prop} : (PH C Sg T).ucI k (.int k n :: r) K = K n r := by
 show (k = k ∧ K n r) = K n r
 simp
theorem b_ucB {n : Bool} {r : List Value} {K : Bool → List Value → Prop} : (PH C Sg T).ucB (.bool n :: r) K = K n r := rfl
theorem b_ucV {n : Value} {r : List Value} {K : Value → List Value → Prop} : (PH C Sg T).ucV (n :: r) K = K n r := rfl
theorem b_uc0 {K : Prop} : (PH C Sg T).uc0 [] K = K := rfl
theorem b_cond_t {X Y : Prop} : (PH C Sg T).cond true X Y = X := by
 show ((true = true → X) ∧ (true = false → Y)) = X
 simp
theorem b_cond_f {X Y : Prop} : (PH C Sg T).cond false X Y = Y := by
 show ((false = true → X) ∧ (false = false → Y)) = Y
 simp
theorem b_lss_t {a b : Int} {K : Bool → Prop} (h : a < b) : (PH C Sg T).cmp .lss a b K = K true := by
 show K (decide (a < b)) = _; rw [decide_eq_true h]
theorem b_lss_f {a b : Int} {K : Bool → Prop} (h : b ≤ a) : (PH C Sg T).cmp .lss a b K = K false := by
 show K (decide (a < b)) = _; rw [decide_eq_false (by omega)]
theorem b_leq_t {a b : Int} {K : Bool → Prop} (h : a ≤ b) : (PH C Sg T).cmp .leq a b K = K true := by
 show K (decide (a ≤ b)) = _; rw [decide_eq_true h]
theorem b_leq_f {a b : Int} {K : Bool → Prop} (h : b < a) : (PH C Sg T).cmp .leq a b K = K false := by
 show K (decide (a ≤ b)) = _; rw [decide_eq_false (by omega)]
theorem b_gtr_t {a b : Int} {K : Bool → Prop} (h : b < a) : (PH C Sg T).cmp .gtr a b K = K true := by
 show K (decide (a > b)) = _; rw [decide_eq_true h]
theorem b_gtr_f {a b : Int} {K : Bool → Prop} (h : a ≤ b) : (PH C Sg T).cmp .gtr a b K = K false := by
 show K (decide (a > b)) = _; rw [decide_eq_false (by omega)]
theorem b_geq_t {a b : Int} {K : Bool → Prop} (h : b ≤ a) : (PH C Sg T).cmp .geq a b K = K true := by
 show K (decide (a ≥ b)) = _; rw [decide_eq_true h]
theorem b_geq_f {a b : Int} {K : Bool → Prop} (h : a < b) : (PH C Sg T).cmp .geq a b K = K false := by
 show K (decide (a ≥ b)) = _; rw [decide_eq_false (by omega)]
theorem b_eql_t {a b : Int} {K : Bool → Prop} (h : a = b) : (PH C Sg T).cmp .eql a b K = K true := by
 show K (a == b) = _; rw [beq_iff_eq.2 h]
theorem b_eql_f {a b : Int} {K : Bool → Prop} (h : a ≠ b) : (PH C Sg T).cmp .eql a b K = K false := by
 show K (a == b) = _; rw [beq_false_of_ne h]
theorem b_neq_t {a b : Int} {K : Bool → Prop} (h : a ≠ b) : (PH C Sg T).cmp .neq a b K = K true := by
 show K (a != b) = _; rw [bne_iff_ne.2 h]
theorem b_neq_f {a b : Int} {K : Bool → Prop} (h : a = b) : (PH C Sg T).cmp .neq a b K = K false := by
 show K (a != b) = _; subst h; simp
theorem b_add {a b : Int} {K : Int → Prop} (h1 : -9223372036854775808 ≤ a + b) (h2 : a + b ≤ 9223372036854775807) : (PH C Sg T).ari .add .i64 a b K = K (a + b) := by
 show K (IntKind.wrap .i64 (a + b)) = _; rw [cm h1 h2]
theorem b_sub {a b : Int} {K : Int → Prop} (h1 : -9223372036854775808 ≤ a - b) (h2 : a - b ≤ 9223372036854775807) : (PH C Sg T).ari .sub .i64 a b K = K (a - b) := by
 show K (IntKind.wrap .i64 (a - b)) = _; rw [cm h1 h2]
theorem b_mul {a b : Int} {K : Int → Prop} (h1 : -9223372036854775808 ≤ a * b) (h2 : a * b ≤ 9223372036854775807) : (PH C Sg T).ari .mul .i64 a b K = K (a * b) := by
 show K (IntKind.wrap .i64 (a * b)) = _; rw [cm h1 h2]
theorem b_add8 {a b : Int} {K : Int → Prop} (h1 : 0 ≤ a + b) (h2 : a + b ≤ 255) : (PH C Sg T).ari .add .u8 a b K = K (a + b) := by
 show K (IntKind.wrap .u8 (a + b)) = _; rw [mH h1 h2]
theorem b_sub8 {a b : Int} {K : Int → Prop} (h1 : 0 ≤ a - b) (h2 : a - b ≤ 255) : (PH C Sg T).ari .sub .u8 a b K = K (a - b) := by
 show K (IntKind.wrap .u8 (a - b)) = _; rw [mH h1 h2]
theorem b_mul8 {a b : Int} {K : Int → Prop} (h1 : 0 ≤ a * b) (h2 : a * b ≤ 255) : (PH C Sg T).ari .mul .u8 a b K = K (a * b) := by
 show K (IntKind.wrap .u8 (a * b)) = _; rw [mH h1 h2]
theorem tdiv_nn {a b : Int} (h : 0 ≤ a) : a.tdiv b = a / b := Int.tdiv_eq_ediv_of_nonneg h
theorem b_quo_nn {a b : Int} {K : Int → Prop} (h : 0 ≤ a) (hb : 0 < b) (h2 : a ≤ 9223372036854775807) : (PH C Sg T).ari .quo .i64 a b K = K (a / b) := by
 show (b ≠ 0 ∧ K (IntKind.wrap .i64 (a.tdiv b))) = _
 have h3 : a / b ≤ a := Int.ediv_le_self b h
 have h4 : 0 ≤ a / b := Int.ediv_nonneg h (by omega)
 rw [tdiv_nn h, cm (by omega) (by omega)]
 simp; intro _ h; omega
theorem b_quo_dv {a b : Int} {K : Int → Prop} (h : a % b = 0) (hb : 0 < b) (h1 : -9223372036854775808 ≤ a) (h2 : a ≤ 9223372036854775807) : (PH C Sg T).ari .quo .i64 a b K = K (a / b) := by
 show (b ≠ 0 ∧ K (IntKind.wrap .i64 (a.tdiv b))) = _
 obtain ⟨q, rfl⟩ := Int.dvd_of_emod_eq_zero h
 rw [Int.mul_tdiv_cancel_left q (by omega), Int.mul_ediv_cancel_left q (by omega)]
 have hq : -9223372036854775808 ≤ q ∧ q ≤ 9223372036854775807 := by
  rcases Int.le_total 0 q with hs | hs
  ·have := Int.mul_le_mul_of_nonneg_right (show (1 : Int) ≤ b by omega) hs
   omega
  ·have := Int.mul_le_mul_of_nonneg_right (show (1 : Int) ≤ b by omega) (show 0 ≤ -q by omega)
   rw [Int.mul_neg b q] at this
   omega
 rw [cm hq.1 hq.2]
 simp; intro _ h; omega
theorem b_rem_nn {k : IntKind} {a b : Int} {K : Int → Prop} (h : 0 ≤ a) (hb : 0 < b) : (PH C Sg T).ari .rem k a b K = K (a % b) := by
 show (b ≠ 0 ∧ K (a.tmod b)) = _
 rw [Int.tmod_eq_emod_of_nonneg h]
 simp; intro _ h; omega
theorem b_rem_np {k : IntKind} {a b : Int} {K : Int → Prop} (h : a ≤ 0) (hb : 0 < b) : (PH C Sg T).ari .rem k a b K = K (-((-a) % b)) := by
 show (b ≠ 0 ∧ K (a.tmod b)) = _
 have : a.tmod b = -((-a) % b) := by
  have h1 := Int.neg_tmod a b
  rw [Int.tmod_eq_emod_of_nonneg (a := -a) (by omega)] at h1
  omega
 rw [this]
 simp; intro _ h; omega
theorem b_and1 {a : Int} {K : Int → Prop} : (PH C Sg T).ari .and .i64 a 1 K = K (a % 2) := by
 show (((1 : Int) = 1 ∧ K (a % 2)) ∨ ((1 : Int) ≠ 1 ∧ ∃ n, oa .and .i64 a 1 n ∧ K n)) = K (a % 2)
 simp
theorem b_conv {a : Int} {K : Int → Prop} (h1 : -9223372036854775808 ≤ a) (h2 : a ≤ 9223372036854775807) : (PH C Sg T).conv .i64 a K = K a := by
 show K (IntKind.wrap .i64 a) = _; rw [cm h1 h2]
theorem b_conv8 {a : Int} {K : Int → Prop} (h1 : 0 ≤ a) (h2 : a ≤ 255) : (PH C Sg T).conv .u8 a K = K a := by
 show K (IntKind.wrap .u8 a) = _; rw [mH h1 h2]
theorem b_sel_t {a b : Int} {K : Int → Prop} : (PH C Sg T).sel true a b K = K a := rfl
theorem b_sel_f {a b : Int} {K : Int → Prop} : (PH C Sg T).sel false a b K = K b := rfl
theorem b_opt {α : Type} {x : α} {K : α → Prop} : (PH C Sg T).opt (some x) K = K x := by
 show (∃ y, some x = some y ∧ K y) = K x
 simp
theorem b_inB {n : Nat} {i : Int} {K : Unit → Prop} (h1 : 0 ≤ i) (h2 : i < (n : Int)) : (PH C Sg T).opt (inB n i) K = K () := by
 rw [show inB n i = some () from (inB_eq n i).trans (if_pos ⟨h1, h2⟩), b_opt]
theorem b_join {b : List Lf → HL → Prop} {m : (List Lf → HL → Prop) → Prop} : (PH C Sg T).join b m = m b := rfl
theorem b_eqs0 {K : Bool → Prop} : (PH C Sg T).eqs [] K = K true := rfl
theorem b_eqs_t {a b : Int} {l : List (Lf × Lf)} {K : Bool → Prop} (h : a = b) : (PH C Sg T).eqs ((.i a, .i b) :: l) K = (PH C Sg T).eqs l K := by
 show K (cu _) = K (cu l)
 subst h
 simp [cu, fV]
theorem b_eqs_f {a b : Int} {l : List (Lf × Lf)} {K : Bool → Prop} (h : a ≠ b) : (PH C Sg T).eqs ((.i a, .i b) :: l) K = K false := by
 show K (cu _) = K false
 have : (a == b) = false := beq_false_of_ne h
 simp [cu, fV, this]
theorem b_it {F : (List Lf → HL → Prop) → List Lf → HL → Prop} {n : Nat} {ls : List Lf} {h : HL} : itH F (n + 1) ls h = F (itH F n) ls h := rfl
theorem bJ {g : FuncId} {ls rs : List Lf} {h : HL} {K : List Lf → HL → Prop} (hc : ∀ H, aQ C Sg g ls H rs H) (hk : K rs h) : (PH C Sg T).call g ls h (@hid _ ⟨K⟩) := ⟨rs, h, hc _, hk⟩
theorem b_eqsb_t {a b : Bool} {l : List (Lf × Lf)} {K : Bool → Prop} (h : a = b) : (PH C Sg T).eqs ((.b a, .b b) :: l) K = (PH C Sg T).eqs l K := by
 show K (cu _) = K (cu l)
 subst h
 simp [cu, fV]
theorem b_eqsb_tf {l : List (Lf × Lf)} {K : Bool → Prop} : (PH C Sg T).eqs ((.b true, .b false) :: l) K = K false := rfl
theorem b_eqsb_ft {l : List (Lf × Lf)} {K : Bool → Prop} : (PH C Sg T).eqs ((.b false, .b true) :: l) K = K false := rfl
theorem b_mul_1 {b : Int} {K : Int → Prop} (h1 : -9223372036854775808 ≤ b) (h2 : b ≤ 9223372036854775807) : (PH C Sg T).ari .mul .i64 1 b K = K b := by
 show K (IntKind.wrap .i64 (1 * b)) = _; rw [Int.one_mul, cm h1 h2]
theorem b_mul_0 {b : Int} {K : Int → Prop} : (PH C Sg T).ari .mul .i64 0 b K = K 0 := by
 show K (IntKind.wrap .i64 (0 * b)) = _; rw [Int.zero_mul]; rfl
theorem b_mul_m {b : Int} {K : Int → Prop} (h1 : -9223372036854775808 ≤ -b) (h2 : -b ≤ 9223372036854775807) : (PH C Sg T).ari .mul .i64 (-1) b K = K (-b) := by
 show K (IntKind.wrap .i64 (-1 * b)) = _
 have : (-1 * b : Int) = -b := by omega
 rw [this, cm h1 h2]
theorem b_mul_r1 {b : Int} {K : Int → Prop} (h1 : -9223372036854775808 ≤ b) (h2 : b ≤ 9223372036854775807) : (PH C Sg T).ari .mul .i64 b 1 K = K b := by
 show K (IntKind.wrap .i64 (b * 1)) = _; rw [Int.mul_one, cm h1 h2]
theorem b_mul_r0 {b : Int} {K : Int → Prop} : (PH C Sg T).ari .mul .i64 b 0 K = K 0 := by
 show K (IntKind.wrap .i64 (b * 0)) = _; rw [Int.mul_zero]; rfl
theorem b_mul_rm {b : Int} {K : Int → Prop} (h1 : -9223372036854775808 ≤ -b) (h2 : -b ≤ 9223372036854775807) : (PH C Sg T).ari .mul .i64 b (-1) K = K (-b) := by
 show K (IntKind.wrap .i64 (b * -1)) = _
 have : (b * -1 : Int) = -b := by omega
 rw [this, cm h1 h2]
theorem b_add_0 {b : Int} {K : Int → Prop} (h1 : -9223372036854775808 ≤ b) (h2 : b ≤ 9223372036854775807) : (PH C Sg T).ari .add .i64 0 b K = K b := by
 show K (IntKind.wrap .i64 (0 + b)) = _; rw [Int.zero_add, cm h1 h2]
theorem b_add_r0 {b : Int} {K : Int → Prop} (h1 : -9223372036854775808 ≤ b) (h2 : b ≤ 9223372036854775807) : (PH C Sg T).ari .add .i64 b 0 K = K b := by
 show K (IntKind.wrap .i64 (b + 0)) = _; rw [Int.add_zero, cm h1 h2]
theorem b_add_11 {K : Int → Prop} : (PH C Sg T).ari .add .i64 1 1 K = K 2 := by
 show K (IntKind.wrap .i64 (1 + 1)) = _; rfl
theorem b_quo_1 {a : Int} {K : Int → Prop} (h1 : -9223372036854775808 ≤ a) (h2 : a ≤ 9223372036854775807) : (PH C Sg T).ari .quo .i64 a 1 K = K a := by
 show ((1 : Int) ≠ 0 ∧ K (IntKind.wrap .i64 (a.tdiv 1))) = _
 rw [Int.tdiv_one, cm h1 h2]; simp
theorem aM {α : Type} {o : Option α} {x : α} {K : α → Prop} (h : o = some x) (hk : K x) : (PH C Sg T).opt o (@hid _ ⟨K⟩) := ⟨x, h, hk⟩
theorem p_unI {n : Int} {r : List Lf} {K : Int → List Lf → Prop} : (PH C Sg T).unI (.i n :: r) (@hid _ ⟨K⟩) = K n r := b_unI
theorem p_unB {n : Bool} {r : List Lf} {K : Bool → List Lf → Prop} : (PH C Sg T).unB (.b n :: r) (@hid _ ⟨K⟩) = K n r := b_unB
theorem p_unV {n : Value} {r : List Lf} {K : Value → List Lf → Prop} : (PH C Sg T).unV (.v n :: r) (@hid _ ⟨K⟩) = K n r := b_unV
theorem p_un0 {K : Prop} : (PH C Sg T).un0 [] (@hid _ ⟨K⟩) = K := b_un0
theorem p_ucI {k : IntKind} {n : Int} {r : List Value} {K : Int → List Value → Prop} : (PH C Sg T).ucI k (.int k n :: r) (@hid _ ⟨K⟩) = K n r := b_ucI
theorem p_ucB {n : Bool} {r : List Value} {K : Bool → List Value → Prop} : (PH C Sg T).ucB (.bool n :: r) (@hid _ ⟨K⟩) = K n r := b_ucB
theorem p_ucV {n : Value} {r : List Value} {K : Value → List Value → Prop} : (PH C Sg T).ucV (n :: r) (@hid _ ⟨K⟩) = K n r := b_ucV
theorem p_uc0 {K : Prop} : (PH C Sg T).uc0 [] (@hid _ ⟨K⟩) = K := b_uc0
theorem p_cond_t {X Y : Prop} : (PH C Sg T).cond true (@hid _ ⟨X⟩) Y = X := b_cond_t
theorem p_cond_f {X Y : Prop} : (PH C Sg T).cond false X (@hid _ ⟨Y⟩) = Y := b_cond_f
theorem p_lss_t {a b : Int} {K : Bool → Prop} (h : a < b) : (PH C Sg T).cmp .lss a b (@hid _ ⟨K⟩) = K true := b_lss_t h
theorem p_lss_f {a b : Int} {K : Bool → Prop} (h : b ≤ a) : (PH C Sg T).cmp .lss a b (@hid _ ⟨K⟩) = K false := b_lss_f h
theorem p_leq_t {a b : Int} {K : Bool → Prop} (h : a ≤ b) : (PH C Sg T).cmp .leq a b (@hid _ ⟨K⟩) = K true := b_leq_t h
theorem p_leq_f {a b : Int} {K : Bool → Prop} (h : b < a) : (PH C Sg T).cmp .leq a b (@hid _ ⟨K⟩) = K false := b_leq_f h
theorem p_gtr_t {a b : Int} {K : Bool → Prop} (h : b < a) : (PH C Sg T).cmp .gtr a b (@hid _ ⟨K⟩) = K true := b_gtr_t h
theorem p_gtr_f {a b : Int} {K : Bool → Prop} (h : a ≤ b) : (PH C Sg T).cmp .gtr a b (@hid _ ⟨K⟩) = K false := b_gtr_f h
theorem p_geq_t {a b : Int} {K : Bool → Prop} (h : b ≤ a) : (PH C Sg T).cmp .geq a b (@hid _ ⟨K⟩) = K true := b_geq_t h
theorem p_geq_f {a b : Int} {K : Bool → Prop} (h : a < b) : (PH C Sg T).cmp .geq a b (@hid _ ⟨K⟩) = K false := b_geq_f h
theorem p_eql_t {a b : Int} {K : Bool → Prop} (h : a = b) : (PH C Sg T).cmp .eql a b (@hid _ ⟨K⟩) = K true := b_eql_t h
theorem p_eql_f {a b : Int} {K : Bool → Prop} (h : a ≠ b) : (PH C Sg T).cmp .eql a b (@hid _ ⟨K⟩) = K false := b_eql_f h
theorem p_neq_t {a b : Int} {K : Bool → Prop} (h : a ≠ b) : (PH C Sg T).cmp .neq a b (@hid _ ⟨K⟩) = K true := b_neq_t h
theorem p_neq_f {a b : Int} {K : Bool → Prop} (h : a = b) : (PH C Sg T).cmp .neq a b (@hid _ ⟨K⟩) = K false := b_neq_f h
theorem p_add {a b : Int} {K : Int → Prop} (h1 : -9223372036854775808 ≤ a + b) (h2 : a + b ≤ 9223372036854775807) : (PH C Sg T).ari .add .i64 a b (@hid _ ⟨K⟩) = K (a + b) := b_add h1 h2
theorem p_sub {a b : Int} {K : Int → Prop} (h1 : -9223372036854775808 ≤ a - b) (h2 : a - b ≤ 9223372036854775807) : (PH C Sg T).ari .sub .i64 a b (@hid _ ⟨K⟩) = K (a - b) := b_sub h1 h2
theorem p_mul {a b : Int} {K : Int → Prop} (h1 : -9223372036854775808 ≤ a * b) (h2 : a * b ≤ 9223372036854775807) : (PH C Sg T).ari .mul .i64 a b (@hid _ ⟨K⟩) = K (a * b) := b_mul h1 h2
theorem p_add8 {a b : Int} {K : Int → Prop} (h1 : 0 ≤ a + b) (h2 : a + b ≤ 255) : (PH C Sg T).ari .add .u8 a b (@hid _ ⟨K⟩) = K (a + b) := b_add8 h1 h2
theorem p_sub8 {a b : Int} {K : Int → Prop} (h1 : 0 ≤ a - b) (h2 : a - b ≤ 255) : (PH C Sg T).ari .sub .u8 a b (@hid _ ⟨K⟩) = K (a - b) := b_sub8 h1 h2
theorem p_mul8 {a b : Int} {K : Int → Prop} (h1 : 0 ≤ a * b) (h2 : a * b ≤ 255) : (PH C Sg T).ari .mul .u8 a b (@hid _ ⟨K⟩) = K (a * b) := b_mul8 h1 h2
theorem p_quo_nn {a b : Int} {K : Int → Prop} (h : 0 ≤ a) (hb : 0 < b) (h2 : a ≤ 9223372036854775807) : (PH C Sg T).ari .quo .i64 a b (@hid _ ⟨K⟩) = K (a / b) := b_quo_nn h hb h2
theorem p_quo_dv {a b : Int} {K : Int → Prop} (h : a % b = 0) (hb : 0 < b) (h1 : -9223372036854775808 ≤ a) (h2 : a ≤ 9223372036854775807) : (PH C Sg T).ari .quo .i64 a b (@hid _ ⟨K⟩) = K (a / b) := b_quo_dv h hb h1 h2
theorem p_rem_nn {k : IntKind} {a b : Int} {K : Int → Prop} (h : 0 ≤ a) (hb : 0 < b) : (PH C Sg T).ari .rem k a b (@hid _ ⟨K⟩) = K (a % b) := b_rem_nn h hb
theorem p_rem_np {k : IntKind} {a b : Int} {K : Int → Prop} (h : a ≤ 0) (hb : 0 < b) : (PH C Sg T).ari .rem k a b (@hid _ ⟨K⟩) = K (-((-a) % b)) := b_rem_np h hb
theorem p_and1 {a : Int} {K : Int → Prop} : (PH C Sg T).ari .and .i64 a 1 (@hid _ ⟨K⟩) = K (a % 2) := b_and1
theorem p_conv {a : Int} {K : Int → Prop} (h1 : -9223372036854775808 ≤ a) (h2 : a ≤ 9223372036854775807) : (PH C Sg T).conv .i64 a (@hid _ ⟨K⟩) = K a := b_conv h1 h2
theorem p_conv8 {a : Int} {K : Int → Prop} (h1 : 0 ≤ a) (h2 : a ≤ 255) : (PH C Sg T).conv .u8 a (@hid _ ⟨K⟩) = K a := b_conv8 h1 h2
theorem p_sel_t {a b : Int} {K : Int → Prop} : (PH C Sg T).sel true a b (@hid _ ⟨K⟩) = K a := b_sel_t
theorem p_sel_f {a b : Int} {K : Int → Prop} : (PH C Sg T).sel false a b (@hid _ ⟨K⟩) = K b := b_sel_f
theorem p_opt {α : Type} {x : α} {K : α → Prop} : (PH C Sg T).opt (some x) (@hid _ ⟨K⟩) = K x := b_opt
theorem p_inB {n : Nat} {i : Int} {K : Unit → Prop} (h1 : 0 ≤ i) (h2 : i < (n : Int)) : (PH C Sg T).opt (inB n i) (@hid _ ⟨K⟩) = K () := b_inB h1 h2
theorem p_join {b : List Lf → HL → Prop} {m : (List Lf → HL → Prop) → Prop} : (PH C Sg T).join (@hid _ ⟨b⟩) (@hid _ ⟨m⟩) = m (@hid _ ⟨b⟩) := b_join
theorem p_eqs0 {K : Bool → Prop} : (PH C Sg T).eqs [] (@hid _ ⟨K⟩) = K true := b_eqs0
theorem p_eqs_t {a b : Int} {l : List (Lf × Lf)} {K : Bool → Prop} (h : a = b) : (PH C Sg T).eqs ((.i a, .i b) :: l) (@hid _ ⟨K⟩) = (PH C Sg T).eqs l (@hid _ ⟨K⟩) := b_eqs_t h
theorem p_eqs_f {a b : Int} {l : List (Lf × Lf)} {K : Bool → Prop} (h : a ≠ b) : (PH C Sg T).eqs ((.i a, .i b) :: l) (@hid _ ⟨K⟩) = K false := b_eqs_f h
theorem p_it {F : (List Lf → HL → Prop) → List Lf → HL → Prop} {n : Nat} {ls : List Lf} {h : HL} : itH (@hid _ ⟨F⟩) (n + 1) ls h = F (itH (@hid _ ⟨F⟩) n) ls h := b_it
theorem p_eqsb_t {a b : Bool} {l : List (Lf × Lf)} {K : Bool → Prop} (h : a = b) : (PH C Sg T).eqs ((.b a, .b b) :: l) (@hid _ ⟨K⟩) = (PH C Sg T).eqs l (@hid _ ⟨K⟩) := b_eqsb_t h
theorem p_eqsb_tf {l : List (Lf × Lf)} {K : Bool → Prop} : (PH C Sg T).eqs ((.b true, .b false) :: l) (@hid _ ⟨K⟩) = K false := b_eqsb_tf
theorem p_eqsb_ft {l : List (Lf × Lf)} {K : Bool → Prop} : (PH C Sg T).eqs ((.b false, .b true) :: l) (@hid _ ⟨K⟩) = K false := b_eqsb_ft
theorem p_mul_1 {b : Int} {K : Int → Prop} (h1 : -9223372036854775808 ≤ b) (h2 : b ≤ 9223372036854775807) : (PH C Sg T).ari .mul .i64 1 b (@hid _ ⟨K⟩) = K b := b_mul_1 h1 h2
theorem p_mul_0 {b : Int} {K : Int → Prop} : (PH C Sg T).ari .mul .i64 0 b (@hid _ ⟨K⟩) = K 0 := b_mul_0
theorem p_mul_m {b : Int} {K : Int → Prop} (h1 : -9223372036854775808 ≤ -b) (h2 : -b ≤ 9223372036854775807) : (PH C Sg T).ari .mul .i64 (-1) b (@hid _ ⟨K⟩) = K (-b) := b_mul_m h1 h2
theorem p_mul_r1 {b : Int} {K : Int → Prop} (h1 : -9223372036854775808 ≤ b) (h2 : b ≤ 9223372036854775807) : (PH C Sg T).ari .mul .i64 b 1 (@hid _ ⟨K⟩) = K b := b_mul_r1 h1 h2
theorem p_mul_r0 {b : Int} {K : Int → Prop} : (PH C Sg T).ari .mul .i64 b 0 (@hid _ ⟨K⟩) = K 0 := b_mul_r0
theorem p_mul_rm {b : Int} {K : Int → Prop} (h1 : -9223372036854775808 ≤ -b) (h2 : -b ≤ 9223372036854775807) : (PH C Sg T).ari .mul .i64 b (-1) (@hid _ ⟨K⟩) = K (-b) := b_mul_rm h1 h2
theorem p_add_0 {b : Int} {K : Int → Prop} (h1 : -9223372036854775808 ≤ b) (h2 : b ≤ 9223372036854775807) : (PH C Sg T).ari .add .i64 0 b (@hid _ ⟨K⟩) = K b := b_add_0 h1 h2
theorem p_add_r0 {b : Int} {K : Int → Prop} (h1 : -9223372036854775808 ≤ b) (h2 : b ≤ 9223372036854775807) : (PH C Sg T).ari .add .i64 b 0 (@hid _ ⟨K⟩) = K b := b_add_r0 h1 h2
theorem p_add_11 {K : Int → Prop} : (PH C Sg T).ari .add .i64 1 1 (@hid _ ⟨K⟩) = K 2 := b_add_11
theorem p_quo_1 {a : Int} {K : Int → Prop} (h1 : -9223372036854775808 ≤ a) (h2 : a ≤ 9223372036854775807) : (PH C Sg T).ari .quo .i64 a 1 (@hid _ ⟨K⟩) = K a := b_quo_1 h1 h2
theorem p_hid2 {f : List Lf → HL → Prop} {a : List Lf} {b : HL} : @hid _ ⟨f⟩ a b = f a b := rfl
theorem p_eqs2_f {a b c d : Int} {K : Bool → Prop} (h : ¬ (a = c ∧ b = d)) : (PH C Sg T).eqs [(.i a, .i c), (.i b, .i d)] (@hid _ ⟨K⟩) = K false := by
 show K (cu _) = K false
 have : cu [(.i a, .i c), (.i b, .i d)] = false := by
  rw [Bool.eq_false_iff]
  simpa [cu, fV] using h
 rw [this]
theorem p_eqs3_f {a b c d e f : Int} {K : Bool → Prop} (h : ¬ (a = d ∧ b = e ∧ c = f)) : (PH C Sg T).eqs [(.i a, .i d), (.i b, .i e), (.i c, .i f)] (@hid _ ⟨K⟩) = K false := by
 show K (cu _) = K false
 have : cu [(.i a, .i d), (.i b, .i e), (.i c, .i f)] = false := by
  rw [Bool.eq_false_iff]
  simpa [cu, fV] using h
 rw [this]
theorem dB {g : FuncId} {ls rs : List Lf} {h h' : HL} {K : List Lf → HL → Prop} (hc : aQ C Sg g ls (absH T h) rs (absH T h')) (hk : K rs h') : (PH C Sg T).call g ls h (@hid _ ⟨K⟩) := ⟨rs, h', hc, hk⟩
theorem callv_ct {g : FuncId} {sg : Sig} {ls rs : List Lf} {H H' : List HObj} (hc : aQ C Sg g ls H rs H') (hs : Sg g = some sg) (xs : List S0) (h1 : bF xs sg.ps = true) (h2 : bG xs = ls) :
  qk C (.func (.func g) #[] #[]) (am xs) sg.rs H rs H' := by
 obtain ⟨sg', xs', ys, c1, c2, c3, c4⟩ := hc
 rw [hs] at c1
 cases c1
 obtain ⟨w1, _⟩ := cC c2.1 h1 (c2.2.1.trans h2.symm)
 rw [w1] at c4
 exact ⟨ys, c3, .inl ⟨g, #[], #[], rfl, by simpa using c4⟩⟩
theorem p_callv {v : Value} {args : List Value} {hs : List SK} {rs : List Lf} {h h' : HL} {K : List Lf → HL → Prop} (hc : qk C v args hs (absH T h) rs (absH T h')) (hk : K rs h') : (PH C Sg T).callv v args hs h (@hid _ ⟨K⟩) := ⟨rs, h', hc, hk⟩
theorem p_new {o : HObj} {h : HL} {K : Nat → HL → Prop} : (PH C Sg T).new o h (@hid _ ⟨K⟩) = K h.length (h ++ [.o o]) := rfl
theorem p_chk_r {v : Value} {K : Prop} (h : ca v = true) (hk : K) : (PH C Sg T).chk v (@hid _ ⟨K⟩) := ⟨h, hk⟩
theorem ml {f : Pk} {h : HL} {K : List Value → Prop} {cs : List Value} (e : f.run (getH T h) = some cs) (hk : K cs) : (PH C Sg T).peek f h (@hid _ ⟨K⟩) := ⟨cs, e, hk⟩
noncomputable def pxs (C : Cfg) (Sg : FuncId → Option Sig) (T : Nat → Site) := And.intro @p_hid2 (And.intro (@p_new _ _ C Sg T) (And.intro (@p_unI _ _ C Sg T) (And.intro (@p_unB _ _ C Sg T) (And.intro (@p_unV _ _ C Sg T) (And.intro (@p_un0 _ _ C Sg T) (And.intro (@p_ucI _ _ C Sg T) (And.intro (@p_ucB _ _ C Sg T) (And.intro (@p_ucV _ _ C Sg T) (And.intro (@p_uc0 _ _ C Sg T) (And.intro (@p_cond_t _ _ C Sg T) (And.intro (@p_cond_f _ _ C Sg T) (And.intro (@p_opt _ _ C Sg T) (And.intro (@p_inB _ _ C Sg T) (And.intro (@p_join _ _ C Sg T) (And.intro (@p_sel_t _ _ C Sg T) (And.intro (@p_sel_f _ _ C Sg T) ((@p_it))))))))))))))))))
noncomputable def pxc (C : Cfg) (Sg : FuncId → Option Sig) (T : Nat → Site) := And.intro (@p_lss_t _ _ C Sg T) (And.intro (@p_lss_f _ _ C Sg T) (And.intro (@p_leq_t _ _ C Sg T) (And.intro (@p_leq_f _ _ C Sg T) (And.intro (@p_gtr_t _ _ C Sg T) (And.intro (@p_gtr_f _ _ C Sg T) (And.intro (@p_geq_t _ _ C Sg T) (And.intro (@p_geq_f _ _ C Sg T) (And.intro (@p_eql_t _ _ C Sg T) (And.intro (@p_eql_f _ _ C Sg T) (And.intro (@p_neq_t _ _ C Sg T) (And.intro (@p_neq_f _ _ C Sg T) (And.intro (@p_eqs0 _ _ C Sg T) (And.intro (@p_eqs_t _ _ C Sg T) (And.intro (@p_eqs_f _ _ C Sg T) (And.intro (@p_eqs2_f _ _ C Sg T) (And.intro (@p_eqs3_f _ _ C Sg T) (And.intro (@p_eqsb_t _ _ C Sg T) (And.intro (@p_eqsb_tf _ _ C Sg T) ((@p_eqsb_ft _ _ C Sg T))))))))))))))))))))
noncomputable def pxa (C : Cfg) (Sg : FuncId → Option Sig) (T : Nat → Site) := And.intro (@p_mul_1 _ _ C Sg T) (And.intro (@p_mul_0 _ _ C Sg T) (And.intro (@p_mul_m _ _ C Sg T) (And.intro (@p_mul_r1 _ _ C Sg T) (And.intro (@p_mul_r0 _ _ C Sg T) (And.intro (@p_mul_rm _ _ C Sg T) (And.intro (@p_add_0 _ _ C Sg T) (And.intro (@p_add_r0 _ _ C Sg T) (And.intro (@p_add_11 _ _ C Sg T) (And.intro (@p_quo_1 _ _ C Sg T) (And.intro (@p_add _ _ C Sg T) (And.intro (@p_sub _ _ C Sg T) (And.intro (@p_mul _ _ C Sg T) (And.intro (@p_add8 _ _ C Sg T) (And.intro (@p_sub8 _ _ C Sg T) (And.intro (@p_mul8 _ _ C Sg T) (And.intro (@p_quo_nn _ _ C Sg T) (And.intro (@p_quo_dv _ _ C Sg T) (And.intro (@p_rem_nn _ _ C Sg T) (And.intro (@p_rem_np _ _ C Sg T) (And.intro (@p_and1 _ _ C Sg T) (And.intro (@p_conv _ _ C Sg T) ((@p_conv8 _ _ C Sg T)))))))))))))))))))))))
end
end Sx
end Go.Am

/-
 THE SEAT'S CALLS: what is known of them, and how it is shown (over the heaps of runs).
-/
set_option maxRecDepth 100000
namespace Go.Am
open Sx Go.Proofs
theorem gl_cell (g : Nat) (vs : List Value) (h : cc.G g = some vs) : vs.all aW = true := by
 unfold cc at h
 simp only at h
 split at h <;> first | (cases h; done) | (obtain rfl := Option.some.inj h; kernel_rfl)
noncomputable abbrev P1 : Alg Prop HL := PH cc ac ab
abbrev Cc (g : FuncId) (ls rs : List Lf) : Prop := ∀ H, aQ cc ac g ls H rs H
theorem fi {f : FuncId} {fn : Fn1} (hi : FnIs (xc f) ac f fn) {ls : List Lf} {H : HL} {K : List Lf → HL → Prop} (hls : aP ls = true)
  (h : av P1 (xc f) ac drN fn ls H K) : ∃ rs H', aQ cc ac f ls (absH ab H) rs (absH ab H') ∧ K rs H' := by
 obtain ⟨rs, h', a1, _, a3⟩ := lO (X := xc f) (holds := id) (abs := absH ab) (PH_ok cc ac ab) pp hi (dw hls) h
 exact ⟨rs, h', a1, a3⟩
theorem jh {f : FuncId} {fn : Fn1} (hi : FnIs (xc f) ac f fn) {ls : List Lf} {H : HL} {K : List Lf → HL → Prop} (hls : cr ls)
  (h : av P1 (xc f) ac drN fn ls H K) : ∃ rs H', aQ cc ac f ls (absH ab H) rs (absH ab H') ∧ K rs H' := by
 obtain ⟨rs, h', a1, _, a3⟩ := lO (X := xc f) (holds := id) (abs := absH ab) (PH_ok cc ac ab) pp hi hls h
 exact ⟨rs, h', a1, a3⟩
theorem gls0 : cr [] := fun _ h => by cases h
theorem glsI {n : Int} {ls : List Lf} (h : cr ls) : cr (.i n :: ls) := fun l hl => by
 rcases List.mem_cons.1 hl with rfl | hl
 ·trivial
 ·exact h l hl
theorem glsV {x : Value} {ls : List Lf} (hx : ca x = true) (h : cr ls) : cr (.v x :: ls) := fun l hl => by
 rcases List.mem_cons.1 hl with rfl | hl
 ·exact hx
 ·exact h l hl
def qxs := pxs cc ac ab
def qxc := pxc cc ac ab
def qxa := pxa cc ac ab
end Go.Am

/-
 THE FUNCTIONS OVER THE ALGEBRA OF PROPOSITIONS, BY PROGRAM.
-/
set_option maxRecDepth 100000
namespace Go.Am
open Sx Go.Proofs
/-- crimp/crimplaw09.CornersAll -/
def p4 (A : Alg Prop (HL)) (ls : List Lf) (h : HL) (K : List Lf → HL → Prop) : Prop := A.unI ls (@hid _ ⟨fun b7 b8 => A.unI b8 (@hid _ ⟨fun b9 c0 => A.unI c0 (@hid _ ⟨fun n10 c1 => A.unI c1 (@hid _ ⟨fun n12 d0 => A.un0 d0 (@hid _ ⟨A.call 10 [(.i b7), (.i b9)] h (@hid _ ⟨fun d1 d2 => A.unI d1 (@hid _ ⟨fun n16 d3 => A.unI d3 (@hid _ ⟨fun n18 d4 => A.un0 d4 (@hid _ ⟨A.call 11 [(.i n16), (.i n18)] d2 (@hid _ ⟨fun d5 h21 => A.unV d5 (@hid _ ⟨fun x22 d6 => A.unI d6 (@hid _ ⟨fun a4 d7 => A.un0 d7 (@hid _ ⟨A.loop (@hid _ ⟨fun d8 d9 b1 => A.unI d9 (@hid _ ⟨fun a2 e0 => A.unI e0 (@hid _ ⟨fun n31 e1 => A.un0 e1 (@hid _ ⟨A.ari .mul .i64 2 n18 (@hid _ ⟨fun n33 => A.cmp .leq n31 n33 (@hid _ ⟨fun e2 => A.cond e2 (@hid _ ⟨A.loop (@hid _ ⟨fun e3 e5 b2 => A.unI e5 (@hid _ ⟨fun n38 e6 => A.unI e6 (@hid _ ⟨fun n40 e7 => A.un0 e7 (@hid _ ⟨A.ari .mul .i64 2 n16 (@hid _ ⟨fun n42 => A.cmp .leq n40 n42 (@hid _ ⟨fun e8 => A.cond e8 (@hid _ ⟨A.call 18 [(.i n40), (.i n31)] b2 (@hid _ ⟨fun e9 f0 => A.unI e9 (@hid _ ⟨fun n46 f1 => A.unI f1 (@hid _ ⟨fun f2 f3 => A.un0 f3 (@hid _ ⟨A.call 17 [(.i n16), (.i n18), (.i n46), (.i f2)] f0 (@hid _ ⟨fun f5 h51 => A.unI f5 (@hid _ ⟨fun n52 f6 => A.un0 f6 (@hid _ ⟨A.cmp .eql n52 1 (@hid _ ⟨fun f7 => A.join (@hid _ ⟨fun f8 h56 => A.unI f8 (@hid _ ⟨fun n57 f9 => A.un0 f9 (@hid _ ⟨A.ari .add .i64 n40 1 (@hid _ ⟨fun n59 => e3 [(.i n57), (.i n59)] h56⟩)⟩)⟩)⟩) (@hid _ ⟨fun b3 => A.cond f7 (@hid _ ⟨A.opt (lenS x22) (@hid _ ⟨fun g0 => A.cmp .geq n38 g0 (@hid _ ⟨fun g1 => A.cond g1 (@hid _ ⟨K [(.b false)] h51⟩) (@hid _ ⟨A.opt (idS 2 x22 n38) (@hid _ ⟨fun g2 => A.peek (.lg cc 2 g2) h51 (@hid _ ⟨fun g3 => A.ucI .i64 g3 (@hid _ ⟨fun n65 g5 => A.ucI .i64 g5 (@hid _ ⟨fun n67 g6 => A.uc0 g6 (@hid _ ⟨A.call 18 [(.i n40), (.i n31)] h51 (@hid _ ⟨fun g7 b4 => A.unI g7 (@hid _ ⟨fun n71 g8 => A.unI g8 (@hid _ ⟨fun n73 g9 => A.un0 g9 (@hid _ ⟨A.eqs [((.i n65), (.i n71)), ((.i n67), (.i n73))] (@hid _ ⟨fun h0 => A.cond (!h0) (@hid _ ⟨K [(.b false)] b4⟩) (@hid _ ⟨A.ari .add .i64 n38 1 (@hid _ ⟨fun n76 => b3 [(.i n76)] b4⟩)⟩)⟩)⟩)⟩)⟩)⟩)⟩)⟩)⟩)⟩)⟩)⟩)⟩)⟩)⟩) (@hid _ ⟨b3 [(.i n38)] h51⟩)⟩)⟩)⟩)⟩)⟩)⟩)⟩)⟩)⟩)⟩) (@hid _ ⟨A.ari .add .i64 n31 1 (@hid _ ⟨fun n77 => d8 [(.i n38), (.i n77)] b2⟩)⟩)⟩)⟩)⟩)⟩)⟩)⟩) [(.i a2), (.i 0)] b1⟩) (@hid _ ⟨A.call 12 [(.i n16), (.i n18), (.i n10), (.i n12)] b1 (@hid _ ⟨fun h1 h79 => A.unV h1 (@hid _ ⟨fun a5 h2 => A.unI h2 (@hid _ ⟨fun n82 h3 => A.un0 h3 (@hid _ ⟨A.call 19 [(.i n16), (.i n18), (.v (.slice none 0 0)), (.i n10), (.i n12)] h79 (@hid _ ⟨fun h5 h6 => A.unV h5 (@hid _ ⟨fun a6 h7 => A.unI h7 (@hid _ ⟨fun n88 h8 => A.un0 h8 (@hid _ ⟨A.call 20 [(.i n16), (.i n18), (.v (.slice none 0 0)), (.i n10), (.i n12)] h6 (@hid _ ⟨fun h9 i0 => A.unI h9 (@hid _ ⟨fun n92 i1 => A.unI i1 (@hid _ ⟨fun n94 i2 => A.un0 i2 (@hid _ ⟨A.call 21 [(.i n16), (.i n18), (.v (.slice none 0 0)), (.i n10), (.i n12)] i0 (@hid _ ⟨fun i3 i5 => A.unB i3 (@hid _ ⟨fun a7 i6 => A.unI i6 (@hid _ ⟨fun a8 i7 => A.un0 i7 (@hid _ ⟨A.call 22 [(.i n16), (.i n18), (.v (.slice none 0 0)), (.i n10), (.i n12)] i5 (@hid _ ⟨fun i8 J => A.unV i8 (@hid _ ⟨fun a9 i9 => A.unI i9 (@hid _ ⟨fun b0 j0 => A.un0 j0 (@hid _ ⟨A.cmp .leq n10 0 (@hid _ ⟨fun j1 => A.cond j1 (@hid _ ⟨A.join (@hid _ ⟨fun j2 j3 => A.unB j2 (@hid _ ⟨fun j4 j5 => A.un0 j5 (@hid _ ⟨K [(.b j4)] j3⟩)⟩)⟩) (@hid _ ⟨fun O => A.cmp .eql a4 0 (@hid _ ⟨fun j6 => A.cond j6 (@hid _ ⟨A.opt (lenS x22) (@hid _ ⟨fun j7 => A.cmp .eql a2 j7 (@hid _ ⟨fun j8 => A.cond j8 (@hid _ ⟨A.opt (capS x22) (@hid _ ⟨fun j9 => A.cmp .eql j9 a2 (@hid _ ⟨fun k0 => A.cond k0 (@hid _ ⟨A.cmp .eql n82 7 (@hid _ ⟨fun k1 => A.cond k1 (@hid _ ⟨A.cmp .eql n88 7 (@hid _ ⟨fun k2 => A.cond k2 (@hid _ ⟨A.cmp .eql n94 7 (@hid _ ⟨fun k3 => A.cond k3 (@hid _ ⟨A.cmp .eql a8 7 (@hid _ ⟨fun k4 => A.cond k4 (@hid _ ⟨A.cmp .eql b0 7 (@hid _ ⟨fun k5 => A.cond k5 (@hid _ ⟨A.opt (lenS a6) (@hid _ ⟨fun k6 => A.ari .add .i64 k6 n92 (@hid _ ⟨fun k7 => A.opt (lenS a9) (@hid _ ⟨fun k8 => A.ari .add .i64 k7 k8 (@hid _ ⟨fun k9 => A.cmp .eql k9 0 (@hid _ ⟨fun l0 => A.cond l0 (@hid _ ⟨A.cond (!a7) (@hid _ ⟨A.opt (lenS a5) (@hid _ ⟨fun l1 => A.cmp .eql l1 0 (@hid _ ⟨fun l2 => A.cmp .neq 7 0 (@hid _ ⟨fun l3 => A.eqs [((.b l2), (.b l3))] (@hid _ ⟨fun l4 => A.cond l4 (@hid _ ⟨A.call 16 [] J (@hid _ ⟨fun l5 l6 => A.unB l5 (@hid _ ⟨fun l7 l8 => A.un0 l8 (@hid _ ⟨O [(.b l7)] l6⟩)⟩)⟩)⟩) (@hid _ ⟨O [(.b false)] J⟩)⟩)⟩)⟩)⟩)⟩) (@hid _ ⟨O [(.b false)] J⟩)⟩) (@hid _ ⟨O [(.b false)] J⟩)⟩)⟩)⟩)⟩)⟩)⟩) (@hid _ ⟨O [(.b false)] J⟩)⟩)⟩) (@hid _ ⟨O [(.b false)] J⟩)⟩)⟩) (@hid _ ⟨O [(.b false)] J⟩)⟩)⟩) (@hid _ ⟨O [(.b false)] J⟩)⟩)⟩) (@hid _ ⟨O [(.b false)] J⟩)⟩)⟩) (@hid _ ⟨O [(.b false)] J⟩)⟩)⟩)⟩) (@hid _ ⟨O [(.b false)] J⟩)⟩)⟩)⟩) (@hid _ ⟨O [(.b false)] J⟩)⟩)⟩)⟩) (@hid _ ⟨A.cmp .leq n12 0 (@hid _ ⟨fun l9 => A.cond l9 (@hid _ ⟨A.join (@hid _ ⟨fun m0 m1 => A.unB m0 (@hid _ ⟨fun m2 m3 => A.un0 m3 (@hid _ ⟨K [(.b m2)] m1⟩)⟩)⟩) (@hid _ ⟨fun Q => A.cmp .eql a4 0 (@hid _ ⟨fun m4 => A.cond m4 (@hid _ ⟨A.opt (lenS x22) (@hid _ ⟨fun m5 => A.cmp .eql a2 m5 (@hid _ ⟨fun m6 => A.cond m6 (@hid _ ⟨A.opt (capS x22) (@hid _ ⟨fun m7 => A.cmp .eql m7 a2 (@hid _ ⟨fun m8 => A.cond m8 (@hid _ ⟨A.cmp .eql n82 7 (@hid _ ⟨fun m9 => A.cond m9 (@hid _ ⟨A.cmp .eql n88 7 (@hid _ ⟨fun n0 => A.cond n0 (@hid _ ⟨A.cmp .eql n94 7 (@hid _ ⟨fun n1 => A.cond n1 (@hid _ ⟨A.cmp .eql a8 7 (@hid _ ⟨fun n2 => A.cond n2 (@hid _ ⟨A.cmp .eql b0 7 (@hid _ ⟨fun n3 => A.cond n3 (@hid _ ⟨A.opt (lenS a6) (@hid _ ⟨fun n5 => A.ari .add .i64 n5 n92 (@hid _ ⟨fun n6 => A.opt (lenS a9) (@hid _ ⟨fun n7 => A.ari .add .i64 n6 n7 (@hid _ ⟨fun n8 => A.cmp .eql n8 0 (@hid _ ⟨fun n9 => A.cond n9 (@hid _ ⟨A.cond (!a7) (@hid _ ⟨A.opt (lenS a5) (@hid _ ⟨fun o0 => A.cmp .eql o0 0 (@hid _ ⟨fun o1 => A.cmp .neq 7 0 (@hid _ ⟨fun o2 => A.eqs [((.b o1), (.b o2))] (@hid _ ⟨fun o3 => A.cond o3 (@hid _ ⟨A.call 16 [] J (@hid _ ⟨fun o4 o5 => A.unB o4 (@hid _ ⟨fun o6 o7 => A.un0 o7 (@hid _ ⟨Q [(.b o6)] o5⟩)⟩)⟩)⟩) (@hid _ ⟨Q [(.b false)] J⟩)⟩)⟩)⟩)⟩)⟩) (@hid _ ⟨Q [(.b false)] J⟩)⟩) (@hid _ ⟨Q [(.b false)] J⟩)⟩)⟩)⟩)⟩)⟩)⟩) (@hid _ ⟨Q [(.b false)] J⟩)⟩)⟩) (@hid _ ⟨Q [(.b false)] J⟩)⟩)⟩) (@hid _ ⟨Q [(.b false)] J⟩)⟩)⟩) (@hid _ ⟨Q [(.b false)] J⟩)⟩)⟩) (@hid _ ⟨Q [(.b false)] J⟩)⟩)⟩) (@hid _ ⟨Q [(.b false)] J⟩)⟩)⟩)⟩) (@hid _ ⟨Q [(.b false)] J⟩)⟩)⟩)⟩) (@hid _ ⟨Q [(.b false)] J⟩)⟩)⟩)⟩) (@hid _ ⟨A.ari .mul .i64 2 n16 (@hid _ ⟨fun o8 => A.cmp .geq n10 o8 (@hid _ ⟨fun o9 => A.cond o9 (@hid _ ⟨A.join (@hid _ ⟨fun p0 p1 => A.unB p0 (@hid _ ⟨fun p2 p3 => A.un0 p3 (@hid _ ⟨K [(.b p2)] p1⟩)⟩)⟩) (@hid _ ⟨fun U => A.cmp .eql a4 0 (@hid _ ⟨fun p5 => A.cond p5 (@hid _ ⟨A.opt (lenS x22) (@hid _ ⟨fun p6 => A.cmp .eql a2 p6 (@hid _ ⟨fun p7 => A.cond p7 (@hid _ ⟨A.opt (capS x22) (@hid _ ⟨fun p8 => A.cmp .eql p8 a2 (@hid _ ⟨fun p9 => A.cond p9 (@hid _ ⟨A.cmp .eql n82 7 (@hid _ ⟨fun q0 => A.cond q0 (@hid _ ⟨A.cmp .eql n88 7 (@hid _ ⟨fun q1 => A.cond q1 (@hid _ ⟨A.cmp .eql n94 7 (@hid _ ⟨fun q2 => A.cond q2 (@hid _ ⟨A.cmp .eql a8 7 (@hid _ ⟨fun q3 => A.cond q3 (@hid _ ⟨A.cmp .eql b0 7 (@hid _ ⟨fun q5 => A.cond q5 (@hid _ ⟨A.opt (lenS a6) (@hid _ ⟨fun q6 => A.ari .add .i64 q6 n92 (@hid _ ⟨fun q7 => A.opt (lenS a9) (@hid _ ⟨fun q8 => A.ari .add .i64 q7 q8 (@hid _ ⟨fun q9 => A.cmp .eql q9 0 (@hid _ ⟨fun rg => A.cond rg (@hid _ ⟨A.cond (!a7) (@hid _ ⟨A.opt (lenS a5) (@hid _ ⟨fun rh => A.cmp .eql rh 0 (@hid _ ⟨fun ri => A.cmp .neq 7 0 (@hid _ ⟨fun rj => A.eqs [((.b ri), (.b rj))] (@hid _ ⟨fun rk => A.cond rk (@hid _ ⟨A.call 16 [] J (@hid _ ⟨fun rl rm => A.unB rl (@hid _ ⟨fun rn rp => A.un0 rp (@hid _ ⟨U [(.b rn)] rm⟩)⟩)⟩)⟩) (@hid _ ⟨U [(.b false)] J⟩)⟩)⟩)⟩)⟩)⟩) (@hid _ ⟨U [(.b false)] J⟩)⟩) (@hid _ ⟨U [(.b false)] J⟩)⟩)⟩)⟩)⟩)⟩)⟩) (@hid _ ⟨U [(.b false)] J⟩)⟩)⟩) (@hid _ ⟨U [(.b false)] J⟩)⟩)⟩) (@hid _ ⟨U [(.b false)] J⟩)⟩)⟩) (@hid _ ⟨U [(.b false)] J⟩)⟩)⟩) (@hid _ ⟨U [(.b false)] J⟩)⟩)⟩) (@hid _ ⟨U [(.b false)] J⟩)⟩)⟩)⟩) (@hid _ ⟨U [(.b false)] J⟩)⟩)⟩)⟩) (@hid _ ⟨U [(.b false)] J⟩)⟩)⟩)⟩) (@hid _ ⟨A.ari .mul .i64 2 n18 (@hid _ ⟨fun rq => A.cmp .geq n12 rq (@hid _ ⟨fun rr => A.cond rr (@hid _ ⟨A.join (@hid _ ⟨fun rt ru => A.unB rt (@hid _ ⟨fun rx ry => A.un0 ry (@hid _ ⟨K [(.b rx)] ru⟩)⟩)⟩) (@hid _ ⟨fun V => A.cmp .eql a4 0 (@hid _ ⟨fun rz => A.cond rz (@hid _ ⟨A.opt (lenS x22) (@hid _ ⟨fun rA => A.cmp .eql a2 rA (@hid _ ⟨fun rB => A.cond rB (@hid _ ⟨A.opt (capS x22) (@hid _ ⟨fun rC => A.cmp .eql rC a2 (@hid _ ⟨fun rD => A.cond rD (@hid _ ⟨A.cmp .eql n82 7 (@hid _ ⟨fun rE => A.cond rE (@hid _ ⟨A.cmp .eql n88 7 (@hid _ ⟨fun rF => A.cond rF (@hid _ ⟨A.cmp .eql n94 7 (@hid _ ⟨fun rG => A.cond rG (@hid _ ⟨A.cmp .eql a8 7 (@hid _ ⟨fun rH => A.cond rH (@hid _ ⟨A.cmp .eql b0 7 (@hid _ ⟨fun rJ => A.cond rJ (@hid _ ⟨A.opt (lenS a6) (@hid _ ⟨fun rK => A.ari .add .i64 rK n92 (@hid _ ⟨fun rL => A.opt (lenS a9) (@hid _ ⟨fun rM => A.ari .add .i64 rL rM (@hid _ ⟨fun rN => A.cmp .eql rN 0 (@hid _ ⟨fun rO => A.cond rO (@hid _ ⟨A.cond (!a7) (@hid _ ⟨A.opt (lenS a5) (@hid _ ⟨fun rP => A.cmp .eql rP 0 (@hid _ ⟨fun rQ => A.cmp .neq 7 0 (@hid _ ⟨fun rR => A.eqs [((.b rQ), (.b rR))] (@hid _ ⟨fun rS => A.cond rS (@hid _ ⟨A.call 16 [] J (@hid _ ⟨fun rT rU => A.unB rT (@hid _ ⟨fun rW rX => A.un0 rX (@hid _ ⟨V [(.b rW)] rU⟩)⟩)⟩)⟩) (@hid _ ⟨V [(.b false)] J⟩)⟩)⟩)⟩)⟩)⟩) (@hid _ ⟨V [(.b false)] J⟩)⟩) (@hid _ ⟨V [(.b false)] J⟩)⟩)⟩)⟩)⟩)⟩)⟩) (@hid _ ⟨V [(.b false)] J⟩)⟩)⟩) (@hid _ ⟨V [(.b false)] J⟩)⟩)⟩) (@hid _ ⟨V [(.b false)] J⟩)⟩)⟩) (@hid _ ⟨V [(.b false)] J⟩)⟩)⟩) (@hid _ ⟨V [(.b false)] J⟩)⟩)⟩) (@hid _ ⟨V [(.b false)] J⟩)⟩)⟩)⟩) (@hid _ ⟨V [(.b false)] J⟩)⟩)⟩)⟩) (@hid _ ⟨V [(.b false)] J⟩)⟩)⟩)⟩) (@hid _ ⟨A.call 17 [(.i n16), (.i n18), (.i n10), (.i n12)] J (@hid _ ⟨fun rY b5 => A.unI rY (@hid _ ⟨fun rZ r1 => A.un0 r1 (@hid _ ⟨A.cmp .eql rZ 0 (@hid _ ⟨fun r2 => A.join (@hid _ ⟨fun r3 a0 => A.unI r3 (@hid _ ⟨fun a3 r4 => A.un0 r4 (@hid _ ⟨A.join (@hid _ ⟨fun r5 r6 => A.unB r5 (@hid _ ⟨fun r7 r8 => A.un0 r8 (@hid _ ⟨K [(.b r7)] r6⟩)⟩)⟩) (@hid _ ⟨fun a1 => A.cmp .eql a4 0 (@hid _ ⟨fun r9 => A.cond r9 (@hid _ ⟨A.opt (lenS x22) (@hid _ ⟨fun sa => A.cmp .eql a2 sa (@hid _ ⟨fun sb => A.cond sb (@hid _ ⟨A.opt (capS x22) (@hid _ ⟨fun sc => A.cmp .eql sc a2 (@hid _ ⟨fun sd => A.cond sd (@hid _ ⟨A.cmp .eql n82 a3 (@hid _ ⟨fun se => A.cond se (@hid _ ⟨A.cmp .eql n88 a3 (@hid _ ⟨fun sf => A.cond sf (@hid _ ⟨A.cmp .eql n94 a3 (@hid _ ⟨fun sh => A.cond sh (@hid _ ⟨A.cmp .eql a8 a3 (@hid _ ⟨fun si => A.cond si (@hid _ ⟨A.cmp .eql b0 a3 (@hid _ ⟨fun sj => A.cond sj (@hid _ ⟨A.opt (lenS a6) (@hid _ ⟨fun sn => A.ari .add .i64 sn n92 (@hid _ ⟨fun so => A.opt (lenS a9) (@hid _ ⟨fun sq => A.ari .add .i64 so sq (@hid _ ⟨fun ss => A.cmp .eql ss 0 (@hid _ ⟨fun su => A.cond su (@hid _ ⟨A.cond (!a7) (@hid _ ⟨A.opt (lenS a5) (@hid _ ⟨fun sw => A.cmp .eql sw 0 (@hid _ ⟨fun sx => A.cmp .neq a3 0 (@hid _ ⟨fun sy => A.eqs [((.b sx), (.b sy))] (@hid _ ⟨fun sz => A.cond sz (@hid _ ⟨A.call 16 [] a0 (@hid _ ⟨fun sA sB => A.unB sA (@hid _ ⟨fun sC sD => A.un0 sD (@hid _ ⟨a1 [(.b sC)] sB⟩)⟩)⟩)⟩) (@hid _ ⟨a1 [(.b false)] a0⟩)⟩)⟩)⟩)⟩)⟩) (@hid _ ⟨a1 [(.b false)] a0⟩)⟩) (@hid _ ⟨a1 [(.b false)] a0⟩)⟩)⟩)⟩)⟩)⟩)⟩) (@hid _ ⟨a1 [(.b false)] a0⟩)⟩)⟩) (@hid _ ⟨a1 [(.b false)] a0⟩)⟩)⟩) (@hid _ ⟨a1 [(.b false)] a0⟩)⟩)⟩) (@hid _ ⟨a1 [(.b false)] a0⟩)⟩)⟩) (@hid _ ⟨a1 [(.b false)] a0⟩)⟩)⟩) (@hid _ ⟨a1 [(.b false)] a0⟩)⟩)⟩)⟩) (@hid _ ⟨a1 [(.b false)] a0⟩)⟩)⟩)⟩) (@hid _ ⟨a1 [(.b false)] a0⟩)⟩)⟩)⟩)⟩)⟩) (@hid _ ⟨fun b6 => A.cond r2 (@hid _ ⟨b6 [(.i 7)] b5⟩) (@hid _ ⟨b6 [(.i 0)] b5⟩)⟩)⟩)⟩)⟩)⟩)⟩)⟩)⟩)⟩)⟩)⟩)⟩)⟩)⟩)⟩)⟩)⟩)⟩)⟩)⟩)⟩)⟩)⟩)⟩)⟩)⟩)⟩)⟩)⟩)⟩)⟩)⟩)⟩)⟩)⟩)⟩)⟩)⟩)⟩)⟩)⟩)⟩) [(.i 0), (.i 0)] h21⟩)⟩)⟩)⟩)⟩)⟩)⟩)⟩)⟩)⟩)⟩)⟩)⟩)
theorem g4 : (fun A : Alg Prop (HL) => p4 A) = fun A => f4 A := by kernel_rfl
theorem h4 (ls : List Lf) (H : HL) (K : List Lf → HL → Prop) : p4 P1 ls H K = av P1 (xc 4) ac drN n4 ls H K :=
 congrFun (congrFun (congrFun ((congrFun g4 P1).trans (congrFun (congrFun (congrFun e4 Prop) (HL)) P1)) ls) H) K
theorem u4 {ls : List Lf} {H : HL} {K : List Lf → HL → Prop} (hls : aP ls = true) (h : p4 P1 ls H K) : ∃ rs H', aQ cc ac 4 ls (absH ab H) rs (absH ab H') ∧ K rs H' :=
 fi i4 hls (h4 ls H K ▸ h)
theorem q4 {ls rs : List Lf} (hls : aP ls = true) (h : p4 P1 ls [] fun rs' _ => rs' = rs) : Cc 4 ls rs := by
 obtain ⟨_, _, h1, rfl⟩ := u4 hls h
 exact fh ey bS (sg := ⟨[.agg [.i .u8, .i .u8], .agg [.i .i64, .i .i64]], [lb]⟩) rfl (by kernel_rfl) h1
/-- (crimp/crimplaw05.W).Of -/
def p10 (A : Alg Prop (HL)) (ls : List Lf) (h : HL) (K : List Lf → HL → Prop) : Prop := A.unI ls (@hid _ ⟨fun J O => A.unI O (@hid _ ⟨fun Q U => A.un0 U (@hid _ ⟨A.ari .rem .u8 J 5 (@hid _ ⟨fun n10 => A.conv .i64 n10 (@hid _ ⟨fun n11 => A.ari .add .i64 1 n11 (@hid _ ⟨fun n12 => A.ari .rem .u8 Q 5 (@hid _ ⟨fun n13 => A.conv .i64 n13 (@hid _ ⟨fun V => A.ari .add .i64 1 V (@hid _ ⟨fun n15 => K [(.i n12), (.i n15)] h⟩)⟩)⟩)⟩)⟩)⟩)⟩)⟩)⟩)
theorem g10 : (fun A : Alg Prop (HL) => p10 A) = fun A => f10 A := by kernel_rfl
theorem h10 (ls : List Lf) (H : HL) (K : List Lf → HL → Prop) : p10 P1 ls H K = av P1 (xc 10) ac drN n10 ls H K :=
 congrFun (congrFun (congrFun ((congrFun g10 P1).trans (congrFun (congrFun (congrFun e10 Prop) (HL)) P1)) ls) H) K
theorem u10 {ls : List Lf} {H : HL} {K : List Lf → HL → Prop} (hls : aP ls = true) (h : p10 P1 ls H K) : ∃ rs H', aQ cc ac 10 ls (absH ab H) rs (absH ab H') ∧ K rs H' :=
 fi i10 hls (h10 ls H K ▸ h)
theorem q10 {ls rs : List Lf} (hls : aP ls = true) (h : p10 P1 ls [] fun rs' _ => rs' = rs) : Cc 10 ls rs := by
 obtain ⟨_, _, h1, rfl⟩ := u10 hls h
 exact fh ey bS (sg := ⟨[.agg [.i .u8, .i .u8]], [.agg [.i .i64, .i .i64]]⟩) rfl (by kernel_rfl) h1
/-- crimp/corners.Around -/
def p12 (A : Alg Prop (HL)) (ls : List Lf) (h : HL) (K : List Lf → HL → Prop) : Prop := A.unI ls (@hid _ ⟨fun O a1 => A.unI a1 (@hid _ ⟨fun Q a2 => A.unI a2 (@hid _ ⟨fun n10 a3 => A.unI a3 (@hid _ ⟨fun n12 a4 => A.un0 a4 (@hid _ ⟨A.call 32 [(.i O), (.i Q), (.i n10), (.i n12)] h (@hid _ ⟨fun a5 U => A.unI a5 (@hid _ ⟨fun n16 a6 => A.un0 a6 (@hid _ ⟨A.cmp .neq n16 0 (@hid _ ⟨fun a7 => A.cond a7 (@hid _ ⟨K [(.v (.slice none 0 0)), (.i n16)] U⟩) (@hid _ ⟨A.new (.cells [(.slice none 0 0)] 1 true) U (@hid _ ⟨fun V h20 => A.call 33 [(.i O), (.i Q), (.i n10), (.i n12)] h20 (@hid _ ⟨fun a8 h22 => A.unV a8 (@hid _ ⟨fun a9 b0 => A.un0 b0 (@hid _ ⟨A.rfun 192 a9 [(.pointer (some ⟨V, 0, none⟩))] h22 (@hid _ ⟨fun b1 J => A.pend b1 (@hid _ ⟨A.peek (.lg cc 1 (.pointer (some ⟨V, 0, none⟩))) J (@hid _ ⟨fun b2 => A.ucV b2 (@hid _ ⟨fun a0 b3 => A.chk a0 (@hid _ ⟨A.uc0 b3 (@hid _ ⟨A.call 34 [(.v a0)] J (@hid _ ⟨fun b4 b5 => A.unV b4 (@hid _ ⟨fun b6 b7 => A.un0 b7 (@hid _ ⟨K [(.v b6), (.i 0)] b5⟩)⟩)⟩)⟩)⟩)⟩)⟩)⟩) (@hid _ ⟨K [(.v (.slice none 0 0)), (.i 0)] J⟩) []⟩)⟩)⟩)⟩)⟩)⟩)⟩)⟩)⟩)⟩)⟩)⟩)⟩)⟩)⟩)
theorem g12 : (fun A : Alg Prop (HL) => p12 A) = fun A => f12 A := by kernel_rfl
theorem h12 (ls : List Lf) (H : HL) (K : List Lf → HL → Prop) : p12 P1 ls H K = av P1 (xc 12) ac drN n12 ls H K :=
 congrFun (congrFun (congrFun ((congrFun g12 P1).trans (congrFun (congrFun (congrFun e12 Prop) (HL)) P1)) ls) H) K
theorem u12 {ls : List Lf} {H : HL} {K : List Lf → HL → Prop} (hls : aP ls = true) (h : p12 P1 ls H K) : ∃ rs H', aQ cc ac 12 ls (absH ab H) rs (absH ab H') ∧ K rs H' :=
 fi i12 hls (h12 ls H K ▸ h)
/-- crimp/crimpref09.Is -/
def p17 (A : Alg Prop (HL)) (ls : List Lf) (h : HL) (K : List Lf → HL → Prop) : Prop := A.unI ls (@hid _ ⟨fun J O => A.unI O (@hid _ ⟨fun Q U => A.unI U (@hid _ ⟨fun n10 V => A.unI V (@hid _ ⟨fun n12 a0 => A.un0 a0 (@hid _ ⟨A.cmp .gtr n10 0 (@hid _ ⟨fun a1 => A.cond a1 (@hid _ ⟨A.cmp .gtr n12 0 (@hid _ ⟨fun a2 => A.cond a2 (@hid _ ⟨A.ari .mul .i64 2 J (@hid _ ⟨fun n16 => A.cmp .lss n10 n16 (@hid _ ⟨fun a3 => A.cond a3 (@hid _ ⟨A.ari .mul .i64 2 Q (@hid _ ⟨fun n18 => A.cmp .lss n12 n18 (@hid _ ⟨fun a4 => A.cond a4 (@hid _ ⟨A.ari .sub .i64 n10 n12 (@hid _ ⟨fun n20 => A.ari .rem .i64 n20 2 (@hid _ ⟨fun n21 => A.cmp .eql n21 0 (@hid _ ⟨fun a5 => A.cond a5 (@hid _ ⟨K [(.i 1)] h⟩) (@hid _ ⟨K [(.i 0)] h⟩)⟩)⟩)⟩)⟩) (@hid _ ⟨K [(.i 0)] h⟩)⟩)⟩)⟩) (@hid _ ⟨K [(.i 0)] h⟩)⟩)⟩)⟩) (@hid _ ⟨K [(.i 0)] h⟩)⟩)⟩) (@hid _ ⟨K [(.i 0)] h⟩)⟩)⟩)⟩)⟩)⟩)⟩)
theorem g17 : (fun A : Alg Prop (HL) => p17 A) = fun A => f17 A := by kernel_rfl
theorem h17 (ls : List Lf) (H : HL) (K : List Lf → HL → Prop) : p17 P1 ls H K = av P1 (xc 17) ac drN n17 ls H K :=
 congrFun (congrFun (congrFun ((congrFun g17 P1).trans (congrFun (congrFun (congrFun e17 Prop) (HL)) P1)) ls) H) K
theorem u17 {ls : List Lf} {H : HL} {K : List Lf → HL → Prop} (hls : aP ls = true) (h : p17 P1 ls H K) : ∃ rs H', aQ cc ac 17 ls (absH ab H) rs (absH ab H') ∧ K rs H' :=
 fi i17 hls (h17 ls H K ▸ h)
theorem q17 {ls rs : List Lf} (hls : aP ls = true) (h : p17 P1 ls [] fun rs' _ => rs' = rs) : Cc 17 ls rs := by
 obtain ⟨_, _, h1, rfl⟩ := u17 hls h
 exact fh ey bS (sg := ⟨[.agg [.i .i64, .i .i64], .agg [.i .i64, .i .i64]], [li]⟩) rfl (by kernel_rfl) h1
/-- crimp/corners.Creases -/
def p19 (A : Alg Prop (HL)) (ls : List Lf) (h : HL) (K : List Lf → HL → Prop) : Prop := A.unI ls (@hid _ ⟨fun a8 a9 => A.unI a9 (@hid _ ⟨fun b0 b1 => A.unV b1 (@hid _ ⟨fun b2 b3 => A.unI b3 (@hid _ ⟨fun n12 b4 => A.unI b4 (@hid _ ⟨fun U b5 => A.un0 b5 (@hid _ ⟨A.new (.cells [(.int .i64 a8), (.int .i64 b0), b2] 3 true) h (@hid _ ⟨fun J h17 => A.peek (.lg cc 3 (.pointer (some ⟨J, 0, none⟩))) h17 (@hid _ ⟨fun b6 => A.ucI .i64 b6 (@hid _ ⟨fun n19 b7 => A.ucI .i64 b7 (@hid _ ⟨fun n21 b8 => A.ucV b8 (@hid _ ⟨fun V b9 => A.chk V (@hid _ ⟨A.uc0 b9 (@hid _ ⟨A.call 40 [(.i n19), (.i n21), (.v V)] h17 (@hid _ ⟨fun c0 O => A.unI c0 (@hid _ ⟨fun a0 c1 => A.un0 c1 (@hid _ ⟨A.cmp .neq a0 0 (@hid _ ⟨fun d0 => A.cond d0 (@hid _ ⟨K [(.v (.slice none 0 0)), (.i a0)] O⟩) (@hid _ ⟨A.opt (fdP 0 (.pointer (some ⟨J, 0, none⟩))) (@hid _ ⟨fun a1 => A.chk a1 (@hid _ ⟨A.peek (.lg cc 2 a1) O (@hid _ ⟨fun d1 => A.ucI .i64 d1 (@hid _ ⟨fun n32 d2 => A.ucI .i64 d2 (@hid _ ⟨fun n34 d3 => A.uc0 d3 (@hid _ ⟨A.call 32 [(.i n32), (.i n34), (.i n12), (.i U)] O (@hid _ ⟨fun d4 a2 => A.unI d4 (@hid _ ⟨fun n38 d5 => A.un0 d5 (@hid _ ⟨A.cmp .neq n38 0 (@hid _ ⟨fun d6 => A.cond d6 (@hid _ ⟨K [(.v (.slice none 0 0)), (.i n38)] a2⟩) (@hid _ ⟨A.new (.cells [(.slice none 0 0)] 1 true) a2 (@hid _ ⟨fun Q a3 => A.opt (fdP 0 (.pointer (some ⟨J, 0, none⟩))) (@hid _ ⟨fun a4 => A.chk a4 (@hid _ ⟨A.peek (.lg cc 2 a4) a3 (@hid _ ⟨fun d7 => A.ucI .i64 d7 (@hid _ ⟨fun d8 d9 => A.ucI .i64 d9 (@hid _ ⟨fun n47 e0 => A.uc0 e0 (@hid _ ⟨A.call 33 [(.i d8), (.i n47), (.i n12), (.i U)] a3 (@hid _ ⟨fun e1 e2 => A.unV e1 (@hid _ ⟨fun e3 e5 => A.un0 e5 (@hid _ ⟨A.rfun 304 e3 [(.pointer (some ⟨J, 0, none⟩)), (.pointer (some ⟨Q, 0, none⟩))] e2 (@hid _ ⟨fun e6 h54 => A.pend e6 (@hid _ ⟨A.peek (.lg cc 1 (.pointer (some ⟨Q, 0, none⟩))) h54 (@hid _ ⟨fun e7 => A.ucV e7 (@hid _ ⟨fun a5 e8 => A.chk a5 (@hid _ ⟨A.uc0 e8 (@hid _ ⟨A.call 42 [(.v a5), (.v (.func (.func 43) ⟨[]⟩ ⟨[]⟩))] h54 (@hid _ ⟨fun e9 a6 => A.un0 e9 (@hid _ ⟨A.peek (.lg cc 1 (.pointer (some ⟨Q, 0, none⟩))) a6 (@hid _ ⟨fun f0 => A.ucV f0 (@hid _ ⟨fun a7 f1 => A.chk a7 (@hid _ ⟨A.uc0 f1 (@hid _ ⟨A.call 44 [(.v a7)] a6 (@hid _ ⟨fun f2 f3 => A.unV f2 (@hid _ ⟨fun f5 f6 => A.un0 f6 (@hid _ ⟨K [(.v f5), (.i 0)] f3⟩)⟩)⟩)⟩)⟩)⟩)⟩)⟩)⟩)⟩)⟩)⟩)⟩)⟩) (@hid _ ⟨K [(.v (.slice none 0 0)), (.i 0)] h54⟩) []⟩)⟩)⟩)⟩)⟩)⟩)⟩)⟩)⟩)⟩)⟩)⟩)⟩)⟩)⟩)⟩)⟩)⟩)⟩)⟩)⟩)⟩)⟩)⟩)⟩)⟩)⟩)⟩)⟩)⟩)⟩)⟩)⟩)⟩)⟩)⟩)⟩)⟩)⟩)⟩)
theorem g19 : (fun A : Alg Prop (HL) => p19 A) = fun A => f19 A := by kernel_rfl
theorem h19 (ls : List Lf) (H : HL) (K : List Lf → HL → Prop) : p19 P1 ls H K = av P1 (xc 19) ac drN n19 ls H K :=
 congrFun (congrFun (congrFun ((congrFun g19 P1).trans (congrFun (congrFun (congrFun e19 Prop) (HL)) P1)) ls) H) K
theorem x19 {ls : List Lf} {H : HL} {K : List Lf → HL → Prop} (hls : cr ls) (h : p19 P1 ls H K) : ∃ rs H', aQ cc ac 19 ls (absH ab H) rs (absH ab H') ∧ K rs H' :=
 jh i19 hls (h19 ls H K ▸ h)
/-- crimp/corners.Degree -/
def p20 (A : Alg Prop (HL)) (ls : List Lf) (h : HL) (K : List Lf → HL → Prop) : Prop := A.unI ls (@hid _ ⟨fun J O => A.unI O (@hid _ ⟨fun Q U => A.unV U (@hid _ ⟨fun V a0 => A.unI a0 (@hid _ ⟨fun n12 a1 => A.unI a1 (@hid _ ⟨fun a2 a3 => A.un0 a3 (@hid _ ⟨A.call 19 [(.i J), (.i Q), (.v V), (.i n12), (.i a2)] h (@hid _ ⟨fun a4 h17 => A.unV a4 (@hid _ ⟨fun a5 a6 => A.unI a6 (@hid _ ⟨fun n20 a7 => A.un0 a7 (@hid _ ⟨A.opt (lenS a5) (@hid _ ⟨fun x22 => K [(.i x22), (.i n20)] h17⟩)⟩)⟩)⟩)⟩)⟩)⟩)⟩)⟩)⟩)⟩)
theorem g20 : (fun A : Alg Prop (HL) => p20 A) = fun A => f20 A := by kernel_rfl
theorem h20 (ls : List Lf) (H : HL) (K : List Lf → HL → Prop) : p20 P1 ls H K = av P1 (xc 20) ac drN n20 ls H K :=
 congrFun (congrFun (congrFun ((congrFun g20 P1).trans (congrFun (congrFun (congrFun e20 Prop) (HL)) P1)) ls) H) K
theorem x20 {ls : List Lf} {H : HL} {K : List Lf → HL → Prop} (hls : cr ls) (h : p20 P1 ls H K) : ∃ rs H', aQ cc ac 20 ls (absH ab H) rs (absH ab H') ∧ K rs H' :=
 jh i20 hls (h20 ls H K ▸ h)
/-- crimp/corners.Straight -/
def p21 (A : Alg Prop (HL)) (ls : List Lf) (h : HL) (K : List Lf → HL → Prop) : Prop := A.unI ls (@hid _ ⟨fun a1 a2 => A.unI a2 (@hid _ ⟨fun a3 a4 => A.unV a4 (@hid _ ⟨fun a5 a6 => A.unI a6 (@hid _ ⟨fun n12 a7 => A.unI a7 (@hid _ ⟨fun a8 a9 => A.un0 a9 (@hid _ ⟨A.call 19 [(.i a1), (.i a3), (.v a5), (.i n12), (.i a8)] h (@hid _ ⟨fun b0 h17 => A.unV b0 (@hid _ ⟨fun J b1 => A.unI b1 (@hid _ ⟨fun n20 b2 => A.un0 b2 (@hid _ ⟨A.join (@hid _ ⟨fun b3 b4 => A.unB b3 (@hid _ ⟨fun b5 b6 => A.unI b6 (@hid _ ⟨fun b7 b8 => A.un0 b8 (@hid _ ⟨K [(.b b5), (.i b7)] b4⟩)⟩)⟩)⟩) (@hid _ ⟨fun O => A.opt (lenS J) (@hid _ ⟨fun b9 => A.cmp .eql b9 2 (@hid _ ⟨fun c0 => A.cond c0 (@hid _ ⟨A.opt (idS 2 J 0) (@hid _ ⟨fun c1 => A.opt (fdP 1 c1) (@hid _ ⟨fun Q => A.chk Q (@hid _ ⟨A.peek (.lg cc 1 Q) h17 (@hid _ ⟨fun d0 => A.ucI .u8 d0 (@hid _ ⟨fun n34 d1 => A.uc0 d1 (@hid _ ⟨A.opt (idS 2 J 1) (@hid _ ⟨fun d2 => A.opt (fdP 1 d2) (@hid _ ⟨fun U => A.chk U (@hid _ ⟨A.peek (.lg cc 1 U) h17 (@hid _ ⟨fun d3 => A.ucI .u8 d3 (@hid _ ⟨fun n39 d4 => A.uc0 d4 (@hid _ ⟨A.cmp .eql n34 n39 (@hid _ ⟨fun d5 => A.cond d5 (@hid _ ⟨A.opt (idS 2 J 1) (@hid _ ⟨fun d6 => A.opt (fdP 0 d6) (@hid _ ⟨fun V => A.chk V (@hid _ ⟨A.peek (.lg cc 1 V) h17 (@hid _ ⟨fun d7 => A.ucI .i64 d7 (@hid _ ⟨fun d8 d9 => A.uc0 d9 (@hid _ ⟨A.opt (idS 2 J 0) (@hid _ ⟨fun e0 => A.opt (fdP 0 e0) (@hid _ ⟨fun a0 => A.chk a0 (@hid _ ⟨A.peek (.lg cc 1 a0) h17 (@hid _ ⟨fun e1 => A.ucI .i64 e1 (@hid _ ⟨fun n50 e2 => A.uc0 e2 (@hid _ ⟨A.ari .sub .i64 d8 n50 (@hid _ ⟨fun n52 => A.cmp .eql n52 4 (@hid _ ⟨fun e3 => O [(.b e3), (.i n20)] h17⟩)⟩)⟩)⟩)⟩)⟩)⟩)⟩)⟩)⟩)⟩)⟩)⟩)⟩)⟩) (@hid _ ⟨O [(.b false), (.i n20)] h17⟩)⟩)⟩)⟩)⟩)⟩)⟩)⟩)⟩)⟩)⟩)⟩)⟩)⟩)⟩) (@hid _ ⟨O [(.b false), (.i n20)] h17⟩)⟩)⟩)⟩)⟩)⟩)⟩)⟩)⟩)⟩)⟩)⟩)⟩)⟩)
theorem g21 : (fun A : Alg Prop (HL) => p21 A) = fun A => f21 A := by kernel_rfl
theorem h21 (ls : List Lf) (H : HL) (K : List Lf → HL → Prop) : p21 P1 ls H K = av P1 (xc 21) ac drN n21 ls H K :=
 congrFun (congrFun (congrFun ((congrFun g21 P1).trans (congrFun (congrFun (congrFun e21 Prop) (HL)) P1)) ls) H) K
theorem x21 {ls : List Lf} {H : HL} {K : List Lf → HL → Prop} (hls : cr ls) (h : p21 P1 ls H K) : ∃ rs H', aQ cc ac 21 ls (absH ab H) rs (absH ab H') ∧ K rs H' :=
 jh i21 hls (h21 ls H K ▸ h)
/-- crimp/corners.Angles -/
def p22 (A : Alg Prop (HL)) (ls : List Lf) (h : HL) (K : List Lf → HL → Prop) : Prop := A.unI ls (@hid _ ⟨fun a2 a3 => A.unI a3 (@hid _ ⟨fun a4 a5 => A.unV a5 (@hid _ ⟨fun a6 a7 => A.unI a7 (@hid _ ⟨fun n12 a8 => A.unI a8 (@hid _ ⟨fun a9 b0 => A.un0 b0 (@hid _ ⟨A.call 19 [(.i a2), (.i a4), (.v a6), (.i n12), (.i a9)] h (@hid _ ⟨fun b1 h17 => A.unV b1 (@hid _ ⟨fun O b2 => A.unI b2 (@hid _ ⟨fun n20 b3 => A.un0 b3 (@hid _ ⟨A.cmp .neq n20 0 (@hid _ ⟨fun b4 => A.cond b4 (@hid _ ⟨K [(.v (.slice none 0 0)), (.i n20)] h17⟩) (@hid _ ⟨A.opt (lenS O) (@hid _ ⟨fun J => A.opt (mkOk J J) (@hid _ ⟨fun e9 => A.new (.cells (bZ [(.int .i64 0)] (Int.toNat J)) 1 true) h17 (@hid _ ⟨fun Q b5 => A.opt (lenS O) (@hid _ ⟨fun b6 => A.loop (@hid _ ⟨fun b7 b8 U => A.unI b8 (@hid _ ⟨fun n31 b9 => A.un0 b9 (@hid _ ⟨A.cmp .lss n31 b6 (@hid _ ⟨fun c0 => A.cond c0 (@hid _ ⟨A.opt (idS 2 O n31) (@hid _ ⟨fun c1 => A.peek (.lg cc 2 c1) U (@hid _ ⟨fun d0 => A.ucI .i64 d0 (@hid _ ⟨fun d1 d2 => A.ucI .u8 d2 (@hid _ ⟨fun n38 d3 => A.uc0 d3 (@hid _ ⟨A.ari .add .i64 n31 1 (@hid _ ⟨fun n40 => A.opt (lenS O) (@hid _ ⟨fun d4 => A.ari .rem .i64 n40 d4 (@hid _ ⟨fun n42 => A.opt (idS 2 O n42) (@hid _ ⟨fun d5 => A.opt (fdP 0 d5) (@hid _ ⟨fun a0 => A.chk a0 (@hid _ ⟨A.peek (.lg cc 1 a0) U (@hid _ ⟨fun d6 => A.ucI .i64 d6 (@hid _ ⟨fun n46 d7 => A.uc0 d7 (@hid _ ⟨A.ari .sub .i64 n46 d1 (@hid _ ⟨fun d8 => A.ari .add .i64 d8 8 (@hid _ ⟨fun n49 => A.ari .rem .i64 n49 8 (@hid _ ⟨fun n50 => A.opt (idS 1 (.slice (some ⟨Q, 0, (some 11)⟩) (Int.toNat J) ((Int.toNat J) + 1)) n31) (@hid _ ⟨fun d9 => A.heap (.st d9 [(.int .i64 n50)]) U (@hid _ ⟨fun f0 V => A.opt (idS 1 (.slice (some ⟨Q, 0, (some 11)⟩) (Int.toNat J) ((Int.toNat J) + 1)) n31) (@hid _ ⟨fun e0 => A.peek (.lg cc 1 e0) V (@hid _ ⟨fun e1 => A.ucI .i64 e1 (@hid _ ⟨fun n56 e2 => A.uc0 e2 (@hid _ ⟨A.cmp .eql n56 0 (@hid _ ⟨fun e3 => A.join (@hid _ ⟨fun e5 e6 => A.un0 e5 (@hid _ ⟨A.ari .add .i64 n31 1 (@hid _ ⟨fun n61 => b7 [(.i n61)] e6⟩)⟩)⟩) (@hid _ ⟨fun a1 => A.cond e3 (@hid _ ⟨A.opt (idS 1 (.slice (some ⟨Q, 0, (some 11)⟩) (Int.toNat J) ((Int.toNat J) + 1)) n31) (@hid _ ⟨fun e7 => A.heap (.st e7 [(.int .i64 8)]) V (@hid _ ⟨fun f1 e8 => a1 [] e8⟩)⟩)⟩) (@hid _ ⟨a1 [] V⟩)⟩)⟩)⟩)⟩)⟩)⟩)⟩)⟩)⟩)⟩)⟩)⟩)⟩)⟩)⟩)⟩)⟩)⟩)⟩)⟩)⟩)⟩)⟩)⟩)⟩)⟩) (@hid _ ⟨K [(.v (.slice (some ⟨Q, 0, (some 11)⟩) (Int.toNat J) ((Int.toNat J) + 1))), (.i 0)] U⟩)⟩)⟩)⟩)⟩) [(.i 0)] b5⟩)⟩)⟩)⟩)⟩)⟩)⟩)⟩)⟩)⟩)⟩)⟩)⟩)⟩)⟩)⟩)
theorem g22 : (fun A : Alg Prop (HL) => p22 A) = fun A => f22 A := by kernel_rfl
theorem h22 (ls : List Lf) (H : HL) (K : List Lf → HL → Prop) : p22 P1 ls H K = av P1 (xc 22) ac drN n22 ls H K :=
 congrFun (congrFun (congrFun ((congrFun g22 P1).trans (congrFun (congrFun (congrFun e22 Prop) (HL)) P1)) ls) H) K
theorem x22 {ls : List Lf} {H : HL} {K : List Lf → HL → Prop} (hls : cr ls) (h : p22 P1 ls H K) : ∃ rs H', aQ cc ac 22 ls (absH ab H) rs (absH ab H') ∧ K rs H' :=
 jh i22 hls (h22 ls H K ▸ h)
/-- crimp/corners.corner -/
def p32 (A : Alg Prop (HL)) (ls : List Lf) (h : HL) (K : List Lf → HL → Prop) : Prop := A.unI ls (@hid _ ⟨fun O U => A.unI U (@hid _ ⟨fun Q V => A.unI V (@hid _ ⟨fun n10 a0 => A.unI a0 (@hid _ ⟨fun n12 a1 => A.un0 a1 (@hid _ ⟨A.call 56 [(.i O), (.i Q)] h (@hid _ ⟨fun a2 J => A.unI a2 (@hid _ ⟨fun n16 a3 => A.un0 a3 (@hid _ ⟨A.cmp .neq n16 0 (@hid _ ⟨fun a4 => A.cond a4 (@hid _ ⟨K [(.i n16)] J⟩) (@hid _ ⟨A.cmp .leq n10 0 (@hid _ ⟨fun a5 => A.cond a5 (@hid _ ⟨K [(.i 7)] J⟩) (@hid _ ⟨A.cmp .leq n12 0 (@hid _ ⟨fun a6 => A.cond a6 (@hid _ ⟨K [(.i 7)] J⟩) (@hid _ ⟨A.ari .mul .i64 2 O (@hid _ ⟨fun n21 => A.cmp .geq n10 n21 (@hid _ ⟨fun a7 => A.cond a7 (@hid _ ⟨K [(.i 7)] J⟩) (@hid _ ⟨A.ari .mul .i64 2 Q (@hid _ ⟨fun a8 => A.cmp .geq n12 a8 (@hid _ ⟨fun a9 => A.cond a9 (@hid _ ⟨K [(.i 7)] J⟩) (@hid _ ⟨A.ari .rem .i64 n10 2 (@hid _ ⟨fun b0 => A.ari .rem .i64 n12 2 (@hid _ ⟨fun b1 => A.cmp .neq b0 b1 (@hid _ ⟨fun b2 => A.cond b2 (@hid _ ⟨K [(.i 7)] J⟩) (@hid _ ⟨K [(.i 0)] J⟩)⟩)⟩)⟩)⟩)⟩)⟩)⟩)⟩)⟩)⟩)⟩)⟩)⟩)⟩)⟩)⟩)⟩)⟩)⟩)⟩)⟩)⟩)⟩)
theorem g32 : (fun A : Alg Prop (HL) => p32 A) = fun A => f32 A := by kernel_rfl
theorem h32 (ls : List Lf) (H : HL) (K : List Lf → HL → Prop) : p32 P1 ls H K = av P1 (xc 32) ac drN n32 ls H K :=
 congrFun (congrFun (congrFun ((congrFun g32 P1).trans (congrFun (congrFun (congrFun e32 Prop) (HL)) P1)) ls) H) K
theorem u32 {ls : List Lf} {H : HL} {K : List Lf → HL → Prop} (hls : aP ls = true) (h : p32 P1 ls H K) : ∃ rs H', aQ cc ac 32 ls (absH ab H) rs (absH ab H') ∧ K rs H' :=
 fi i32 hls (h32 ls H K ▸ h)
theorem q32 {ls rs : List Lf} (hls : aP ls = true) (h : p32 P1 ls [] fun rs' _ => rs' = rs) : Cc 32 ls rs := by
 obtain ⟨_, _, h1, rfl⟩ := u32 hls h
 exact fh ey bS (sg := ⟨[.agg [.i .i64, .i .i64], .agg [.i .i64, .i .i64]], [li]⟩) rfl (by kernel_rfl) h1
/-- crimp/patterns.Check -/
def p40 (A : Alg Prop (HL)) (ls : List Lf) (h : HL) (K : List Lf → HL → Prop) : Prop := A.unI ls (@hid _ ⟨fun U a8 => A.unI a8 (@hid _ ⟨fun V a9 => A.unV a9 (@hid _ ⟨fun J b0 => A.un0 b0 (@hid _ ⟨A.call 56 [(.i U), (.i V)] h (@hid _ ⟨fun b1 a0 => A.unI b1 (@hid _ ⟨fun a1 b2 => A.un0 b2 (@hid _ ⟨A.cmp .neq a1 0 (@hid _ ⟨fun b3 => A.cond b3 (@hid _ ⟨K [(.i a1)] a0⟩) (@hid _ ⟨A.call 71 [(.v J), (.v (.func (.func 72) ⟨[]⟩ ⟨[]⟩))] a0 (@hid _ ⟨fun b4 a2 => A.unB b4 (@hid _ ⟨fun b5 b6 => A.un0 b6 (@hid _ ⟨A.cond b5 (@hid _ ⟨K [(.i 1)] a2⟩) (@hid _ ⟨A.opt (lenS J) (@hid _ ⟨fun x21 => A.loop (@hid _ ⟨fun b7 b8 O => A.unI b8 (@hid _ ⟨fun Q b9 => A.un0 b9 (@hid _ ⟨A.cmp .lss Q x21 (@hid _ ⟨fun c0 => A.cond c0 (@hid _ ⟨A.opt (idS 3 J Q) (@hid _ ⟨fun c1 => A.peek (.lg cc 3 c1) O (@hid _ ⟨fun d0 => A.ucI .i64 d0 (@hid _ ⟨fun a3 d1 => A.ucI .u8 d1 (@hid _ ⟨fun n32 d2 => A.ucI .u8 d2 (@hid _ ⟨fun n34 d3 => A.uc0 d3 (@hid _ ⟨A.call 51 [(.i U), (.i V), (.i a3), (.i n32)] O (@hid _ ⟨fun d4 a4 => A.unI d4 (@hid _ ⟨fun n38 d5 => A.unI d5 (@hid _ ⟨fun n40 d6 => A.unI d6 (@hid _ ⟨fun n42 d7 => A.un0 d7 (@hid _ ⟨A.cmp .neq n42 0 (@hid _ ⟨fun d8 => A.cond d8 (@hid _ ⟨K [(.i 7)] a4⟩) (@hid _ ⟨A.call 55 [(.i a3), (.i n32), (.i n34)] a4 (@hid _ ⟨fun d9 a5 => A.unI d9 (@hid _ ⟨fun n47 e0 => A.unI e0 (@hid _ ⟨fun n49 e1 => A.un0 e1 (@hid _ ⟨A.eqs [((.i n38), (.i n47)), ((.i n40), (.i n49))] (@hid _ ⟨fun e2 => A.cond (!e2) (@hid _ ⟨K [(.i 7)] a5⟩) (@hid _ ⟨A.ari .add .i64 Q 1 (@hid _ ⟨fun n52 => b7 [(.i n52)] a5⟩)⟩)⟩)⟩)⟩)⟩)⟩)⟩)⟩)⟩)⟩)⟩)⟩)⟩)⟩)⟩)⟩)⟩)⟩)⟩)⟩) (@hid _ ⟨A.loop (@hid _ ⟨fun e3 e5 h55 => A.unI e5 (@hid _ ⟨fun n56 e6 => A.un0 e6 (@hid _ ⟨A.opt (lenS J) (@hid _ ⟨fun e7 => A.cmp .lss n56 e7 (@hid _ ⟨fun e8 => A.cond e8 (@hid _ ⟨A.ari .sub .i64 n56 1 (@hid _ ⟨fun n60 => A.opt (idS 3 J n60) (@hid _ ⟨fun e9 => A.peek (.lg cc 3 e9) h55 (@hid _ ⟨fun f0 => A.ucI .i64 f0 (@hid _ ⟨fun n63 f1 => A.ucI .u8 f1 (@hid _ ⟨fun n65 f2 => A.ucI .u8 f2 (@hid _ ⟨fun n67 f3 => A.uc0 f3 (@hid _ ⟨A.call 55 [(.i n63), (.i n65), (.i n67)] h55 (@hid _ ⟨fun f5 a6 => A.unI f5 (@hid _ ⟨fun n71 f6 => A.unI f6 (@hid _ ⟨fun n73 f7 => A.un0 f7 (@hid _ ⟨A.opt (idS 3 J n56) (@hid _ ⟨fun f8 => A.peek (.lg cc 3 f8) a6 (@hid _ ⟨fun f9 => A.ucI .i64 f9 (@hid _ ⟨fun n77 g0 => A.ucI .u8 g0 (@hid _ ⟨fun n79 g1 => A.ucI .u8 g1 (@hid _ ⟨fun n81 g2 => A.uc0 g2 (@hid _ ⟨A.call 55 [(.i n77), (.i n79), (.i n81)] a6 (@hid _ ⟨fun g3 g5 => A.unI g3 (@hid _ ⟨fun n85 g6 => A.unI g6 (@hid _ ⟨fun n87 g7 => A.un0 g7 (@hid _ ⟨A.call 54 [(.i n71), (.i n73), (.i n85), (.i n87)] g5 (@hid _ ⟨fun g8 a7 => A.unI g8 (@hid _ ⟨fun n91 g9 => A.un0 g9 (@hid _ ⟨A.cmp .geq n91 0 (@hid _ ⟨fun h0 => A.cond h0 (@hid _ ⟨K [(.i 6)] a7⟩) (@hid _ ⟨A.ari .add .i64 n56 1 (@hid _ ⟨fun n94 => e3 [(.i n94)] a7⟩)⟩)⟩)⟩)⟩)⟩)⟩)⟩)⟩)⟩)⟩)⟩)⟩)⟩)⟩)⟩)⟩)⟩)⟩)⟩)⟩)⟩)⟩)⟩)⟩)⟩)⟩)⟩) (@hid _ ⟨K [(.i 0)] h55⟩)⟩)⟩)⟩)⟩)⟩) [(.i 1)] O⟩)⟩)⟩)⟩)⟩) [(.i 0)] a2⟩)⟩)⟩)⟩)⟩)⟩)⟩)⟩)⟩)⟩)⟩)⟩)⟩)⟩)
theorem g40 : (fun A : Alg Prop (HL) => p40 A) = fun A => f40 A := by kernel_rfl
theorem h40 (ls : List Lf) (H : HL) (K : List Lf → HL → Prop) : p40 P1 ls H K = av P1 (xc 40) ac drN n40 ls H K :=
 congrFun (congrFun (congrFun ((congrFun g40 P1).trans (congrFun (congrFun (congrFun e40 Prop) (HL)) P1)) ls) H) K
theorem x40 {ls : List Lf} {H : HL} {K : List Lf → HL → Prop} (hls : cr ls) (h : p40 P1 ls H K) : ∃ rs H', aQ cc ac 40 ls (absH ab H) rs (absH ab H') ∧ K rs H' :=
 jh i40 hls (h40 ls H K ▸ h)
/-- crimp/sheets.Cell -/
def p49 (A : Alg Prop (HL)) (ls : List Lf) (h : HL) (K : List Lf → HL → Prop) : Prop := A.unI ls (@hid _ ⟨fun J a0 => A.unI a0 (@hid _ ⟨fun O a1 => A.unI a1 (@hid _ ⟨fun n10 a2 => A.un0 a2 (@hid _ ⟨A.call 56 [(.i J), (.i O)] h (@hid _ ⟨fun a3 Q => A.unI a3 (@hid _ ⟨fun U a4 => A.un0 a4 (@hid _ ⟨A.cmp .neq U 0 (@hid _ ⟨fun a5 => A.cond a5 (@hid _ ⟨K [(.i 0), (.i 0), (.i 0), (.i U)] Q⟩) (@hid _ ⟨A.call 77 [(.i J), (.i O), (.i n10)] Q (@hid _ ⟨fun a6 V => A.unB a6 (@hid _ ⟨fun a7 a8 => A.un0 a8 (@hid _ ⟨A.cond (!a7) (@hid _ ⟨K [(.i 0), (.i 0), (.i 0), (.i 7)] V⟩) (@hid _ ⟨A.call 78 [(.i J), (.i O), (.i n10)] V (@hid _ ⟨fun a9 h22 => A.unI a9 (@hid _ ⟨fun b0 b1 => A.unI b1 (@hid _ ⟨fun b2 b3 => A.unI b3 (@hid _ ⟨fun b4 b5 => A.un0 b5 (@hid _ ⟨K [(.i b0), (.i b2), (.i b4), (.i 0)] h22⟩)⟩)⟩)⟩)⟩)⟩)⟩)⟩)⟩)⟩)⟩)⟩)⟩)⟩)⟩)⟩)⟩)⟩)
theorem g49 : (fun A : Alg Prop (HL) => p49 A) = fun A => f49 A := by kernel_rfl
theorem h49 (ls : List Lf) (H : HL) (K : List Lf → HL → Prop) : p49 P1 ls H K = av P1 (xc 49) ac drN n49 ls H K :=
 congrFun (congrFun (congrFun ((congrFun g49 P1).trans (congrFun (congrFun (congrFun e49 Prop) (HL)) P1)) ls) H) K
theorem u49 {ls : List Lf} {H : HL} {K : List Lf → HL → Prop} (hls : aP ls = true) (h : p49 P1 ls H K) : ∃ rs H', aQ cc ac 49 ls (absH ab H) rs (absH ab H') ∧ K rs H' :=
 fi i49 hls (h49 ls H K ▸ h)
theorem q49 {ls rs : List Lf} (hls : aP ls = true) (h : p49 P1 ls [] fun rs' _ => rs' = rs) : Cc 49 ls rs := by
 obtain ⟨_, _, h1, rfl⟩ := u49 hls h
 exact fh ey bS (sg := ⟨[.agg [.i .i64, .i .i64], li], [.agg [.i .i64, .i .i64, .i .u8], li]⟩) rfl (by kernel_rfl) h1
/-- crimp/sheets.Name -/
def p51 (A : Alg Prop (HL)) (ls : List Lf) (h : HL) (K : List Lf → HL → Prop) : Prop := A.unI ls (@hid _ ⟨fun O Q => A.unI Q (@hid _ ⟨fun U V => A.unI V (@hid _ ⟨fun n10 a0 => A.unI a0 (@hid _ ⟨fun n12 a1 => A.un0 a1 (@hid _ ⟨A.call 80 [(.i O), (.i U), (.i n10), (.i n12)] h (@hid _ ⟨fun a2 J => A.unI a2 (@hid _ ⟨fun n16 a3 => A.unI a3 (@hid _ ⟨fun n18 a4 => A.un0 a4 (@hid _ ⟨A.cmp .neq n18 0 (@hid _ ⟨fun a5 => A.cond a5 (@hid _ ⟨K [(.i 0), (.i 0), (.i n18)] J⟩) (@hid _ ⟨A.cmp .lss n16 n10 (@hid _ ⟨fun a6 => A.sel a6 n16 n10 (@hid _ ⟨fun n22 => K [(.i n22), (.i n12), (.i 0)] J⟩)⟩)⟩)⟩)⟩)⟩)⟩)⟩)⟩)⟩)⟩)⟩)⟩)
theorem g51 : (fun A : Alg Prop (HL) => p51 A) = fun A => f51 A := by kernel_rfl
theorem h51 (ls : List Lf) (H : HL) (K : List Lf → HL → Prop) : p51 P1 ls H K = av P1 (xc 51) ac drN n51 ls H K :=
 congrFun (congrFun (congrFun ((congrFun g51 P1).trans (congrFun (congrFun (congrFun e51 Prop) (HL)) P1)) ls) H) K
theorem u51 {ls : List Lf} {H : HL} {K : List Lf → HL → Prop} (hls : aP ls = true) (h : p51 P1 ls H K) : ∃ rs H', aQ cc ac 51 ls (absH ab H) rs (absH ab H') ∧ K rs H' :=
 fi i51 hls (h51 ls H K ▸ h)
theorem q51 {ls rs : List Lf} (hls : aP ls = true) (h : p51 P1 ls [] fun rs' _ => rs' = rs) : Cc 51 ls rs := by
 obtain ⟨_, _, h1, rfl⟩ := u51 hls h
 exact fh ey bS (sg := ⟨[.agg [.i .i64, .i .i64], li, .leaf (.i .u8)], [.agg [.i .i64, .i .u8], li]⟩) rfl (by kernel_rfl) h1
/-- crimp/patterns.order -/
def p54 (A : Alg Prop (HL)) (ls : List Lf) (h : HL) (K : List Lf → HL → Prop) : Prop := A.unI ls (@hid _ ⟨fun J O => A.unI O (@hid _ ⟨fun Q U => A.unI U (@hid _ ⟨fun n10 V => A.unI V (@hid _ ⟨fun n12 a0 => A.un0 a0 (@hid _ ⟨A.cmp .neq J n10 (@hid _ ⟨fun a1 => A.cond a1 (@hid _ ⟨A.ari .sub .i64 J n10 (@hid _ ⟨fun n15 => K [(.i n15)] h⟩)⟩) (@hid _ ⟨A.conv .i64 Q (@hid _ ⟨fun n16 => A.conv .i64 n12 (@hid _ ⟨fun n17 => A.ari .sub .i64 n16 n17 (@hid _ ⟨fun n18 => K [(.i n18)] h⟩)⟩)⟩)⟩)⟩)⟩)⟩)⟩)⟩)⟩)
theorem g54 : (fun A : Alg Prop (HL) => p54 A) = fun A => f54 A := by kernel_rfl
theorem h54 (ls : List Lf) (H : HL) (K : List Lf → HL → Prop) : p54 P1 ls H K = av P1 (xc 54) ac drN n54 ls H K :=
 congrFun (congrFun (congrFun ((congrFun g54 P1).trans (congrFun (congrFun (congrFun e54 Prop) (HL)) P1)) ls) H) K
theorem u54 {ls : List Lf} {H : HL} {K : List Lf → HL → Prop} (hls : aP ls = true) (h : p54 P1 ls H K) : ∃ rs H', aQ cc ac 54 ls (absH ab H) rs (absH ab H') ∧ K rs H' :=
 fi i54 hls (h54 ls H K ▸ h)
theorem q54 {ls rs : List Lf} (hls : aP ls = true) (h : p54 P1 ls [] fun rs' _ => rs' = rs) : Cc 54 ls rs := by
 obtain ⟨_, _, h1, rfl⟩ := u54 hls h
 exact fh ey bS (sg := ⟨[.agg [.i .i64, .i .u8], .agg [.i .i64, .i .u8]], [li]⟩) rfl (by kernel_rfl) h1
/-- (crimp/patterns.Crease).unit -/
def p55 (A : Alg Prop (HL)) (ls : List Lf) (h : HL) (K : List Lf → HL → Prop) : Prop := A.unI ls (@hid _ ⟨fun J O => A.unI O (@hid _ ⟨fun Q U => A.unI U (@hid _ ⟨fun n10 V => A.un0 V (@hid _ ⟨K [(.i J), (.i Q)] h⟩)⟩)⟩)⟩)
theorem g55 : (fun A : Alg Prop (HL) => p55 A) = fun A => f55 A := by kernel_rfl
theorem h55 (ls : List Lf) (H : HL) (K : List Lf → HL → Prop) : p55 P1 ls H K = av P1 (xc 55) ac drN n55 ls H K :=
 congrFun (congrFun (congrFun ((congrFun g55 P1).trans (congrFun (congrFun (congrFun e55 Prop) (HL)) P1)) ls) H) K
theorem u55 {ls : List Lf} {H : HL} {K : List Lf → HL → Prop} (hls : aP ls = true) (h : p55 P1 ls H K) : ∃ rs H', aQ cc ac 55 ls (absH ab H) rs (absH ab H') ∧ K rs H' :=
 fi i55 hls (h55 ls H K ▸ h)
theorem q55 {ls rs : List Lf} (hls : aP ls = true) (h : p55 P1 ls [] fun rs' _ => rs' = rs) : Cc 55 ls rs := by
 obtain ⟨_, _, h1, rfl⟩ := u55 hls h
 exact fh ey bS (sg := ⟨[.agg [.i .i64, .i .u8, .i .u8]], [.agg [.i .i64, .i .u8]]⟩) rfl (by kernel_rfl) h1
/-- crimp/sheets.Check -/
def p56 (A : Alg Prop (HL)) (ls : List Lf) (h : HL) (K : List Lf → HL → Prop) : Prop := A.unI ls (@hid _ ⟨fun J Q => A.unI Q (@hid _ ⟨fun O U => A.un0 U (@hid _ ⟨A.cmp .lss J 1 (@hid _ ⟨fun V => A.cond V (@hid _ ⟨K [(.i 1)] h⟩) (@hid _ ⟨A.cmp .lss O 1 (@hid _ ⟨fun a0 => A.cond a0 (@hid _ ⟨K [(.i 1)] h⟩) (@hid _ ⟨A.cmp .gtr J 256 (@hid _ ⟨fun a1 => A.cond a1 (@hid _ ⟨K [(.i 1)] h⟩) (@hid _ ⟨A.cmp .gtr O 256 (@hid _ ⟨fun a2 => A.cond a2 (@hid _ ⟨K [(.i 1)] h⟩) (@hid _ ⟨A.ari .mul .i64 J O (@hid _ ⟨fun a3 => A.cmp .gtr a3 256 (@hid _ ⟨fun a4 => A.cond a4 (@hid _ ⟨K [(.i 1)] h⟩) (@hid _ ⟨K [(.i 0)] h⟩)⟩)⟩)⟩)⟩)⟩)⟩)⟩)⟩)⟩)⟩)⟩)⟩)⟩)
theorem g56 : (fun A : Alg Prop (HL) => p56 A) = fun A => f56 A := by kernel_rfl
theorem h56 (ls : List Lf) (H : HL) (K : List Lf → HL → Prop) : p56 P1 ls H K = av P1 (xc 56) ac drN n56 ls H K :=
 congrFun (congrFun (congrFun ((congrFun g56 P1).trans (congrFun (congrFun (congrFun e56 Prop) (HL)) P1)) ls) H) K
theorem u56 {ls : List Lf} {H : HL} {K : List Lf → HL → Prop} (hls : aP ls = true) (h : p56 P1 ls H K) : ∃ rs H', aQ cc ac 56 ls (absH ab H) rs (absH ab H') ∧ K rs H' :=
 fi i56 hls (h56 ls H K ▸ h)
theorem q56 {ls rs : List Lf} (hls : aP ls = true) (h : p56 P1 ls [] fun rs' _ => rs' = rs) : Cc 56 ls rs := by
 obtain ⟨_, _, h1, rfl⟩ := u56 hls h
 exact fh ey bS (sg := ⟨[.agg [.i .i64, .i .i64]], [li]⟩) rfl (by kernel_rfl) h1
/-- crimp/cells.Neighbour -/
def p62 (A : Alg Prop (HL)) (ls : List Lf) (h : HL) (K : List Lf → HL → Prop) : Prop := A.unI ls (@hid _ ⟨fun O a1 => A.unI a1 (@hid _ ⟨fun Q a2 => A.unI a2 (@hid _ ⟨fun n10 a3 => A.unI a3 (@hid _ ⟨fun n12 a4 => A.un0 a4 (@hid _ ⟨A.call 79 [(.i O), (.i Q), (.i n10)] h (@hid _ ⟨fun a5 J => A.unI a5 (@hid _ ⟨fun n16 a6 => A.un0 a6 (@hid _ ⟨A.cmp .neq n16 0 (@hid _ ⟨fun a7 => A.cond a7 (@hid _ ⟨K [(.i 0), (.i 0), (.i 0), (.i 1)] J⟩) (@hid _ ⟨A.cmp .gtr n12 2 (@hid _ ⟨fun a8 => A.cond a8 (@hid _ ⟨K [(.i 0), (.i 0), (.i 0), (.i 1)] J⟩) (@hid _ ⟨A.opt (inB 4 n10) (@hid _ ⟨fun x20 => A.opt (inB 3 n12) (@hid _ ⟨fun x21 => A.opt (mn gl2 4 [(n10, 17), (n12, 3)] 3) (@hid _ ⟨fun x22 => A.ucI .i64 x22 (@hid _ ⟨fun a9 b0 => A.ucI .i64 b0 (@hid _ ⟨fun b1 b2 => A.ucI .u8 b2 (@hid _ ⟨fun U b3 => A.uc0 b3 (@hid _ ⟨A.ari .add .i64 a9 O (@hid _ ⟨fun V => A.ari .add .i64 b1 Q (@hid _ ⟨fun a0 => A.call 79 [(.i V), (.i a0), (.i U)] J (@hid _ ⟨fun b4 h32 => A.unI b4 (@hid _ ⟨fun n33 b5 => A.un0 b5 (@hid _ ⟨A.cmp .neq n33 0 (@hid _ ⟨fun b6 => A.cond b6 (@hid _ ⟨K [(.i 0), (.i 0), (.i 0), (.i 3)] h32⟩) (@hid _ ⟨K [(.i V), (.i a0), (.i U), (.i 0)] h32⟩)⟩)⟩)⟩)⟩)⟩)⟩)⟩)⟩)⟩)⟩)⟩)⟩)⟩)⟩)⟩)⟩)⟩)⟩)⟩)⟩)⟩)⟩)⟩)⟩)⟩)
theorem g62 : (fun A : Alg Prop (HL) => p62 A) = fun A => f62 A := by kernel_rfl
theorem h62 (ls : List Lf) (H : HL) (K : List Lf → HL → Prop) : p62 P1 ls H K = av P1 (xc 62) ac drN n62 ls H K :=
 congrFun (congrFun (congrFun ((congrFun g62 P1).trans (congrFun (congrFun (congrFun e62 Prop) (HL)) P1)) ls) H) K
theorem u62 {ls : List Lf} {H : HL} {K : List Lf → HL → Prop} (hls : aP ls = true) (h : p62 P1 ls H K) : ∃ rs H', aQ cc ac 62 ls (absH ab H) rs (absH ab H') ∧ K rs H' :=
 fi i62 hls (h62 ls H K ▸ h)
theorem q62 {ls rs : List Lf} (hls : aP ls = true) (h : p62 P1 ls [] fun rs' _ => rs' = rs) : Cc 62 ls rs := by
 obtain ⟨_, _, h1, rfl⟩ := u62 hls h
 exact fh ey bS (sg := ⟨[.agg [.i .i64, .i .i64, .i .u8], .leaf (.i .u8)], [.agg [.i .i64, .i .i64, .i .u8], li]⟩) rfl (by kernel_rfl) h1
/-- slices.ContainsFunc[[]crimp/patterns.Crease,crimp/patterns.Crease] -/
def p71 (A : Alg Prop (HL)) (ls : List Lf) (h : HL) (K : List Lf → HL → Prop) : Prop := A.unV ls (@hid _ ⟨fun J O => A.unV O (@hid _ ⟨fun Q U => A.un0 U (@hid _ ⟨A.call 93 [(.v J), (.v Q)] h (@hid _ ⟨fun V a0 => A.unI V (@hid _ ⟨fun n12 a1 => A.un0 a1 (@hid _ ⟨A.cmp .geq n12 0 (@hid _ ⟨fun a2 => K [(.b a2)] a0⟩)⟩)⟩)⟩)⟩)⟩)⟩)
theorem g71 : (fun A : Alg Prop (HL) => p71 A) = fun A => f71 A := by kernel_rfl
theorem h71 (ls : List Lf) (H : HL) (K : List Lf → HL → Prop) : p71 P1 ls H K = av P1 (xc 71) ac drN n71 ls H K :=
 congrFun (congrFun (congrFun ((congrFun g71 P1).trans (congrFun (congrFun (congrFun e71 Prop) (HL)) P1)) ls) H) K
theorem x71 {ls : List Lf} {H : HL} {K : List Lf → HL → Prop} (hls : cr ls) (h : p71 P1 ls H K) : ∃ rs H', aQ cc ac 71 ls (absH ab H) rs (absH ab H') ∧ K rs H' :=
 jh i71 hls (h71 ls H K ▸ h)
/-- crimp/patterns.Check$1 -/
def p72 (A : Alg Prop (HL)) (ls : List Lf) (h : HL) (K : List Lf → HL → Prop) : Prop := A.unI ls (@hid _ ⟨fun a2 J => A.unI J (@hid _ ⟨fun a3 O => A.unI O (@hid _ ⟨fun n10 Q => A.un0 Q (@hid _ ⟨A.call 73 [(.i n10)] h (@hid _ ⟨fun U V => A.unB U (@hid _ ⟨fun a0 a1 => A.un0 a1 (@hid _ ⟨K [(.b (!a0))] V⟩)⟩)⟩)⟩)⟩)⟩)⟩)
theorem g72 : (fun A : Alg Prop (HL) => p72 A) = fun A => f72 A := by kernel_rfl
theorem h72 (ls : List Lf) (H : HL) (K : List Lf → HL → Prop) : p72 P1 ls H K = av P1 (xc 72) ac drN n72 ls H K :=
 congrFun (congrFun (congrFun ((congrFun g72 P1).trans (congrFun (congrFun (congrFun e72 Prop) (HL)) P1)) ls) H) K
theorem u72 {ls : List Lf} {H : HL} {K : List Lf → HL → Prop} (hls : aP ls = true) (h : p72 P1 ls H K) : ∃ rs H', aQ cc ac 72 ls (absH ab H) rs (absH ab H') ∧ K rs H' :=
 fi i72 hls (h72 ls H K ▸ h)
theorem q72 {ls rs : List Lf} (hls : aP ls = true) (h : p72 P1 ls [] fun rs' _ => rs' = rs) : Cc 72 ls rs := by
 obtain ⟨_, _, h1, rfl⟩ := u72 hls h
 exact fh ey bS (sg := ⟨[.agg [.i .i64, .i .u8, .i .u8]], [lb]⟩) rfl (by kernel_rfl) h1
/-- crimp/patterns.isKind -/
def p73 (A : Alg Prop (HL)) (ls : List Lf) (h : HL) (K : List Lf → HL → Prop) : Prop := A.unI ls (@hid _ ⟨fun J Q => A.un0 Q (@hid _ ⟨A.join (@hid _ ⟨fun U V => A.unB U (@hid _ ⟨fun a0 a1 => A.un0 a1 (@hid _ ⟨K [(.b a0)] V⟩)⟩)⟩) (@hid _ ⟨fun O => A.cmp .geq J 1 (@hid _ ⟨fun a2 => A.cond a2 (@hid _ ⟨A.cmp .leq J 3 (@hid _ ⟨fun a3 => O [(.b a3)] h⟩)⟩) (@hid _ ⟨O [(.b false)] h⟩)⟩)⟩)⟩)⟩)
theorem g73 : (fun A : Alg Prop (HL) => p73 A) = fun A => f73 A := by kernel_rfl
theorem h73 (ls : List Lf) (H : HL) (K : List Lf → HL → Prop) : p73 P1 ls H K = av P1 (xc 73) ac drN n73 ls H K :=
 congrFun (congrFun (congrFun ((congrFun g73 P1).trans (congrFun (congrFun (congrFun e73 Prop) (HL)) P1)) ls) H) K
theorem u73 {ls : List Lf} {H : HL} {K : List Lf → HL → Prop} (hls : aP ls = true) (h : p73 P1 ls H K) : ∃ rs H', aQ cc ac 73 ls (absH ab H) rs (absH ab H') ∧ K rs H' :=
 fi i73 hls (h73 ls H K ▸ h)
theorem q73 {ls rs : List Lf} (hls : aP ls = true) (h : p73 P1 ls [] fun rs' _ => rs' = rs) : Cc 73 ls rs := by
 obtain ⟨_, _, h1, rfl⟩ := u73 hls h
 exact fh ey bS (sg := ⟨[.leaf (.i .u8)], [lb]⟩) rfl (by kernel_rfl) h1
/-- (crimp/sheets.Sheet).has -/
def p77 (A : Alg Prop (HL)) (ls : List Lf) (h : HL) (K : List Lf → HL → Prop) : Prop := A.unI ls (@hid _ ⟨fun O Q => A.unI Q (@hid _ ⟨fun U V => A.unI V (@hid _ ⟨fun n10 a0 => A.un0 a0 (@hid _ ⟨A.join (@hid _ ⟨fun a1 a2 => A.unB a1 (@hid _ ⟨fun a3 a4 => A.un0 a4 (@hid _ ⟨K [(.b a3)] a2⟩)⟩)⟩) (@hid _ ⟨fun J => A.cmp .geq n10 0 (@hid _ ⟨fun a5 => A.cond a5 (@hid _ ⟨A.ari .mul .i64 4 O (@hid _ ⟨fun n18 => A.ari .mul .i64 n18 U (@hid _ ⟨fun n19 => A.cmp .lss n10 n19 (@hid _ ⟨fun a6 => J [(.b a6)] h⟩)⟩)⟩)⟩) (@hid _ ⟨J [(.b false)] h⟩)⟩)⟩)⟩)⟩)⟩)⟩)
theorem g77 : (fun A : Alg Prop (HL) => p77 A) = fun A => f77 A := by kernel_rfl
theorem h77 (ls : List Lf) (H : HL) (K : List Lf → HL → Prop) : p77 P1 ls H K = av P1 (xc 77) ac drN n77 ls H K :=
 congrFun (congrFun (congrFun ((congrFun g77 P1).trans (congrFun (congrFun (congrFun e77 Prop) (HL)) P1)) ls) H) K
theorem u77 {ls : List Lf} {H : HL} {K : List Lf → HL → Prop} (hls : aP ls = true) (h : p77 P1 ls H K) : ∃ rs H', aQ cc ac 77 ls (absH ab H) rs (absH ab H') ∧ K rs H' :=
 fi i77 hls (h77 ls H K ▸ h)
theorem q77 {ls rs : List Lf} (hls : aP ls = true) (h : p77 P1 ls [] fun rs' _ => rs' = rs) : Cc 77 ls rs := by
 obtain ⟨_, _, h1, rfl⟩ := u77 hls h
 exact fh ey bS (sg := ⟨[.agg [.i .i64, .i .i64], li], [lb]⟩) rfl (by kernel_rfl) h1
/-- crimp/cells.Check -/
def p79 (A : Alg Prop (HL)) (ls : List Lf) (h : HL) (K : List Lf → HL → Prop) : Prop := A.unI ls (@hid _ ⟨fun J Q => A.unI Q (@hid _ ⟨fun O U => A.unI U (@hid _ ⟨fun n10 V => A.un0 V (@hid _ ⟨A.cmp .lss J (-4096) (@hid _ ⟨fun a0 => A.cond a0 (@hid _ ⟨K [(.i 1)] h⟩) (@hid _ ⟨A.cmp .gtr J 4096 (@hid _ ⟨fun a1 => A.cond a1 (@hid _ ⟨K [(.i 1)] h⟩) (@hid _ ⟨A.cmp .lss O (-4096) (@hid _ ⟨fun a2 => A.cond a2 (@hid _ ⟨K [(.i 1)] h⟩) (@hid _ ⟨A.cmp .gtr O 4096 (@hid _ ⟨fun a3 => A.cond a3 (@hid _ ⟨K [(.i 1)] h⟩) (@hid _ ⟨A.cmp .gtr n10 3 (@hid _ ⟨fun a4 => A.cond a4 (@hid _ ⟨K [(.i 1)] h⟩) (@hid _ ⟨K [(.i 0)] h⟩)⟩)⟩)⟩)⟩)⟩)⟩)⟩)⟩)⟩)⟩)⟩)⟩)⟩)
theorem g79 : (fun A : Alg Prop (HL) => p79 A) = fun A => f79 A := by kernel_rfl
theorem h79 (ls : List Lf) (H : HL) (K : List Lf → HL → Prop) : p79 P1 ls H K = av P1 (xc 79) ac drN n79 ls H K :=
 congrFun (congrFun (congrFun ((congrFun g79 P1).trans (congrFun (congrFun (congrFun e79 Prop) (HL)) P1)) ls) H) K
theorem u79 {ls : List Lf} {H : HL} {K : List Lf → HL → Prop} (hls : aP ls = true) (h : p79 P1 ls H K) : ∃ rs H', aQ cc ac 79 ls (absH ab H) rs (absH ab H') ∧ K rs H' :=
 fi i79 hls (h79 ls H K ▸ h)
theorem q79 {ls rs : List Lf} (hls : aP ls = true) (h : p79 P1 ls [] fun rs' _ => rs' = rs) : Cc 79 ls rs := by
 obtain ⟨_, _, h1, rfl⟩ := u79 hls h
 exact fh ey bS (sg := ⟨[.agg [.i .i64, .i .i64, .i .u8]], [li]⟩) rfl (by kernel_rfl) h1
/-- crimp/sheets.Neighbour -/
def p80 (A : Alg Prop (HL)) (ls : List Lf) (h : HL) (K : List Lf → HL → Prop) : Prop := A.unI ls (@hid _ ⟨fun J V => A.unI V (@hid _ ⟨fun O a0 => A.unI a0 (@hid _ ⟨fun n10 a1 => A.unI a1 (@hid _ ⟨fun n12 a2 => A.un0 a2 (@hid _ ⟨A.call 49 [(.i J), (.i O), (.i n10)] h (@hid _ ⟨fun a3 Q => A.unI a3 (@hid _ ⟨fun n16 a4 => A.unI a4 (@hid _ ⟨fun n18 a5 => A.unI a5 (@hid _ ⟨fun n20 a6 => A.unI a6 (@hid _ ⟨fun n22 a7 => A.un0 a7 (@hid _ ⟨A.cmp .neq n22 0 (@hid _ ⟨fun a8 => A.cond a8 (@hid _ ⟨K [(.i 0), (.i n22)] Q⟩) (@hid _ ⟨A.call 62 [(.i n16), (.i n18), (.i n20), (.i n12)] Q (@hid _ ⟨fun a9 U => A.unI a9 (@hid _ ⟨fun b0 b1 => A.unI b1 (@hid _ ⟨fun b2 b3 => A.unI b3 (@hid _ ⟨fun n31 b4 => A.unI b4 (@hid _ ⟨fun n33 b5 => A.un0 b5 (@hid _ ⟨A.cmp .neq n33 0 (@hid _ ⟨fun b6 => A.cond b6 (@hid _ ⟨K [(.i 0), (.i 1)] U⟩) (@hid _ ⟨A.call 50 [(.i J), (.i O), (.i b0), (.i b2), (.i n31)] U (@hid _ ⟨fun b7 b8 => A.unI b7 (@hid _ ⟨fun n38 b9 => A.unI b9 (@hid _ ⟨fun n40 c0 => A.un0 c0 (@hid _ ⟨K [(.i n38), (.i n40)] b8⟩)⟩)⟩)⟩)⟩)⟩)⟩)⟩)⟩)⟩)⟩)⟩)⟩)⟩)⟩)⟩)⟩)⟩)⟩)⟩)⟩)⟩)⟩)⟩)⟩)
theorem g80 : (fun A : Alg Prop (HL) => p80 A) = fun A => f80 A := by kernel_rfl
theorem h80 (ls : List Lf) (H : HL) (K : List Lf → HL → Prop) : p80 P1 ls H K = av P1 (xc 80) ac drN n80 ls H K :=
 congrFun (congrFun (congrFun ((congrFun g80 P1).trans (congrFun (congrFun (congrFun e80 Prop) (HL)) P1)) ls) H) K
theorem u80 {ls : List Lf} {H : HL} {K : List Lf → HL → Prop} (hls : aP ls = true) (h : p80 P1 ls H K) : ∃ rs H', aQ cc ac 80 ls (absH ab H) rs (absH ab H') ∧ K rs H' :=
 fi i80 hls (h80 ls H K ▸ h)
theorem q80 {ls rs : List Lf} (hls : aP ls = true) (h : p80 P1 ls [] fun rs' _ => rs' = rs) : Cc 80 ls rs := by
 obtain ⟨_, _, h1, rfl⟩ := u80 hls h
 exact fh ey bS (sg := ⟨[.agg [.i .i64, .i .i64], li, .leaf (.i .u8)], [li, li]⟩) rfl (by kernel_rfl) h1
/-- slices.IndexFunc[[]crimp/patterns.Crease,crimp/patterns.Crease] -/
def p93 (A : Alg Prop (HL)) (ls : List Lf) (h : HL) (K : List Lf → HL → Prop) : Prop := A.unV ls (@hid _ ⟨fun Q V => A.unV V (@hid _ ⟨fun a0 a1 => A.un0 a1 (@hid _ ⟨A.opt (lenS Q) (@hid _ ⟨fun a2 => A.loop (@hid _ ⟨fun a3 a4 O => A.unI a4 (@hid _ ⟨fun J a5 => A.un0 a5 (@hid _ ⟨A.cmp .lss J a2 (@hid _ ⟨fun a6 => A.cond a6 (@hid _ ⟨A.opt (idS 3 Q J) (@hid _ ⟨fun a7 => A.peek (.lg cc 3 a7) O (@hid _ ⟨fun a8 => A.ucI .i64 a8 (@hid _ ⟨fun n19 a9 => A.ucI .u8 a9 (@hid _ ⟨fun n21 b0 => A.ucI .u8 b0 (@hid _ ⟨fun b1 b2 => A.uc0 b2 (@hid _ ⟨A.callv a0 [(.agg ⟨[(.int .i64 n19), (.int .u8 n21), (.int .u8 b1)]⟩)] [(.leaf .b)] O (@hid _ ⟨fun b3 U => A.unB b3 (@hid _ ⟨fun b4 b5 => A.un0 b5 (@hid _ ⟨A.cond b4 (@hid _ ⟨K [(.i J)] U⟩) (@hid _ ⟨A.ari .add .i64 J 1 (@hid _ ⟨fun b6 => a3 [(.i b6)] U⟩)⟩)⟩)⟩)⟩)⟩)⟩)⟩)⟩)⟩)⟩)⟩) (@hid _ ⟨K [(.i (-1))] O⟩)⟩)⟩)⟩)⟩) [(.i 0)] h⟩)⟩)⟩)⟩)
theorem g93 : (fun A : Alg Prop (HL) => p93 A) = fun A => f93 A := by kernel_rfl
theorem h93 (ls : List Lf) (H : HL) (K : List Lf → HL → Prop) : p93 P1 ls H K = av P1 (xc 93) ac drN n93 ls H K :=
 congrFun (congrFun (congrFun ((congrFun g93 P1).trans (congrFun (congrFun (congrFun e93 Prop) (HL)) P1)) ls) H) K
theorem x93 {ls : List Lf} {H : HL} {K : List Lf → HL → Prop} (hls : cr ls) (h : p93 P1 ls H K) : ∃ rs H', aQ cc ac 93 ls (absH ab H) rs (absH ab H') ∧ K rs H' :=
 jh i93 hls (h93 ls H K ▸ h)
end Go.Am

/-
 SLICES IN THE HEAP: what lies behind them, how they are read and lengthened.
-/
set_option maxRecDepth 100000
namespace Go.Am
namespace Sx
theorem iC {vs : List Value} {off n : Nat} {cs : List Value} : cut vs off n = some cs ↔ off + n ≤ vs.length ∧ (vs.drop off).take n = cs := by
 unfold cut
 split
 ·rename_i h; simp [h]
 ·rename_i h; simp [h]
theorem cut_len {vs : List Value} {off n : Nat} {cs : List Value} (h : cut vs off n = some cs) : cs.length = n := by
 obtain ⟨h1, rfl⟩ := iC.1 h
 rw [List.length_take, List.length_drop]; omega
theorem cut_cut {vs : List Value} {off n : Nat} {cs : List Value} (h : cut vs off n = some cs) {o k : Nat} (hk : o + k ≤ n) : cut vs (off + o) k = some ((cs.drop o).take k) := by
 obtain ⟨h1, rfl⟩ := iC.1 h
 refine iC.2 ⟨by omega, ?_⟩
 rw [List.drop_take, List.drop_drop, List.take_take, Nat.min_eq_left (by omega)]
theorem cut_all {vs : List Value} {n : Nat} (h : vs.length = n) : cut vs 0 n = some vs := iC.2 ⟨by omega, by rw [List.drop_zero, List.take_of_length_le (by omega)]⟩
def Pre (h0 h : HL) : Prop := ∃ G, h = h0 ++ G
theorem Pre.refl (h : HL) : Pre h h := ⟨[], by simp⟩
theorem Pre.trans {a b c : HL} (h : Pre a b) (k : Pre b c) : Pre a c := by
 obtain ⟨G, rfl⟩ := h
 obtain ⟨G', rfl⟩ := k
 exact ⟨G ++ G', by simp⟩
theorem Pre.app {a b : HL} (h : Pre a b) (G : HL) : Pre a (b ++ G) := h.trans ⟨G, rfl⟩
theorem Pre.len {a b : HL} (h : Pre a b) : a.length ≤ b.length := by obtain ⟨G, rfl⟩ := h; simp
theorem Pre.get {a b : HL} (h : Pre a b) {i : Nat} {o : HO} (hi : a[i]? = some o) : b[i]? = some o := by
 obtain ⟨G, rfl⟩ := h
 have : i < a.length := by
  rcases Nat.lt_or_ge i a.length with h | h
  ·exact h
  ·rw [List.getElem?_eq_none h] at hi; cases hi
 rw [List.getElem?_append_left this]; exact hi
theorem Pre.set {a b : HL} (h : Pre a b) {i : Nat} (hi : a.length ≤ i) (o : HO) : Pre a (b.set i o) := by
 obtain ⟨G, rfl⟩ := h
 rw [List.set_append_right _ _ hi]
 exact ⟨_, rfl⟩
def Ptr (h : HL) (p : Value) (cs : List Value) : Prop := ∃ id o vs e rw, p = .pointer (some ⟨id, o, none⟩) ∧ h[id]? = some (.o (.cells vs e rw)) ∧ cut vs o cs.length = some cs
def SlC (h : HL) (v : Value) (e n : Nat) (cs : List Value) : Prop :=
 cs.length = n * e ∧ ((v = .slice none 0 0 ∧ n = 0) ∨ ∃ id off cx vs rw, v = .slice (some ⟨id, off, tag e⟩) n cx ∧ h[id]? = some (.o (.cells vs e rw)) ∧ cut vs off (n * e) = some cs)
def LsH {α : Type} (h : HL) (v : Value) (e : Nat) (enc : α → List Value) (l : List α) : Prop := (∀ a ∈ l, (enc a).length = e) ∧ SlC h v e l.length (l.flatMap enc)
def Mk (n0 : Nat) (h : HL) (v : Value) (e n : Nat) (cs : List Value) : Prop :=
 cs.length = n * e ∧ ((v = .slice none 0 0 ∧ n = 0) ∨ ∃ id, n0 ≤ id ∧ v = .slice (some ⟨id, 0, tag e⟩) n 0 ∧ h[id]? = some (.o (.cells cs e true)))
def MkL {α : Type} (n0 : Nat) (h : HL) (v : Value) (e : Nat) (enc : α → List Value) (l : List α) : Prop := (∀ a ∈ l, (enc a).length = e) ∧ Mk n0 h v e l.length (l.flatMap enc)
noncomputable def blk : Value → Option Nat
 | .slice (some a) _ _ => some a.block
 | _ => none
theorem Ptr.keep {h h' : HL} {p : Value} {cs : List Value} (hp : Ptr h p cs) (hk : ∀ (j : Nat) o, h[j]? = some o → h'[j]? = some o) : Ptr h' p cs := by
 obtain ⟨id, o, vs, e, rw', h1, h2, h3⟩ := hp
 exact ⟨id, o, vs, e, rw', h1, hk _ _ h2, h3⟩
theorem SlC.keep {h h' : HL} {v : Value} {e n : Nat} {cs : List Value} (hs : SlC h v e n cs) (hk : ∀ (j : Nat) o, h[j]? = some o → blk v = some j → h'[j]? = some o) : SlC h' v e n cs := by
 obtain ⟨h0, h1 | ⟨id, off, cx, vs, rw', rfl, h2, h3⟩⟩ := hs
 ·exact ⟨h0, .inl h1⟩
 ·exact ⟨h0, .inr ⟨id, off, cx, vs, rw', rfl, hk _ _ h2 rfl, h3⟩⟩
theorem SlC.pre {h h' : HL} {v : Value} {e n : Nat} {cs : List Value} (hs : SlC h v e n cs) (hp : Pre h h') : SlC h' v e n cs := hs.keep fun _ _ h _ => hp.get h
theorem LsH.keep {α : Type} {h h' : HL} {v : Value} {e : Nat} {enc : α → List Value} {l : List α} (hs : LsH h v e enc l) (hk : ∀ (j : Nat) o, h[j]? = some o → blk v = some j → h'[j]? = some o) : LsH h' v e enc l := ⟨hs.1, hs.2.keep hk⟩
theorem LsH.pre {α : Type} {h h' : HL} {v : Value} {e : Nat} {enc : α → List Value} {l : List α} (hs : LsH h v e enc l) (hp : Pre h h') : LsH h' v e enc l := ⟨hs.1, hs.2.pre hp⟩
theorem SlC.len {h : HL} {v : Value} {e n : Nat} {cs : List Value} (hs : SlC h v e n cs) : lenS v = some (.ofNat n) := by
 obtain ⟨_, ⟨rfl, rfl⟩ | ⟨id, off, cx, vs, rw', rfl, _⟩⟩ := hs <;> rfl
theorem LsH.len {α : Type} {h : HL} {v : Value} {e : Nat} {enc : α → List Value} {l : List α} (hs : LsH h v e enc l) : lenS v = some (.ofNat l.length) := hs.2.len
theorem Mk.sl {n0 : Nat} {h : HL} {v : Value} {e n : Nat} {cs : List Value} (hs : Mk n0 h v e n cs) : SlC h v e n cs := by
 obtain ⟨h0, h1 | ⟨id, _, rfl, h2⟩⟩ := hs
 ·exact ⟨h0, .inl h1⟩
 ·exact ⟨h0, .inr ⟨id, 0, 0, cs, true, rfl, h2, cut_all h0⟩⟩
theorem MkL.ls {α : Type} {n0 : Nat} {h : HL} {v : Value} {e : Nat} {enc : α → List Value} {l : List α} (hs : MkL n0 h v e enc l) : LsH h v e enc l := ⟨hs.1, hs.2.sl⟩
theorem Mk.nil (n0 : Nat) (h : HL) (e : Nat) : Mk n0 h (.slice none 0 0) e 0 [] := ⟨by simp, .inl ⟨rfl, rfl⟩⟩
theorem MkL.nil {α : Type} (n0 : Nat) (h : HL) (e : Nat) (enc : α → List Value) : MkL n0 h (.slice none 0 0) e enc [] := ⟨by simp, Mk.nil n0 h e⟩
theorem LsH.nil {α : Type} (h : HL) (e : Nat) (enc : α → List Value) : LsH h (.slice none 0 0) e enc [] := (MkL.nil 0 h e enc).ls
theorem Mk.keep {n0 : Nat} {h h' : HL} {v : Value} {e n : Nat} {cs : List Value} (hs : Mk n0 h v e n cs) (hk : ∀ (j : Nat) o, h[j]? = some o → blk v = some j → h'[j]? = some o) : Mk n0 h' v e n cs := by
 obtain ⟨h0, h1 | ⟨id, h1, rfl, h2⟩⟩ := hs
 ·exact ⟨h0, .inl h1⟩
 ·exact ⟨h0, .inr ⟨id, h1, rfl, hk _ _ h2 rfl⟩⟩
theorem Mk.pre {n0 : Nat} {h h' : HL} {v : Value} {e n : Nat} {cs : List Value} (hs : Mk n0 h v e n cs) (hp : Pre h h') : Mk n0 h' v e n cs := hs.keep fun _ _ h _ => hp.get h
theorem MkL.keep {α : Type} {n0 : Nat} {h h' : HL} {v : Value} {e : Nat} {enc : α → List Value} {l : List α} (hs : MkL n0 h v e enc l) (hk : ∀ (j : Nat) o, h[j]? = some o → blk v = some j → h'[j]? = some o) : MkL n0 h' v e enc l := ⟨hs.1, hs.2.keep hk⟩
theorem MkL.pre {α : Type} {n0 : Nat} {h h' : HL} {v : Value} {e : Nat} {enc : α → List Value} {l : List α} (hs : MkL n0 h v e enc l) (hp : Pre h h') : MkL n0 h' v e enc l := ⟨hs.1, hs.2.pre hp⟩
theorem kz {α : Type} {e : Nat} {enc : α → List Value} : ∀ {l : List α}, (∀ a ∈ l, (enc a).length = e) → ∀ {i : Nat} {a : α}, l[i]? = some a → ((l.flatMap enc).drop (i * e)).take e = enc a
 | b :: l, h, 0, a, hi => by
  simp only [List.getElem?_cons_zero, Option.some.injEq] at hi
  subst hi
  have := h b List.mem_cons_self
  rw [Nat.zero_mul, List.drop_zero, List.flatMap_cons, List.take_append_of_le_length (by omega), List.take_of_length_le (by omega)]
 | b :: l, h, i + 1, a, hi => by
  simp only [List.getElem?_cons_succ] at hi
  have hb := h b List.mem_cons_self
  have := kz (fun b hb => h b (List.mem_cons_of_mem _ hb)) hi
  rw [List.flatMap_cons, Nat.add_mul, Nat.one_mul, ← this]
  have e1 : i * e + e = (enc b).length + i * e := by omega
  rw [e1, List.drop_append, List.drop_of_length_le (by omega), List.nil_append, Nat.add_sub_cancel_left]
 | [], _, _, _, hi => by simp at hi
theorem SlC.at {h : HL} {v : Value} {e n : Nat} {cs : List Value} (hs : SlC h v e n cs) {i : Nat} (hi : i < n) : ∃ p, idS e v (.ofNat i) = some p ∧ Ptr h p ((cs.drop (i * e)).take e) := by
 obtain ⟨h0, ⟨rfl, rfl⟩ | ⟨id, off, cx, vs, rw', rfl, h2, h3⟩⟩ := hs
 ·omega
 ·have hle : i * e + e ≤ n * e := by
   have := Nat.mul_le_mul_right e (show i + 1 ≤ n by omega)
   rw [Nat.add_mul, Nat.one_mul] at this; exact this
  refine ⟨.pointer (some ⟨id, off + i * e, none⟩), ?_, id, off + i * e, vs, e, rw', rfl, h2, ?_⟩
  ·rw [idS_eq]
   have hh : 0 ≤ Int.ofNat i ∧ Int.ofNat i < (n : Int) := ⟨Int.natCast_nonneg i, by show (i : Int) < n; omega⟩
   simp only [if_pos hh]
   have : ¬ (tag e = some 1) := by simp [tag]
   simp only [if_neg this]
   rfl
  ·have hc := cut_cut h3 hle
   have hl := cut_len hc
   rw [hl]; exact hc
theorem LsH.at {α : Type} {h : HL} {v : Value} {e : Nat} {enc : α → List Value} {l : List α} (hs : LsH h v e enc l) {i : Nat} {a : α} (hi : l[i]? = some a) : ∃ p, idS e v (.ofNat i) = some p ∧ Ptr h p (enc a) := by
 have hlt : i < l.length := by
  rcases Nat.lt_or_ge i l.length with h | h
  ·exact h
  ·rw [List.getElem?_eq_none h] at hi; cases hi
 obtain ⟨p, h1, h2⟩ := hs.2.at hlt
 rw [kz hs.1 hi] at h2
 exact ⟨p, h1, h2⟩
theorem Ptr.fd {h : HL} {p : Value} {cs : List Value} (hp : Ptr h p cs) (o k : Nat) (hk : o + k ≤ cs.length) : ∃ p', fdP o p = some p' ∧ Ptr h p' ((cs.drop o).take k) := by
 obtain ⟨id, o', vs, e, rw', rfl, h2, h3⟩ := hp
 refine ⟨_, rfl, id, o' + o, vs, e, rw', rfl, h2, ?_⟩
 have hc := cut_cut h3 hk
 rw [cut_len hc]; exact hc
section
variable [Val] [Kno]
theorem px {T : Nat → Site} {h : HL} {i : Nat} {o : HObj} (hi : h[i]? = some (.o o)) : getH T h i = some o := by
 unfold getH; rw [hi]; rfl
theorem Ptr.ld {T : Nat → Site} {h : HL} {p : Value} {cs : List Value} (hp : Ptr h p cs) {n : Nat} (hn : cs.length = n) : (Pk.ld n p).run (getH T h) = some cs := by
 obtain ⟨id, o, vs, e, rw', rfl, h2, h3⟩ := hp
 subst hn
 show (match (none : Option Nat) with | none => (eH (getH T h) id).bind fun vs => cut vs o cs.length | some _ => none) = _
 unfold eH
 rw [px h2]
 exact h3
theorem Ptr.lg {C : Cfg} {T : Nat → Site} {h : HL} {p : Value} {cs : List Value} (hp : Ptr h p cs) {n : Nat} (hn : cs.length = n) : (Pk.lg C n p).run (getH T h) = some cs := by
 obtain ⟨id, o, vs, e, rw', rfl, h2, h3⟩ := hp
 subst hn
 show (eH (getH T h) id).bind (fun vs => cut vs o cs.length) = _
 unfold eH
 rw [px h2]
 exact h3
variable {C : Cfg} {Sg : FuncId → Option Sig} {T : Nat → Site}
end
end Sx
end Go.Am

/-
 RULES FOR LOOPS AND SLICES.
-/
set_option maxRecDepth 100000
namespace Go.Am
namespace Sx
theorem Ptr.good {h : HL} {p : Value} {cs : List Value} (hp : Ptr h p cs) : ca p = true := by
 obtain ⟨id, o, vs, e, rw', rfl, _⟩ := hp
 simp [ca, noLoc, bv, cG, bW, bo, aL]
theorem SlC.good {h : HL} {v : Value} {e n : Nat} {cs : List Value} (hs : SlC h v e n cs) : ca v = true := by
 obtain ⟨_, ⟨rfl, _⟩ | ⟨id, off, cx, vs, rw', rfl, _⟩⟩ := hs
 ·rfl
 ·simp [ca, noLoc, bv, cG, bW, bo, aL, tag]
theorem LsH.good {α : Type} {h : HL} {v : Value} {e : Nat} {enc : α → List Value} {l : List α} (hs : LsH h v e enc l) : ca v = true := hs.2.good
section
variable [Val] [Kno] {C : Cfg} {Sg : FuncId → Option Sig} {T : Nat → Site}
theorem hidL {F : (List Lf → HL → Prop) → List Lf → HL → Prop} {s : List Lf → HL → Prop} {l : List Lf} {h : HL} (hf : F s l h) : @hid _ ⟨F⟩ s l h := hf
theorem loop_up {σ : Type} {F : (List Lf → HL → Prop) → List Lf → HL → Prop} (n : Nat) (S : Nat → σ → List Lf) (HP : Nat → σ → HL) (Inv : Nat → σ → Prop) {j0 : Nat} {s0 : σ} {ls : List Lf} {h : HL} (hls : ls = S j0 s0) (hh : h = HP j0 s0) (hj : j0 ≤ n) (hi : Inv j0 s0)
  (step : ∀ j s, j ≤ n → Inv j s → ∀ self : List Lf → HL → Prop, (∀ s', j < n → Inv (j + 1) s' → self (S (j + 1) s') (HP (j + 1) s')) → F self (S j s) (HP j s)) : (PH C Sg T).loop (@hid _ ⟨F⟩) ls h := by
 subst hls hh
 refine qH (m := n - j0) (fun m ls h => ∃ j s, ls = S j s ∧ h = HP j s ∧ j ≤ n ∧ m = n - j ∧ Inv j s) ⟨j0, s0, rfl, rfl, hj, rfl, hi⟩ ?_
 rintro m ls h ⟨j, s, rfl, rfl, hj, rfl, hi⟩ self hself
 exact hidL (step j s hj hi self fun s' hlt hi' => hself (n - (j + 1)) _ _ (by omega) ⟨j + 1, s', rfl, rfl, by omega, rfl, hi'⟩)
theorem oB {F : (List Lf → HL → Prop) → List Lf → HL → Prop} (n : Nat) (Inv : Nat → Prop) {j0 : Nat} {h : HL} {ls : List Lf} (hls : ls = [.i (Int.ofNat j0)]) (hj : j0 ≤ n) (hi : Inv j0)
  (step : ∀ j, j ≤ n → Inv j → ∀ self : List Lf → HL → Prop, (j < n → Inv (j + 1) → self [.i (Int.ofNat j + 1)] h) → F self [.i (Int.ofNat j)] h) : (PH C Sg T).loop (@hid _ ⟨F⟩) ls h :=
 loop_up (σ := Unit) n (fun j _ => [.i (Int.ofNat j)]) (fun _ _ => h) (fun j _ => Inv j) (s0 := ()) hls rfl hj hi fun j _ hj hi self hs => step j hj hi self (fun a b => hs () a b)
theorem r_len {α : Type} {h : HL} {v : Value} {e : Nat} {enc : α → List Value} {l : List α} {K : Int → Prop} (hs : LsH h v e enc l) (hk : K (Int.ofNat l.length)) : (PH C Sg T).opt (lenS v) (@hid _ ⟨K⟩) := aM hs.len hk
theorem r_get {α : Type} {h : HL} {v : Value} {e : Nat} {enc : α → List Value} {l : List α} {i : Nat} {a : α} {n : Int} {K : List Value → Prop} (hs : LsH h v e enc l) (hn : n = Int.ofNat i) (hi : l[i]? = some a) (hk : K (enc a)) :
  (PH C Sg T).opt (idS e v n) (@hid _ ⟨fun x => (PH C Sg T).peek (.lg C e x) h (@hid _ ⟨K⟩)⟩) := by
 subst hn
 obtain ⟨p, h1, h2⟩ := hs.at hi
 exact aM h1 (ml (h2.lg (hs.1 a (List.mem_of_getElem? hi))) hk)
end
end Sx
end Go.Am

/-
 CREASES: the tests of patterns, told of lists: kinds.
-/
set_option maxRecDepth 100000
set_option maxHeartbeats 4000000
namespace Go.Am
open Sx Go.Proofs
abbrev Crs := Int × Int × Int
def encC (c : Crs) : List Value := [.int .i64 c.1, .int .u8 c.2.1, .int .u8 c.2.2]
def okC (c : Crs) : Prop := -9223372036854775808 ≤ c.1 ∧ c.1 ≤ 9223372036854775807 ∧ 0 ≤ c.2.1 ∧ c.2.1 ≤ 255 ∧ 0 ≤ c.2.2 ∧ c.2.2 ≤ 255
def isK (c : Crs) : Bool := decide (1 ≤ c.2.2) && decide (c.2.2 ≤ 3)
theorem isKind_c (k : Int) : Cc 73 [.i k] [.b (decide (1 ≤ k) && decide (k ≤ 3))] := by
 refine q73 rfl ?_; unfold p73
 by_cases h1 : 1 ≤ k
 ·by_cases h2 : k ≤ 3
  ·simp (disch := omega) only [↓qxs, ↓qxc, ↓qxa]; simp [h1, h2]
  ·simp (disch := omega) only [↓qxs, ↓qxc, ↓qxa]; simp [h1, h2]
 ·simp (disch := omega) only [↓qxs, ↓qxc, ↓qxa]; simp [h1]
theorem chk1_c (c : Crs) : Cc 72 [.i c.1, .i c.2.1, .i c.2.2] [.b (!isK c)] := by
 refine q72 rfl ?_; unfold p72
 simp (disch := omega) only [↓qxs, ↓qxc, ↓qxa]
 refine bJ (isKind_c c.2.2) ?_
 simp (disch := omega) only [↓qxs, ↓qxc, ↓qxa]
 simp [isK]
abbrev clo1 : Value := .func (.func 72) ⟨[]⟩ ⟨[]⟩
theorem good1 : ca clo1 = true := rfl
theorem index_c {h : HL} {x : Value} {l : List Crs} (hl : LsH h x 3 encC l) (hn : l.length ≤ 4294967296) : ∃ n : Int, aQ cc ac 93 [.v x, .v clo1] (absH ab h) [.i n] (absH ab h) ∧ (0 ≤ n ↔ ∃ c ∈ l, isK c = false) := by
 obtain ⟨rs, h', h1, n, rfl, rfl, h2⟩ := x93 (K := fun rs h' => ∃ n : Int, rs = [.i n] ∧ h' = h ∧ (0 ≤ n ↔ ∃ c ∈ l, isK c = false)) (H := h) (glsV hl.good (glsV good1 gls0)) (by
  unfold p93
  simp (disch := omega) only [↓qxs, ↓qxc, ↓qxa]
  refine r_len hl ?_
  refine oB l.length (fun j => ∀ i, i < j → ∀ c, l[i]? = some c → isK c = true) rfl (Nat.zero_le _) (fun i hi => absurd hi (Nat.not_lt_zero _)) ?_
  intro j hj hi self hself
  simp (disch := omega) only [↓qxs, ↓qxc, ↓qxa]
  by_cases hlt : j < l.length
  ·have e1 : Int.ofNat j < Int.ofNat l.length := by show (j : Int) < l.length; omega
   rw [p_lss_t e1]
   simp (disch := omega) only [↓qxs, ↓qxc, ↓qxa]
   obtain ⟨c, hc⟩ : ∃ c, l[j]? = some c := ⟨_, List.getElem?_eq_getElem hlt⟩
   refine r_get hl rfl hc ?_
   unfold encC
   simp (disch := omega) only [↓qxs, ↓qxc, ↓qxa]
   refine p_callv (callv_ct (chk1_c c _) rfl [.agg [.i .i64 c.1, .i .u8 c.2.1, .i .u8 c.2.2]] rfl rfl) ?_
   simp (disch := omega) only [↓qxs, ↓qxc, ↓qxa]
   cases hk : isK c with
   | true =>
    show P1.cond false _ _
    simp (disch := omega) only [↓qxs, ↓qxc, ↓qxa]
    rw [p_add (by show -9223372036854775808 ≤ (j : Int) + 1; omega) (by show (j : Int) + 1 ≤ 9223372036854775807; omega)]
    refine hself hlt fun i hi' c' hc' => ?_
    rcases Nat.lt_or_ge i j with h | h
    ·exact hi i h c' hc'
    ·obtain rfl : i = j := by omega
     rw [hc] at hc'; cases hc'; exact hk
   | false =>
    show P1.cond true _ _
    simp (disch := omega) only [↓qxs, ↓qxc, ↓qxa]
    exact ⟨_, rfl, by trivial, fun _ => ⟨c, List.mem_of_getElem? hc, hk⟩, fun _ => Int.natCast_nonneg j⟩
  ·have e1 : Int.ofNat l.length ≤ Int.ofNat j := by show (l.length : Int) ≤ j; omega
   rw [p_lss_f e1]
   simp (disch := omega) only [↓qxs, ↓qxc, ↓qxa]
   refine ⟨_, rfl, by trivial, fun h => by omega, fun ⟨c, hc, hk⟩ => ?_⟩
   obtain ⟨i, hi'⟩ := List.getElem?_of_mem hc
   have hlt' : i < l.length := by
    rcases Nat.lt_or_ge i l.length with h | h
    ·exact h
    ·rw [List.getElem?_eq_none h] at hi'; cases hi'
   rw [hi i (by omega) c hi'] at hk
   cases hk)
 exact ⟨n, h1, h2⟩
theorem qw {h : HL} {x : Value} {l : List Crs} (hl : LsH h x 3 encC l) (hn : l.length ≤ 4294967296) : aQ cc ac 71 [.v x, .v clo1] (absH ab h) [.b (!l.all isK)] (absH ab h) := by
 obtain ⟨n, h1, h2⟩ := index_c hl hn
 obtain ⟨rs, h', h3, rfl, rfl⟩ := x71 (K := fun rs h' => rs = [.b (!l.all isK)] ∧ h' = h) (H := h) (glsV hl.good (glsV good1 gls0)) (by
  unfold p71
  simp (disch := omega) only [↓qxs, ↓qxc, ↓qxa]
  refine dB h1 ?_
  simp (disch := omega) only [↓qxs, ↓qxc, ↓qxa]
  cases hb : l.all isK with
  | true =>
   have : ¬ 0 ≤ n := fun h => by
    obtain ⟨c, hc, hk⟩ := h2.1 h
    rw [List.all_eq_true.1 hb c hc] at hk; cases hk
   simp (disch := omega) only [↓qxs, ↓qxc, ↓qxa]
   exact ⟨by trivial, by trivial⟩
  | false =>
   have : 0 ≤ n := h2.2 (by
    obtain ⟨c, hc, hk⟩ := List.all_eq_false.1 hb
    exact ⟨c, hc, by simpa using hk⟩)
   simp (disch := omega) only [↓qxs, ↓qxc, ↓qxa]
   exact ⟨by trivial, by trivial⟩)
 exact h3
end Go.Am

/-
 CALLS THAT MAKE BLOCKS: what a run over some blocks alone answers and makes, holds whatever else there is: the new blocks come behind.
-/
namespace Go.Am
namespace Sx
section
variable [Val]
noncomputable def ox : HObj → HObj
 | .cells vs e true => if vs.all flat then .cells vs e true else .dead
 | _ => .dead
theorem oy {o : HObj} (h : (ox o).alive = true) : ∃ vs e, o = .cells vs e true ∧ vs.all flat = true ∧ ox o = .cells vs e true := by
 match o, h with
 | .cells vs e true, h =>
  unfold ox at h
  by_cases hf : vs.all flat = true
  ·exact ⟨vs, e, rfl, hf, by show (if vs.all flat = true then HObj.cells vs e true else .dead) = _; rw [if_pos hf]⟩
  ·simp only [if_neg hf] at h; cases h
 | .cells _ _ false, h => cases h
 | .map .., h => cases h
 | .loop .., h => cases h
 | .siter .., h => cases h
 | .dead, h => cases h
noncomputable def nX (n0 n : Nat) (σ : Nat → Nat) : Nat → Nat := fun j => if j < n0 then σ j else n + (j - n0)
theorem vr_ren' {n : Nat} {τ : Nat → Nat} {mu' mu'' : HMap} (hmu : ∀ j, j < n → mu'' (τ j) = mu' j) {v c : Value} (hv : OkV n v) (h : VR noL mu' v c) : VR noL mu'' (renV τ v) c := by
 rcases hv with ⟨h1, h2⟩ | ⟨j, off, len, cx, e, hj, rfl⟩
 ·rw [h2, cv h1 h]
  exact .of_flat h1
 ·show VR noL mu'' (.slice (some ⟨τ j, off, tag e⟩) len cx) c
  generalize ht : tag e = t at h ⊢
  cases h with
  | hslice q1 q2 q3 q4 => exact .hslice ((hmu j hj).trans q1) q2 q3 q4
  | hslice0 q1 => exact .hslice0 q1
  | gslice _ => simp [tag] at ht
  | gslice0 => simp [tag] at ht
  | scalar q => simp [scalar] at q
theorem vr_sl' {n : Nat} {τ : Nat → Nat} {mu' mu'' : HMap} (hmu : ∀ j, j < n → mu'' (τ j) = mu' j) {l : SL} {c : Value} (hl : OkL n l.lf) (h : VR noL mu' l.val c) : VR noL mu'' (iq τ l).val c := by
 cases l with
 | v x => exact vr_ren' hmu hl h
 | i k m =>
  have hf : flat (Value.int k m) = true := rfl
  have h : VR noL mu' (.int k m) c := h
  rw [cv hf h]; exact .of_flat hf
 | b t =>
  have hf : flat (Value.bool t) = true := rfl
  have h : VR noL mu' (.bool t) c := h
  rw [cv hf h]; exact .of_flat hf
 | l t =>
  have hf : flat (Value.bool t) = true := rfl
  have h : VR noL mu' (.bool t) c := h
  rw [cv hf h]; exact .of_flat hf
theorem vr_s0' {n : Nat} {τ : Nat → Nat} {mu' mu'' : HMap} (hmu : ∀ j, j < n → mu'' (τ j) = mu' j) {x : S0} {c : Value} (hx : ∀ l ∈ x.cells, OkL n l.lf) (h : VR noL mu' x.val c) : VR noL mu'' (renS τ x).val c := by
 cases x with
 | leaf l => exact vr_sl' hmu (hx l (by simp [S0.cells])) h
 | agg cs =>
  have h : VR noL mu' (.agg ⟨cs.map SL.val⟩) c := h
  generalize ha : (⟨cs.map SL.val⟩ : Array Value) = a at h
  cases h with
  | scalar q => simp [scalar] at q
  | agg hs h =>
   subst ha
   refine .agg (by simpa using hs) fun i x y hx' hy => ?_
   have hi : ((cs.map (iq τ)).map SL.val)[i]? = some x := by simpa using hx'
   rw [List.getElem?_map, List.getElem?_map] at hi
   cases e : cs[i]? with
   | none => rw [e] at hi; cases hi
   | some l =>
    rw [e] at hi
    cases hi
    exact vr_sl' hmu (hx l (List.mem_of_getElem? e)) (h i _ y (by simp [e]) hy)
theorem vr_pack' {n : Nat} {τ : Nat → Nat} {mu' mu'' : HMap} (hmu : ∀ j, j < n → mu'' (τ j) = mu' j) {xs : List S0} {c : Value} (hx : ∀ x ∈ xs, ∀ l ∈ x.cells, OkL n l.lf) (h : VR noL mu' (dH (am xs)) c) : VR noL mu'' (dH (am (xs.map (renS τ)))) c := by
 match xs, hx, h with
 | [], _, h =>
  have h : VR noL mu' undef c := h
  have hf : flat undef = true := rfl
  rw [cv hf h]
  exact .of_flat hf
 | [x], hx, h => exact vr_s0' hmu (hx x List.mem_cons_self) h
 | x :: y :: l, hx, h =>
  have h : VR noL mu' (.tuple ⟨am (x :: y :: l)⟩) c := h
  show VR noL mu'' (.tuple ⟨am ((x :: y :: l).map (renS τ))⟩) c
  generalize ha : (⟨am (x :: y :: l)⟩ : Array Value) = a at h
  have hsz : a.size = l.length + 2 := by subst ha; simp [am]
  cases h with
  | scalar q => simp [scalar] at q
  | poison _ => exact absurd hsz (by simp)
  | sym _ => exact absurd hsz (by simp)
  | tuple hn hs h =>
   subst ha
   refine .tuple (by simp [am]) (by simpa [am] using hs) fun i x' y' hx' hy => ?_
   have hi : (am ((x :: y :: l).map (renS τ)))[i]? = some x' := by simpa using hx'
   unfold am at hi
   rw [List.getElem?_map, List.getElem?_map] at hi
   cases e : (x :: y :: l)[i]? with
   | none => rw [e] at hi; cases hi
   | some s =>
    rw [e] at hi
    cases hi
    exact vr_s0' hmu (hx s (List.mem_of_getElem? e)) (h i _ y' (by
     show (⟨(x :: y :: l).map S0.val⟩ : Array Value)[i]? = _
     rw [List.getElem?_toArray, List.getElem?_map, e]; rfl) hy)
theorem objR_some {mu : HMap} {p : Pl} {x : Option Obj} {o : HObj} (ha : o.alive = true) (h : objR mu p x o) : ∃ y, x = some y := by
 cases o with
 | cells vs e rw => obtain ⟨_, _, _, c, e, fr, h, _⟩ := h; exact ⟨_, h⟩
 | map es c => obtain ⟨es', h, _⟩ := h; exact ⟨_, h⟩
 | loop r => obtain ⟨L, h, _⟩ := h; exact ⟨_, h⟩
 | siter s p => exact ⟨_, h⟩
 | dead => cases ha
theorem frame_al {C : Cfg} (hG : ∀ g vs, C.G g = some vs → vs.all flat = true) {f : FuncId} {args0 args : List Value} {r0 r : Value} {H0 H' H : List HObj} (σ : Nat → Nat) (h : dq C f args0 H0 r0 H')
  (h0 : ∀ (j : Nat) (o : HObj), H0[j]? = some o → ∃ vs e rw, o = .cells vs e false ∧ vs.all flat = true ∧ H[σ j]? = some (.cells vs e rw))
  (ha : ∀ (mu mu0 : HMap) (cs : List Value), (∀ j, j < H0.length → mu0 j = mu (σ j)) → VRs noL mu args cs → VRs noL mu0 args0 cs)
  (hr : ∀ (mu' mu'' : HMap) (c : Value), (∀ j, j < H'.length → mu'' (nX H0.length H.length σ j) = mu' j) → VR noL mu' r0 c → VR noL mu'' r c) : dq C f args H r (H ++ (H'.drop H0.length).map ox) := by
 intro base mu w args' hb hargs hW
 let mu0 : HMap := fun j => if j < H0.length then mu (σ j) else none
 have hno : ∀ b, ¬ Own mu0 H0 b := by
  rintro b ⟨id, o, p, h1, h2, _⟩
  obtain ⟨vs, e, rw', rfl, _⟩ := h0 id o h1
  cases h2
 have hmu : ∀ (id : Nat) (o : HObj), H0[id]? = some o → mu0 id = mu (σ id) := by
  intro id o h1
  have : id < H0.length := by
   rcases Nat.lt_or_ge id H0.length with h | h
   ·exact h
   ·rw [List.getElem?_eq_none h] at h1; cases h1
  simp only [mu0, if_pos this]
 have hobj : ∀ (id : Nat) (o : HObj), H0[id]? = some o → ∃ p, mu0 id = some p ∧ objR mu0 p w.heap[p.b]? o := by
  intro id o h1
  obtain ⟨vs, e, rw', rfl, hf, hH⟩ := h0 id o h1
  obtain ⟨p, h3, h4⟩ := hW.obj (σ id) _ hH rfl
  obtain ⟨g1, g2, g3, c, e', fr, g4, g5, g6, g7⟩ := h4
  refine ⟨p, by rw [hmu id _ h1]; exact h3, g1, g2, g3, c, e', fr, g4, g5, fun e => by (cases e), fun i v hv => ?_⟩
  obtain ⟨v', q1, q2⟩ := g7 i v hv
  have h2 : flat v = true := List.all_eq_true.1 hf v (List.mem_of_getElem? hv)
  refine ⟨v', q1, ?_⟩
  rw [cv h2 q2]
  exact .of_flat h2
 have hin : ∀ (p : Pl) (o : HObj) (m : HMap), o.alive = true → objR m p w.heap[p.b]? o → p.b < w.heap.size := by
  intro p o m ha h
  obtain ⟨y, hy⟩ := objR_some ha h
  rcases Nat.lt_or_ge p.b w.heap.size with h | h
  ·exact h
  ·rw [Array.getElem?_eq_none h] at hy; cases hy
 have hW0 : WR C w.heap.size mu0 H0 w := by
  refine ⟨fun id o h1 _ => hobj id o h1, fun i j oi oj pi pj h1 h2 h3 => ?_, fun i o p h1 h2 => ?_, fun i o p h1 ha' _ h2 => ?_, fun id h1 => ?_, fun g vs hg => ?_⟩
  ·obtain ⟨vs, e, rw', rfl, _⟩ := h0 i oi h1
   cases h3
  ·obtain ⟨vs, e, rw', rfl, _⟩ := h0 i o h1
   cases h2
  ·obtain ⟨p', h3, h4⟩ := hobj i o h1
   rw [h2] at h3
   cases h3
   exact hin _ _ _ ha' h4
  ·simp only [mu0, if_neg (Nat.not_lt.2 h1)]
  ·obtain ⟨h1, h2, c, e, fr, h3, h4⟩ := hW.glob g vs hg
   exact ⟨by omega, h2, c, e, fr, h3, lV (hG g vs hg) h4⟩
 have hargs0 : VRs noL mu0 args0 args'.toList := ha mu mu0 _ (fun j hj => by simp only [mu0, if_pos hj]) hargs
 obtain ⟨v, mu', w', a1, a2, a3, a4, a5⟩ := h w.heap.size mu0 w args' (Nat.le_refl _) hargs0 hW0
 have hkeep : ∀ (b : Nat) x, w.heap[b]? = some x → w'.heap[b]? = some x := by
  intro b x hx
  have hlt : b < w.heap.size := by
   rcases Nat.lt_or_ge b w.heap.size with h | h
   ·exact h
   ·rw [Array.getElem?_eq_none h] at hx; cases hx
  rw [a3.keep b hlt (hno b)]; exact hx
 let mu2 : HMap := fun id => if id < H.length then mu id else mu' (H0.length + (id - H.length))
 have hold : ∀ id, id < H.length → mu2 id = mu id := fun id hi => by simp only [mu2, if_pos hi]
 have hnew : ∀ k, mu2 (H.length + k) = mu' (H0.length + k) := fun k => by
  simp only [mu2, if_neg (Nat.not_lt.2 (Nat.le_add_right H.length k)), Nat.add_sub_cancel_left]
 have hlen := a3.len
 have hmono : ∀ i p, mu i = some p → mu2 i = some p := by
  intro i p hp
  rw [hold i]; exact hp
  rcases Nat.lt_or_ge i H.length with h | h
  ·exact h
  ·rw [hW.dom i h] at hp; cases hp
 have hbeh : ∀ (id : Nat) (o : HObj), (H ++ (H'.drop H0.length).map ox)[id]? = some o → ¬ id < H.length → o.alive = true →
   ∃ k vs e, id = H.length + k ∧ H'[H0.length + k]? = some (.cells vs e true) ∧ vs.all flat = true ∧ o = .cells vs e true := by
  intro id o ho hid hal
  rw [List.getElem?_append_right (by omega), List.getElem?_map, List.getElem?_drop] at ho
  obtain ⟨o', h1, rfl⟩ := Option.map_eq_some_iff.1 ho
  obtain ⟨vs, e, rfl, hf, e2⟩ := oy hal
  exact ⟨id - H.length, vs, e, by omega, h1, hf, e2⟩
 refine ⟨v, mu2, w', ?_, ?_, ?_, a4, a5⟩
 ·refine hr mu' mu2 v (fun j hj => ?_) a1
  unfold nX
  by_cases hj0 : j < H0.length
  ·rw [if_pos hj0]
   obtain ⟨vs, e, rw', _, _, hH⟩ := h0 j _ (List.getElem?_eq_getElem hj0)
   have : σ j < H.length := by
    rcases Nat.lt_or_ge (σ j) H.length with h | h
    ·exact h
    ·rw [List.getElem?_eq_none h] at hH; cases hH
   rw [hold _ this, a3.same j hj0]
   simp only [mu0, if_pos hj0]
  ·rw [if_neg hj0, hnew, show H0.length + (j - H0.length) = j by omega]
 ·refine ⟨fun id o h1 h2 => ?_, fun i j oi oj pi pj h1 h2 h3 h4 h5 h6 h7 => ?_, fun i o p h1 h2 h3 => ?_, fun i o p h1 h2 h3 h4 => ?_, fun id h1 => ?_, fun g vs hg => ?_⟩
  ·by_cases hid : id < H.length
   ·rw [List.getElem?_append_left hid] at h1
    obtain ⟨p, h3, h4⟩ := hW.obj id o h1 h2
    exact ⟨p, hmono _ _ h3, (nG (hkeep p.b) h4).mono hmono⟩
   ·obtain ⟨k, vs, e, rfl, h3, hf, rfl⟩ := hbeh id o h1 hid h2
    obtain ⟨p, h4, g1, g2, g3, c, e', fr, g4, g5, g6, g7⟩ := a2.obj _ _ h3 rfl
    refine ⟨p, by rw [hnew]; exact h4, g1, g2, g3, c, e', fr, g4, g5, g6, fun i v hv => ?_⟩
    obtain ⟨v', q1, q2⟩ := g7 i v hv
    have hfv : flat v = true := List.all_eq_true.1 hf v (List.mem_of_getElem? hv)
    refine ⟨v', q1, ?_⟩
    rw [cv hfv q2]
    exact .of_flat hfv
  ·by_cases hi : i < H.length
   ·rw [List.getElem?_append_left hi] at h1
    rw [hold i hi] at h6
    by_cases hj : j < H.length
    ·rw [List.getElem?_append_left hj] at h2
     rw [hold j hj] at h7
     exact hW.inj i j oi oj pi pj h1 h2 h3 h4 h5 h6 h7
    ·obtain ⟨k, vs, e, rfl, q1, hf, rfl⟩ := hbeh j oj h2 hj h4
     rw [hnew] at h7
     have hb2 := a2.own _ _ _ q1 rfl h7
     obtain ⟨p, h8, h9⟩ := hW.obj i oi h1 (bg h3)
     rw [h6] at h8; cases h8
     have := hin _ _ _ (bg h3) h9
     omega
   ·obtain ⟨k, vs, e, rfl, q1, hf, rfl⟩ := hbeh i oi h1 hi (bg h3)
    rw [hnew] at h6
    have hb2 := a2.own _ _ _ q1 rfl h6
    by_cases hj : j < H.length
    ·rw [List.getElem?_append_left hj] at h2
     rw [hold j hj] at h7
     obtain ⟨p, h8, h9⟩ := hW.obj j oj h2 h4
     rw [h7] at h8; cases h8
     have := hin _ _ _ h4 h9
     omega
    ·obtain ⟨k2, vs2, e2, rfl, q2, hf2, rfl⟩ := hbeh j oj h2 hj h4
     rw [hnew] at h7
     exact a2.inj _ _ _ _ _ _ q1 q2 rfl rfl (by omega) h6 h7
  ·by_cases hi : i < H.length
   ·rw [List.getElem?_append_left hi] at h1
    rw [hold i hi] at h3
    exact hW.own i o p h1 h2 h3
   ·obtain ⟨k, vs, e, rfl, q1, hf, rfl⟩ := hbeh i o h1 hi (bg h2)
    rw [hnew] at h3
    have := a2.own _ _ _ q1 rfl h3
    omega
  ·by_cases hi : i < H.length
   ·rw [List.getElem?_append_left hi] at h1
    rw [hold i hi] at h4
    exact hW.ro i o p h1 h2 h3 h4
   ·obtain ⟨k, vs, e, rfl, q1, hf, rfl⟩ := hbeh i o h1 hi h2
    cases h3
  ·rw [List.length_append, List.length_map, List.length_drop] at h1
   have : ¬ id < H.length := by omega
   simp only [mu2, if_neg this]
   exact a2.dom _ (by omega)
  ·obtain ⟨h1, h2, c, e, fr, h3, h4⟩ := hW.glob g vs hg
   exact ⟨h1, h2, c, e, fr, hkeep _ _ h3, lV (hG g vs hg) h4⟩
 ·refine ⟨by simp, fun id hid => hold id hid, a3.size, fun b hb _ => a3.keep b hb (hno b), fun b hb => ?_, a3.os, a3.tape, a3.output⟩
  obtain ⟨id, o, p, q1, q2, q3, rfl⟩ := hb
  by_cases hid : id < H.length
  ·rw [List.getElem?_append_left hid] at q1
   rw [hold id hid] at q3
   exact .inr ⟨id, o, p, q1, q2, q3, rfl⟩
  ·obtain ⟨k, vs, e, rfl, q4, hf, rfl⟩ := hbeh id o q1 hid (bg q2)
   rw [hnew] at q3
   exact .inl (a2.own _ _ _ q4 rfl q3)
theorem call_al {C : Cfg} {N : FuncId → Option Nat} {Sg : FuncId → Option Sig} (hm : C.P.follows .mixedOrders = true) (hG : ∀ g vs, C.G g = some vs → vs.all flat = true) {g : FuncId} (hn : N g = none) {ls0 rs : List Lf} {H0 H' H : List HObj} (σ : Nat → Nat)
  (h : let _ : Kno := KnoC C N; aQ C Sg g ls0 H0 rs H')
  (h0 : ∀ (j : Nat) (o : HObj), H0[j]? = some o → ∃ vs e rw, o = .cells vs e false ∧ vs.all flat = true ∧ H[σ j]? = some (.cells vs e rw))
  (hl : ∀ l ∈ ls0, OkL H0.length l) (hrl : ∀ l ∈ rs, OkL H'.length l) : let _ : Kno := KnoC C N; aQ C Sg g (ls0.map (renL σ)) H (rs.map (renL (nX H0.length H.length σ))) (H ++ (H'.drop H0.length).map ox) := by
 let _ : Kno := KnoC C N
 obtain ⟨sg, xs, ys, c1, c2, c3, c4⟩ := h
 have hx : ∀ x ∈ xs, ∀ l ∈ x.cells, OkL H0.length l.lf := fun x hx l hl' => hl _ (by rw [← c2.2.1]; exact ny hx hl')
 have hy : ∀ x ∈ ys, ∀ l ∈ x.cells, OkL H'.length l.lf := fun x hx l hl' => hrl _ (by rw [← c3.2.1]; exact ny hx hl')
 have gd : ∀ (τ : Nat → Nat) (zs : List S0), (∀ x ∈ zs, x.good) → ∀ x ∈ zs.map (renS τ), x.good := by
  intro τ zs hz x hx'
  obtain ⟨y, hy, rfl⟩ := List.mem_map.1 hx'
  intro l hl'
  rw [mX] at hl'
  obtain ⟨l', hl'', rfl⟩ := List.mem_map.1 hl'
  exact good_ren (hz y hy l' hl'')
 refine ⟨sg, xs.map (renS σ), ys.map (renS (nX H0.length H.length σ)), c1, ⟨by rw [iO]; exact c2.1, by rw [jp, c2.2.1], gd _ _ c2.2.2⟩, ⟨by rw [iO]; exact c3.1, by rw [jp, c3.2.1], gd _ _ c3.2.2⟩, ⟨0, ?_⟩⟩
 exact .inr ⟨hn, frame_al hG σ (jL hm c4) h0 (fun mu mu0 cs hmu h => vrs_ren hmu hx h) fun mu' mu'' c hmu h => vr_pack' hmu hy h⟩
end
end Sx
end Go.Am

/-
 WHAT RUNS OVER AN EMPTY HEAP TELL: answers, and lists that are made.
-/
set_option maxRecDepth 100000
namespace Go.Am
open Sx Go.Proofs
theorem known_val {g n : Nat} {ls rs : List Lf} {sg : Sig} (hs : ac g = some sg) (hp : sg.plain = true) (hg : aP ls = true) (h : runF n (.f g) ls .empty tell = some rs) : ∀ H, aQ cc ac g ls H rs H := by
 obtain ⟨rs', h', a1, a2⟩ := (mt n).f g ls .empty tell rs (dw hg) h
 rw [tell_eq] at a2
 cases a2
 exact pS g sg ls _ _ hs hp a1
noncomputable def isAns (rs' : List Lf) : Option (List Lf) → Bool := fun o => @Option.rec _ (fun _ => Bool) false (fun rs => eqLs rs rs') o
theorem jo {g n : Nat} {ls rs : List Lf} {sg : Sig} (hs : ac g = some sg) (hp : sg.plain = true) (hg : aP ls = true) (h : isAns rs (runF n (.f g) ls .empty tell) = true) : ∀ H, aQ cc ac g ls H rs H := by
 cases e : runF n (.f g) ls .empty tell with
 | none => rw [e] at h; cases h
 | some rs' =>
  rw [e] at h
  have h : eqLs rs' rs = true := h
  rw [eY h] at e
  exact known_val hs hp hg e
noncomputable def eqCell (a b : Value) : Bool := match a, b with
 | .int k n, .int k' n' => eh k k' && eqZK n n'
 | .bool t, .bool t' => eqBK t t'
 | _, _ => false
noncomputable def eqCells (c : Tr Value) : List Value → Nat → Bool
 | [], _ => true
 | v :: l, i => eqCell ((bw i).get nilV c) v && eqCells c l (i + 1)
noncomputable def isSl (h : HTr) (x : Value) (e n : Nat) (cells : List Value) : Bool := match x with
 | .slice none 0 0 => Nat.beq n 0 && Nat.beq cells.length 0
 | .slice (some a) len _ => Nat.beq len n && Nat.beq a.off 0 && Nat.beq cells.length (n * e) && tagB a.spot e && (match h.at a.block with
  | some (.t m e' true c) => Nat.beq m (n * e) && Nat.beq e' e && eqCells c cells 0
  | _ => false)
 | _ => false
theorem absH_app (T : Nat → Site) (h G : HL) : absH T (h ++ G) = absH T h ++ absH T G := by simp [absH]
theorem absH_o (T : Nat → Site) (l : List HObj) : absH T (l.map HO.o) = l := by
 induction l with
 | nil => rfl
 | cons a l ih => show absO T (.o a) :: absH T (l.map HO.o) = _; rw [ih]; rfl
end Go.Am

/-
 UNITS: tables by the kernel: names, cells, the list of units.
-/
set_option maxRecDepth 100000
namespace Go.Am
open Sx Go.Proofs
def nbr (w v c e : Nat) : Option Nat :=
 match e, c % 4 with
 | 0, 0 => if 0 < c / 4 / w then some (c + 2 - 4 * w) else none
 | 0, 1 => if c / 4 % w + 1 < w then some (c + 6) else none
 | 0, 2 => if c / 4 / w + 1 < v then some (c + 4 * w - 2) else none
 | 0, _ => if 0 < c / 4 % w then some (c - 6) else none
 | 1, 0 => some (c + 1)
 | 1, 1 => some (c - 1)
 | 1, 2 => some (c + 1)
 | 1, _ => some (c - 1)
 | 2, 0 => some (c + 3)
 | 2, 1 => some (c + 1)
 | 2, 2 => some (c - 1)
 | 2, _ => some (c - 3)
 | _, _ => none
def nameN (w v c e : Nat) : List Lf := match nbr w v c e with
 | some n => [.i (.ofNat (min c n)), .i (.ofNat e), .i 0]
 | none => [.i 0, .i 0, .i 7]
def cellN (w c : Nat) : List Lf := [.i (.ofNat (c / 4 % w)), .i (.ofNat (c / 4 / w)), .i (.ofNat (c % 4)), .i 0]
noncomputable def tabName (w v : Nat) : Bool := (List.range (4 * w * v)).all fun c => (List.range 3).all fun e => isAns (nameN w v c e) (runF 60 (.f 51) [.i (.ofNat w), .i (.ofNat v), .i (.ofNat c), .i (.ofNat e)] .empty tell)
noncomputable def tabCell (w v : Nat) : Bool := (List.range (4 * w * v)).all fun c => isAns (cellN w c) (runF 60 (.f 49) [.i (.ofNat w), .i (.ofNat v), .i (.ofNat c)] .empty tell)
def lu (w v : Nat) : List (Nat × Nat) := (List.range (4 * w * v)).flatMap fun c => (List.range 3).filterMap fun e => match nbr w v c e with
 | some n => if c < n then some (c, e) else none
 | none => none
def encU (u : Nat × Nat) : List Value := [.int .i64 (.ofNat u.1), .int .u8 (.ofNat u.2)]
noncomputable def qf (w v : Nat) : Bool := match runF 60 (.f 47) [.i (.ofNat w), .i (.ofNat v)] .empty (fun rs h => match rs with
   | .v x :: r => ans (eqLs r [] && isSl h x 2 (lu w v).length ((lu w v).flatMap encU))
   | _ => none) with
 | some [] => true
 | _ => false
def ltN (a b : Nat × Nat) : Bool := Nat.blt a.1 b.1 || (Nat.beq a.1 b.1 && Nat.blt a.2 b.2)
def ascN : List (Nat × Nat) → Bool
 | a :: b :: l => ltN a b && ascN (b :: l)
 | _ => true
noncomputable def tab5 (w v : Nat) : Bool := tabName w v && (tabCell w v && (qf w v && (ascN (lu w v) && Nat.ble (lu w v).length 1000)))
theorem tabAll : ∀ w v : Nat, 1 ≤ w → w ≤ 5 → 1 ≤ v → v ≤ 5 → tab5 w v = true := by
 have key : ((List.range 5).all fun w => (List.range 5).all fun v => tab5 (w + 1) (v + 1)) = true := by kernel_rfl
 intro w v h1 h2 h3 h4
 have h5 := List.all_eq_true.1 key (w - 1) (List.mem_range.2 (by omega))
 have h6 := List.all_eq_true.1 h5 (v - 1) (List.mem_range.2 (by omega))
 have e1 : w - 1 + 1 = w := by omega
 have e2 : v - 1 + 1 = v := by omega
 rw [e1, e2] at h6
 exact h6
end Go.Am

/-
 UNITS AND CREASES: names at whatever cell and edge; the test of patterns, told of lists.
-/
set_option maxRecDepth 100000
set_option maxHeartbeats 4000000
namespace Go.Am
open Sx Go.Proofs
theorem nbr_ne {w v c e n : Nat} (hw : 1 ≤ w) (h : nbr w v c e = some n) : n ≠ c := by
 have hx : c / 4 % w ≤ c / 4 := Nat.mod_le _ _
 have hy : c / 4 / w ≤ c / 4 := Nat.div_le_self _ _
 have hq : c % 4 = 0 ∨ c % 4 = 1 ∨ c % 4 = 2 ∨ c % 4 = 3 := by omega
 rcases e with _ | _ | _ | e <;> rcases hq with h1 | h1 | h1 | h1 <;> simp only [nbr, h1] at h <;>
  first
  |(split at h <;> first | (simp only [Option.some.injEq] at h; omega) | (cases h; done))
  |(simp only [Option.some.injEq] at h; omega)
  |(cases h; done)
theorem tab5_ok {w v : Nat} (h : tab5 w v = true) : tabName w v = true ∧ tabCell w v = true ∧ qf w v = true ∧ ascN (lu w v) = true ∧ (lu w v).length ≤ 1000 := by
 unfold tab5 at h
 simp only [Bool.and_eq_true, Nat.ble_eq] at h
 exact h
theorem nameIn {w v : Nat} (ht : tab5 w v = true) {c e : Nat} (hc : c < 4 * w * v) (he : e < 3) : Cc 51 [.i (.ofNat w), .i (.ofNat v), .i (.ofNat c), .i (.ofNat e)] (nameN w v c e) := by
 have h1 := List.all_eq_true.1 (tab5_ok ht).1 c (List.mem_range.2 hc)
 exact jo (n := 60) rfl (by kernel_rfl) rfl (List.all_eq_true.1 h1 e (List.mem_range.2 he))
theorem cellIn {w v : Nat} (ht : tab5 w v = true) {c : Nat} (hc : c < 4 * w * v) : Cc 49 [.i (.ofNat w), .i (.ofNat v), .i (.ofNat c)] (cellN w c) :=
 jo (n := 60) rfl (by kernel_rfl) rfl (List.all_eq_true.1 (tab5_ok ht).2.1 c (List.mem_range.2 hc))
def valS (w v : Int) : Prop := 1 ≤ w ∧ 1 ≤ v ∧ w ≤ 256 ∧ v ≤ 256 ∧ w * v ≤ 256
instance (w v : Int) : Decidable (valS w v) := by unfold valS; infer_instance
theorem mul_bd {w v a b : Int} (h : 0 ≤ w ∧ w ≤ a ∧ 0 ≤ v ∧ v ≤ b) : 0 ≤ w * v ∧ w * v ≤ a * b :=
 ⟨Int.mul_nonneg h.1 h.2.2.1, Int.mul_le_mul h.2.1 h.2.2.2 h.2.2.1 (by omega)⟩
theorem shCheck (w v : Int) : Cc 56 [.i w, .i v] [.i (if valS w v then 0 else 1)] := by
 refine q56 rfl ?_; unfold p56
 by_cases h1 : 1 ≤ w
 ·by_cases h2 : 1 ≤ v
  ·by_cases h3 : w ≤ 256
   ·by_cases h4 : v ≤ 256
    ·have hm := mul_bd (w := w) (v := v) (a := 256) (b := 256) (by omega)
     by_cases h5 : w * v ≤ 256
     ·simp (disch := omega) only [↓qxs, ↓qxc, ↓qxa]; simp [valS, h1, h2, h3, h4, h5]
     ·simp (disch := omega) only [↓qxs, ↓qxc, ↓qxa]; simp [valS, h5]
    ·simp (disch := omega) only [↓qxs, ↓qxc, ↓qxa]; simp [valS, h4]
   ·simp (disch := omega) only [↓qxs, ↓qxc, ↓qxa]; simp [valS, h3]
  ·simp (disch := omega) only [↓qxs, ↓qxc, ↓qxa]; simp [valS, h2]
 ·simp (disch := omega) only [↓qxs, ↓qxc, ↓qxa]; simp [valS, h1]
theorem gZ {w v : Int} (h : valS w v) : Cc 56 [.i w, .i v] [.i 0] := by
 have := shCheck w v; rw [if_pos h] at this; exact this
def smS (w v : Int) : Prop := 1 ≤ w ∧ w ≤ 5 ∧ 1 ≤ v ∧ v ≤ 5
theorem oW {w v : Int} (h : smS w v) : valS w v := by
 unfold smS at h; have := mul_bd (w := w) (v := v) (a := 5) (b := 5) (by omega); unfold valS; omega
theorem sm4 {w v : Int} (h : smS w v) : 4 ≤ 4 * w * v ∧ 4 * w * v ≤ 100 := by
 unfold smS at h
 have h1 := mul_bd (w := 4 * w) (v := v) (a := 20) (b := 5) (by omega)
 have h2 : 4 * w ≤ 4 * w * v := by
  have := Int.mul_le_mul_of_nonneg_left h.2.2.1 (show 0 ≤ 4 * w by omega)
  rw [Int.mul_one] at this; exact this
 omega
theorem has_c {w v : Int} (h : smS w v) (c : Int) : Cc 77 [.i w, .i v, .i c] [.b (decide (0 ≤ c) && decide (c < 4 * w * v))] := by
 have h4 := sm4 h
 unfold smS at h
 refine q77 rfl ?_; unfold p77
 by_cases h1 : 0 ≤ c
 ·by_cases h2 : c < 4 * w * v
  ·simp (disch := omega) only [↓qxs, ↓qxc, ↓qxa]; simp [h1, h2]
  ·simp (disch := omega) only [↓qxs, ↓qxc, ↓qxa]; simp [h1, h2]
 ·simp (disch := omega) only [↓qxs, ↓qxc, ↓qxa]; simp [h1]
theorem qW {w v c : Int} (h : smS w v) (hc : ¬ (0 ≤ c ∧ c < 4 * w * v)) : Cc 49 [.i w, .i v, .i c] [.i 0, .i 0, .i 0, .i 7] := by
 refine q49 rfl ?_; unfold p49
 simp (disch := omega) only [↓qxs, ↓qxc, ↓qxa]
 refine bJ (gZ (oW h)) ?_
 simp (disch := omega) only [↓qxs, ↓qxc, ↓qxa]
 have e : (decide (0 ≤ c) && decide (c < 4 * w * v)) = false := by simp; omega
 refine bJ (e ▸ has_c h c) ?_
 simp (disch := omega) only [↓qxs, ↓qxc, ↓qxa, Bool.not_false]
theorem oV {w v c e : Int} (h : smS w v) (hc : ¬ (0 ≤ c ∧ c < 4 * w * v)) : Cc 80 [.i w, .i v, .i c, .i e] [.i 0, .i 7] := by
 refine q80 rfl ?_; unfold p80
 simp (disch := omega) only [↓qxs, ↓qxc, ↓qxa]
 refine bJ (qW h hc) ?_
 simp (disch := omega) only [↓qxs, ↓qxc, ↓qxa]
theorem qX {w v c e : Int} (h : smS w v) (hc : ¬ (0 ≤ c ∧ c < 4 * w * v)) : Cc 51 [.i w, .i v, .i c, .i e] [.i 0, .i 0, .i 7] := by
 refine q51 rfl ?_; unfold p51
 simp (disch := omega) only [↓qxs, ↓qxc, ↓qxa]
 refine bJ (oV h hc) ?_
 simp (disch := omega) only [↓qxs, ↓qxc, ↓qxa]
theorem mU {x y q : Int} (h : -4096 ≤ x ∧ x ≤ 4096 ∧ -4096 ≤ y ∧ y ≤ 4096 ∧ q ≤ 3) : Cc 79 [.i x, .i y, .i q] [.i 0] := by
 refine q79 rfl ?_; unfold p79
 simp (disch := omega) only [↓qxs, ↓qxc, ↓qxa]
theorem jT {x y q e : Int} (h : -4096 ≤ x ∧ x ≤ 4096 ∧ -4096 ≤ y ∧ y ≤ 4096 ∧ q ≤ 3) (he : 2 < e) : Cc 62 [.i x, .i y, .i q, .i e] [.i 0, .i 0, .i 0, .i 1] := by
 refine q62 rfl ?_; unfold p62
 simp (disch := omega) only [↓qxs, ↓qxc, ↓qxa]
 refine bJ (mU h) ?_
 simp (disch := omega) only [↓qxs, ↓qxc, ↓qxa]
theorem toNat2 {w v : Int} (h : smS w v) : ∃ a b : Nat, w = .ofNat a ∧ v = .ofNat b ∧ 1 ≤ a ∧ a ≤ 5 ∧ 1 ≤ b ∧ b ≤ 5 := by
 unfold smS at h
 obtain ⟨a, rfl⟩ := Int.eq_ofNat_of_zero_le (show 0 ≤ w by omega)
 obtain ⟨b, rfl⟩ := Int.eq_ofNat_of_zero_le (show 0 ≤ v by omega)
 exact ⟨a, b, rfl, rfl, by omega, by omega, by omega, by omega⟩
theorem lt_nat {a b c : Nat} (h : (c : Int) < 4 * (a : Int) * (b : Int)) : c < 4 * a * b := by
 have : (4 * (a : Int) * (b : Int)) = ((4 * a * b : Nat) : Int) := by simp
 rw [this] at h; omega
theorem nW {w v c e : Int} (h : smS w v) (hc : 0 ≤ c ∧ c < 4 * w * v) (he : 2 < e) : Cc 80 [.i w, .i v, .i c, .i e] [.i 0, .i 1] := by
 have h4 := sm4 h
 obtain ⟨a, b, rfl, rfl, ha⟩ := toNat2 h
 obtain ⟨k, rfl⟩ := Int.eq_ofNat_of_zero_le hc.1
 have hk : k < 4 * a * b := lt_nat hc.2
 have hk2 : 4 * a * b ≤ 100 := by
  have : (4 * (a : Int) * (b : Int)) = ((4 * a * b : Nat) : Int) := by simp
  have h5 := h4.2
  change 4 * (a : Int) * (b : Int) ≤ 100 at h5
  rw [this] at h5; omega
 refine q80 rfl ?_; unfold p80
 simp (disch := omega) only [↓qxs, ↓qxc, ↓qxa]
 refine bJ (cellIn (tabAll a b ha.1 ha.2.1 ha.2.2.1 ha.2.2.2) hk) ?_
 unfold cellN
 simp (disch := omega) only [↓qxs, ↓qxc, ↓qxa]
 have h1 : k / 4 % a ≤ k / 4 := Nat.mod_le _ _
 have h2 : k / 4 / a ≤ k / 4 := Nat.div_le_self _ _
 have h3 : (0 : Int) ≤ ((k / 4 / a : Nat) : Int) := Int.natCast_nonneg _
 have h5 : (0 : Int) ≤ ((k / 4 % a : Nat) : Int) := Int.natCast_nonneg _
 refine bJ (jT (x := Int.ofNat (k / 4 % a)) (y := Int.ofNat (k / 4 / a)) (q := Int.ofNat (k % 4)) (by simp only [Int.ofNat_eq_natCast]; omega) he) ?_
 simp (disch := omega) only [↓qxs, ↓qxc, ↓qxa]
theorem oU {w v c e : Int} (h : smS w v) (hc : 0 ≤ c ∧ c < 4 * w * v) (he : 2 < e) : Cc 51 [.i w, .i v, .i c, .i e] [.i 0, .i 0, .i 1] := by
 refine q51 rfl ?_; unfold p51
 simp (disch := omega) only [↓qxs, ↓qxc, ↓qxa]
 refine bJ (nW h hc he) ?_
 simp (disch := omega) only [↓qxs, ↓qxc, ↓qxa]
def isUn (w v c e : Int) : Bool := decide (0 ≤ c) && decide (c < 4 * w * v) && decide (e ≤ 2) && (match nbr w.toNat v.toNat c.toNat e.toNat with
 | some n => Nat.blt c.toNat n
 | none => false)
theorem name_c {w v c e : Int} (h : smS w v) (he : 0 ≤ e) : ∃ a b r : Int, Cc 51 [.i w, .i v, .i c, .i e] [.i a, .i b, .i r] ∧ (isUn w v c e = true ↔ r = 0 ∧ a = c ∧ b = e) := by
 by_cases hc : 0 ≤ c ∧ c < 4 * w * v
 ·by_cases h2 : e ≤ 2
  ·obtain ⟨a, b, rfl, rfl, ha⟩ := toNat2 h
   obtain ⟨k, rfl⟩ := Int.eq_ofNat_of_zero_le hc.1
   obtain ⟨j, rfl⟩ := Int.eq_ofNat_of_zero_le he
   have hk : k < 4 * a * b := lt_nat hc.2
   have hn := nameIn (tabAll a b ha.1 ha.2.1 ha.2.2.1 ha.2.2.2) hk (e := j) (by omega)
   unfold nameN at hn
   cases e : nbr a b k j with
   | none =>
    rw [e] at hn
    refine ⟨_, _, _, hn, ?_⟩
    have : isUn (.ofNat a) (.ofNat b) (k : Int) (j : Int) = false := by
     unfold isUn
     have e' : nbr (Int.ofNat a).toNat (Int.ofNat b).toNat (k : Int).toNat (j : Int).toNat = none := e
     rw [e']; simp
    rw [this]
    simp
   | some n =>
    rw [e] at hn
    refine ⟨_, _, _, hn, ?_⟩
    have hne := nbr_ne ha.1 e
    have e' : nbr (Int.ofNat a).toNat (Int.ofNat b).toNat (k : Int).toNat (j : Int).toNat = some n := e
    unfold isUn
    rw [e']
    simp only [Bool.and_eq_true, decide_eq_true_eq, Nat.blt_eq, Int.toNat_natCast]
    constructor
    ·rintro ⟨_, h3⟩
     exact ⟨by trivial, by show ((min k n : Nat) : Int) = k; omega, by trivial⟩
    ·rintro ⟨_, h3, _⟩
     have h3 : ((min k n : Nat) : Int) = k := h3
     exact ⟨⟨⟨hc.1, hc.2⟩, h2⟩, by omega⟩
  ·refine ⟨_, _, _, oU h hc (by omega), ?_⟩
   have : isUn w v c e = false := by unfold isUn; simp [h2]
   rw [this]; simp
 ·refine ⟨_, _, _, qX h hc, ?_⟩
  have : isUn w v c e = false := by
   unfold isUn
   have : (decide (0 ≤ c) && decide (c < 4 * w * v)) = false := by simp; omega
   rw [this]; simp
  rw [this]; simp
theorem pB {w v c e : Int} (h : isUn w v c e = true) : 0 ≤ c ∧ c < 4 * w * v ∧ e ≤ 2 := by
 unfold isUn at h
 simp only [Bool.and_eq_true, decide_eq_true_eq] at h
 exact ⟨h.1.1.1, h.1.1.2, h.1.2⟩
end Go.Am

/-
 RULES FOR NUMBERS THAT COUNT.
-/
set_option maxRecDepth 100000
namespace Go.Am
namespace Sx
section
variable [Val] [Kno] {C : Cfg} {Sg : FuncId → Option Sig} {T : Nat → Site}
theorem n_add {j : Nat} {K : Int → Prop} (h : j ≤ 4294967296) : (PH C Sg T).ari .add .i64 (Int.ofNat j) 1 (@hid _ ⟨K⟩) = K (Int.ofNat j + 1) :=
 p_add (by show -9223372036854775808 ≤ (j : Int) + 1; omega) (by show (j : Int) + 1 ≤ 9223372036854775807; omega)
theorem n_sub {j : Nat} {K : Int → Prop} (h1 : 1 ≤ j) (h : j ≤ 4294967296) : (PH C Sg T).ari .sub .i64 (Int.ofNat j) 1 (@hid _ ⟨K⟩) = K (Int.ofNat (j - 1)) := by
 rw [p_sub (by show -9223372036854775808 ≤ (j : Int) - 1; omega) (by show (j : Int) - 1 ≤ 9223372036854775807; omega)]
 congr 1
 show (j : Int) - 1 = ((j - 1 : Nat) : Int)
 omega
theorem n_lss_t {j n : Nat} {K : Bool → Prop} (h : j < n) : (PH C Sg T).cmp .lss (Int.ofNat j) (Int.ofNat n) (@hid _ ⟨K⟩) = K true := p_lss_t (by show (j : Int) < n; omega)
theorem n_lss_f {j n : Nat} {K : Bool → Prop} (h : n ≤ j) : (PH C Sg T).cmp .lss (Int.ofNat j) (Int.ofNat n) (@hid _ ⟨K⟩) = K false := p_lss_f (by show (n : Int) ≤ j; omega)
end
theorem get_lt {α : Type} {l : List α} {i : Nat} {a : α} (h : l[i]? = some a) : i < l.length := by
 rcases Nat.lt_or_ge i l.length with h1 | h1
 ·exact h1
 ·rw [List.getElem?_eq_none h1] at h; cases h
theorem get_ex {α : Type} {l : List α} {i : Nat} (h : i < l.length) : ∃ a, l[i]? = some a := ⟨_, List.getElem?_eq_getElem h⟩
end Sx
end Go.Am

/-
 THE TEST OF PATTERNS, told of lists.
-/
set_option maxRecDepth 100000
set_option maxHeartbeats 4000000
namespace Go.Am
open Sx Go.Proofs
def ltC (a b : Crs) : Bool := decide (a.1 < b.1) || (decide (a.1 = b.1) && decide (a.2.1 < b.2.1))
def ascC : List Crs → Bool
 | a :: b :: l => ltC a b && ascC (b :: l)
 | _ => true
theorem lC : ∀ {l : List Crs}, ascC l = true ↔ ∀ (i : Nat) a b, l[i]? = some a → l[i + 1]? = some b → ltC a b = true
 | [] => by simp [ascC]
 | [a] => by simp [ascC]
 | a :: b :: l => by
  simp only [ascC, Bool.and_eq_true]
  rw [lC (l := b :: l)]
  constructor
  ·rintro ⟨h1, h2⟩ i x y hx hy
   cases i with
   | zero =>
    simp only [List.getElem?_cons_zero, Option.some.injEq, List.getElem?_cons_succ] at hx hy
    subst hx hy; exact h1
   | succ i => exact h2 i x y (by simpa using hx) (by simpa using hy)
  ·intro h
   exact ⟨h 0 a b rfl rfl, fun i x y hx hy => h (i + 1) x y (by simpa using hx) (by simpa using hy)⟩
def unC (w v : Int) (c : Crs) : Bool := isUn w v c.1 c.2.1
def chkC (w v : Int) (l : List Crs) : Int := if l.all isK = false then 1 else if l.all (unC w v) = false then 7 else if ascC l = true then 0 else 6
theorem unit_c (c : Crs) : Cc 55 [.i c.1, .i c.2.1, .i c.2.2] [.i c.1, .i c.2.1] := by
 refine q55 rfl ?_; unfold p55
 simp (disch := omega) only [↓qxs, ↓qxc, ↓qxa]
theorem order_c {a b : Crs} (h : 0 ≤ a.1 ∧ a.1 ≤ 1000 ∧ 0 ≤ b.1 ∧ b.1 ≤ 1000 ∧ 0 ≤ a.2.1 ∧ a.2.1 ≤ 255 ∧ 0 ≤ b.2.1 ∧ b.2.1 ≤ 255) : ∃ d : Int, Cc 54 [.i a.1, .i a.2.1, .i b.1, .i b.2.1] [.i d] ∧ (d < 0 ↔ ltC a b = true) := by
 by_cases h1 : a.1 = b.1
 ·refine ⟨a.2.1 - b.2.1, ?_, by simp only [ltC, Bool.or_eq_true, Bool.and_eq_true, decide_eq_true_eq]; omega⟩
  refine q54 rfl ?_; unfold p54
  simp (disch := omega) only [↓qxs, ↓qxc, ↓qxa]
 ·refine ⟨a.1 - b.1, ?_, by simp only [ltC, Bool.or_eq_true, Bool.and_eq_true, decide_eq_true_eq]; omega⟩
  refine q54 rfl ?_; unfold p54
  simp (disch := omega) only [↓qxs, ↓qxc, ↓qxa]
theorem check_c {w v : Int} (hs : smS w v) {h : HL} {x : Value} {l : List Crs} (hl : LsH h x 3 encC l) (hk : ∀ c ∈ l, okC c) (hn : l.length ≤ 4294967296) :
  aQ cc ac 40 [.i w, .i v, .v x] (absH ab h) [.i (chkC w v l)] (absH ab h) := by
 obtain ⟨rs, h', h3, rfl, rfl⟩ := x40 (K := fun rs h' => rs = [.i (chkC w v l)] ∧ h' = h) (H := h) (glsI (glsI (glsV hl.good gls0))) (by
  unfold p40
  simp (disch := omega) only [↓qxs, ↓qxc, ↓qxa]
  refine bJ (gZ (oW hs)) ?_
  simp (disch := omega) only [↓qxs, ↓qxc, ↓qxa]
  refine dB (qw hl hn) ?_
  simp (disch := omega) only [↓qxs, ↓qxc, ↓qxa]
  cases hb : l.all isK with
  | false =>
   simp (disch := omega) only [↓qxs, ↓qxc, ↓qxa, Bool.not_false]
   exact ⟨by simp [chkC, hb], by trivial⟩
  | true =>
   simp (disch := omega) only [↓qxs, ↓qxc, ↓qxa, Bool.not_true]
   refine r_len hl ?_
   refine oB l.length (fun j => ∀ i, i < j → ∀ c, l[i]? = some c → unC w v c = true) rfl (Nat.zero_le _) (fun i hi => absurd hi (Nat.not_lt_zero _)) ?_
   intro j hj hi self hself
   simp (disch := omega) only [↓qxs, ↓qxc, ↓qxa]
   by_cases hlt : j < l.length
   ·rw [n_lss_t hlt]
    simp (disch := omega) only [↓qxs, ↓qxc, ↓qxa]
    obtain ⟨c, hc⟩ := get_ex hlt
    have hmem := List.mem_of_getElem? hc
    have hok := hk c hmem
    unfold okC at hok
    have bad : unC w v c = false → chkC w v l = 7 := fun hu => by
     have : l.all (unC w v) = false := List.all_eq_false.2 ⟨c, hmem, by simp [hu]⟩
     simp [chkC, hb, this]
    refine r_get hl rfl hc ?_
    unfold encC
    simp (disch := omega) only [↓qxs, ↓qxc, ↓qxa]
    obtain ⟨a, b, r, hnm, hiff⟩ := name_c (c := c.1) (e := c.2.1) hs (by omega)
    refine bJ hnm ?_
    simp (disch := omega) only [↓qxs, ↓qxc, ↓qxa]
    by_cases hr : r = 0
    ·subst hr
     simp (disch := omega) only [↓qxs, ↓qxc, ↓qxa]
     refine bJ (unit_c c) ?_
     simp (disch := omega) only [↓qxs, ↓qxc, ↓qxa]
     by_cases hab : a = c.1 ∧ b = c.2.1
     ·have hu : unC w v c = true := hiff.2 ⟨rfl, hab.1, hab.2⟩
      simp (disch := omega) only [↓qxs, ↓qxc, ↓qxa, Bool.not_true]
      rw [n_add (by omega)]
      refine hself hlt fun i hi' c' hc' => ?_
      rcases Nat.lt_or_ge i j with h | h
      ·exact hi i h c' hc'
      ·obtain rfl : i = j := by omega
       rw [hc] at hc'; cases hc'; exact hu
     ·have hu : unC w v c = false := by
       rw [← Bool.not_eq_true]; intro hu
       have := hiff.1 hu
       exact hab ⟨this.2.1, this.2.2⟩
      rw [p_eqs2_f hab]
      simp (disch := omega) only [↓qxs, ↓qxc, ↓qxa, Bool.not_false]
      exact ⟨by rw [bad hu], by trivial⟩
    ·have hu : unC w v c = false := by
      rw [← Bool.not_eq_true]; intro hu
      exact hr (hiff.1 hu).1
     simp (disch := omega) only [↓qxs, ↓qxc, ↓qxa]
     exact ⟨by rw [bad hu], by trivial⟩
   ·obtain rfl : j = l.length := by omega
    rw [n_lss_f (Nat.le_refl _)]
    simp (disch := omega) only [↓qxs, ↓qxc, ↓qxa]
    have hu : l.all (unC w v) = true := List.all_eq_true.2 fun c hc => by
     obtain ⟨i, hi'⟩ := List.getElem?_of_mem hc
     exact hi i (get_lt hi') c hi'
    refine oB (j0 := 1) (max 1 l.length) (fun j => 1 ≤ j ∧ ∀ (i : Nat) a b, i + 1 < j → l[i]? = some a → l[i + 1]? = some b → ltC a b = true) rfl (Nat.le_max_left _ _) ⟨Nat.le_refl _, fun i a b hi => by omega⟩ ?_
    intro j hj' ⟨h1, hi2⟩ self hself
    simp (disch := omega) only [↓qxs, ↓qxc, ↓qxa]
    refine r_len hl ?_
    by_cases hlt : j < l.length
    ·rw [n_lss_t hlt]
     simp (disch := omega) only [↓qxs, ↓qxc, ↓qxa]
     rw [n_sub h1 (by omega)]
     obtain ⟨c, hc⟩ := get_ex (l := l) (i := j - 1) (by omega)
     obtain ⟨d, hd⟩ := get_ex hlt
     have hc1 := hk c (List.mem_of_getElem? hc)
     have hd1 := hk d (List.mem_of_getElem? hd)
     have hc2 := pB (List.all_eq_true.1 hu c (List.mem_of_getElem? hc))
     have hd2 := pB (List.all_eq_true.1 hu d (List.mem_of_getElem? hd))
     have h4 := sm4 hs
     unfold okC at hc1 hd1
     refine r_get hl rfl hc ?_
     unfold encC
     simp (disch := omega) only [↓qxs, ↓qxc, ↓qxa]
     refine bJ (unit_c c) ?_
     simp (disch := omega) only [↓qxs, ↓qxc, ↓qxa]
     refine r_get hl rfl hd ?_
     unfold encC
     simp (disch := omega) only [↓qxs, ↓qxc, ↓qxa]
     refine bJ (unit_c d) ?_
     simp (disch := omega) only [↓qxs, ↓qxc, ↓qxa]
     obtain ⟨o, ho, hoi⟩ := order_c (a := c) (b := d) (by omega)
     refine bJ ho ?_
     simp (disch := omega) only [↓qxs, ↓qxc, ↓qxa]
     by_cases hlo : o < 0
     ·simp (disch := omega) only [↓qxs, ↓qxc, ↓qxa]
      rw [n_add (by omega)]
      refine hself (by omega) ⟨by omega, fun i a b hi' ha hb' => ?_⟩
      rcases Nat.lt_or_ge (i + 1) j with h | h
      ·exact hi2 i a b h ha hb'
      ·have e1 : i = j - 1 := by omega
       have e2 : i + 1 = j := by omega
       rw [e2, hd] at hb'
       rw [e1, hc] at ha
       cases ha; cases hb'
       exact hoi.1 hlo
     ·have hna : ascC l = false := by
       rw [← Bool.not_eq_true, lC]
       intro hall
       have := hall (j - 1) c d hc (by rw [show j - 1 + 1 = j by omega]; exact hd)
       exact hlo (hoi.2 this)
      simp (disch := omega) only [↓qxs, ↓qxc, ↓qxa]
      exact ⟨by simp [chkC, hb, hu, hna], by trivial⟩
    ·rw [n_lss_f (by omega)]
     simp (disch := omega) only [↓qxs, ↓qxc, ↓qxa]
     have ha : ascC l = true := lC.2 fun i a b ha hb' => hi2 i a b (by have := get_lt hb'; omega) ha hb'
     exact ⟨by simp [chkC, hb, hu, ha], by trivial⟩)
 exact h3
end Go.Am

/-
 THE REFERENCE'S TEST OF PATTERNS, told of lists.
-/
set_option maxRecDepth 100000
set_option maxHeartbeats 4000000
namespace Go.Am
open Sx Go.Proofs
end Go.Am

/-
 The examples of chapter 9.
-/
set_option maxRecDepth 100000
namespace Go.Am
open Sx Go.Proofs
theorem kI : ∀ H, aQ cc ac 16 [] H [.b true] H := jo (n := 60) rfl (by kernel_rfl) rfl (by kernel_rfl)
end Go.Am

/-
 CORNERS: what is made by runs; errors.
-/
set_option maxRecDepth 100000
set_option maxHeartbeats 4000000
namespace Go.Am
open Sx Go.Proofs
noncomputable def okSl (h : HTr) (x : Value) (e : Nat) : Bool := match x with
 | .slice none 0 0 => true
 | .slice (some a) _ _ => tagB a.spot e && Nat.blt a.block h.n
 | _ => false
theorem plainR {l : List Lf} {σ : Nat → Nat} (hl : l.all (fun l => match l with | .v _ => false | _ => true) = true) : l.map (renL σ) = l := by
 induction l with
 | nil => rfl
 | cons a l ih =>
  simp only [List.all_cons, Bool.and_eq_true] at hl
  rw [List.map_cons, ih hl.2]
  cases a <;> first | rfl | (simp at hl)
theorem plainO {l : List Lf} {n : Nat} (hl : l.all (fun l => match l with | .v _ => false | _ => true) = true) : ∀ a ∈ l, OkL n a := by
 intro a ha
 have := List.all_eq_true.1 hl a ha
 cases a <;> first | trivial | cases this
def isCo (w v x y : Nat) : Bool := Nat.blt 0 x && Nat.blt 0 y && Nat.blt x (2 * w) && Nat.blt y (2 * v) && Nat.beq (x % 2) (y % 2)
end Go.Am

/-
 CORNERS: errors.
-/
set_option maxRecDepth 100000
set_option maxHeartbeats 4000000
namespace Go.Am
open Sx Go.Proofs
theorem ptr_new {h : HL} {cs : List Value} {e : Nat} {rw' : Bool} : Ptr (h ++ [.o (.cells cs e rw')]) (.pointer (some ⟨h.length, 0, none⟩)) cs :=
 ⟨h.length, 0, cs, e, rw', rfl, by simp, Sx.cut_all rfl⟩
abbrev KT : List Lf → HL → Prop := fun rs _ => rs = [.b true]
def coS (w v x y : Int) : Prop := 0 < x ∧ 0 < y ∧ x < 2 * w ∧ y < 2 * v ∧ x % 2 = y % 2
instance (w v x y : Int) : Decidable (coS w v x y) := by unfold coS; infer_instance
theorem po {w v : Int} (hs : smS w v) (x y : Int) : Cc 32 [.i w, .i v, .i x, .i y] [.i (if coS w v x y then 0 else 7)] := by
 refine q32 rfl ?_; unfold p32
 have hs' := hs
 unfold smS at hs'
 simp (disch := omega) only [↓qxs, ↓qxc, ↓qxa]
 refine bJ (gZ (oW hs)) ?_
 by_cases h1 : 0 < x
 ·by_cases h2 : 0 < y
  ·by_cases h3 : x < 2 * w
   ·by_cases h4 : y < 2 * v
    ·by_cases h5 : x % 2 = y % 2
     ·simp (disch := omega) only [↓qxs, ↓qxc, ↓qxa]; simp [coS, h1, h2, h3, h4, h5]
     ·simp (disch := omega) only [↓qxs, ↓qxc, ↓qxa]; simp [coS, h5]
    ·simp (disch := omega) only [↓qxs, ↓qxc, ↓qxa]; simp [coS, h4]
   ·simp (disch := omega) only [↓qxs, ↓qxc, ↓qxa]; simp [coS, h3]
  ·simp (disch := omega) only [↓qxs, ↓qxc, ↓qxa]; simp [coS, h2]
 ·simp (disch := omega) only [↓qxs, ↓qxc, ↓qxa]; simp [coS, h1]
theorem around_no {w v x y e : Int} (he : e ≠ 0) (hc : Cc 32 [.i w, .i v, .i x, .i y] [.i e]) (h : HL) : aQ cc ac 12 [.i w, .i v, .i x, .i y] (absH ab h) [.v (.slice none 0 0), .i e] (absH ab h) := by
 obtain ⟨rs, h', h3, rfl, rfl⟩ := u12 (ls := [.i w, .i v, .i x, .i y]) (K := fun rs h' => rs = [.v (.slice none 0 0), .i e] ∧ h' = h) (H := h) rfl (by
  unfold p12
  simp (disch := omega) only [↓qxs, ↓qxc, ↓qxa]
  refine bJ hc ?_
  simp (disch := omega) only [↓qxs, ↓qxc, ↓qxa]
  exact ⟨by trivial, by trivial⟩)
 exact h3
end Go.Am

/-
 CORNERS of sheets without creases: by runs.
-/
set_option maxRecDepth 100000
set_option maxHeartbeats 4000000
namespace Go.Am
open Sx Go.Proofs
theorem renL_id (l : Lf) : renL id l = l := by
 cases l with
 | v x =>
  show Lf.v (renV id x) = _
  unfold renV
  split <;> rfl
 | _ => rfl
theorem made0 {g n : Nat} {ls : List Lf} (hg : aP ls = true) (hno : neuN g = none) (hl : ∀ l ∈ ls, OkL 0 l) {ck : List Lf → HTr → Bool} (hck : ∀ rs h, ck rs h = true → ∀ l ∈ rs, OkL h.n l)
  (h : runF n (.f g) ls .empty (fun rs h => ans (ck rs h)) = yes) (H : HL) : ∃ rs h', ck rs h' = true ∧ ∃ G, aQ cc ac g ls (absH ab H) (rs.map (renL (nX 0 (absH ab H).length id))) (absH ab (H ++ G)) := by
 obtain ⟨rs, h', a1, a2⟩ := (mt n).f g ls .empty _ [] (dw hg) h
 have a2 : ck rs h' = true := ans_yes a2
 have e0 : absH ab (toL HTr.empty) = [] := rfl
 rw [e0] at a1
 have key := call_al (N := neuN) ey bS hno (H := absH ab H) id a1 (fun j o hj => by simp at hj) hl (fun l hl' => by
  rw [eV, dS]; exact hck rs h' a2 l hl')
 have e1 : ls.map (renL id) = ls := by
  have : (renL id : Lf → Lf) = id := funext renL_id
  rw [this, List.map_id]
 rw [e1, List.length_nil, List.drop_zero] at key
 refine ⟨rs, h', a2, ((absH ab (toL h')).map ox).map .o, ?_⟩
 rw [absH_app, absH_o]; exact key
noncomputable def okN (h : HTr) (x : Value) (e n : Nat) : Bool := okSl h x e && (match lenS x with
 | some m => eqZK m (.ofNat n)
 | none => false)
theorem okSl_ok {h : HTr} {x : Value} {e : Nat} (a3 : okSl h x e = true) : OkV h.n x := by
 unfold okSl at a3
 split at a3
 ·exact .inl ⟨rfl, fun _ => rfl⟩
 ·rename_i a len cx
  simp only [Bool.and_eq_true, Nat.blt_eq] at a3
  have ht := mE.1 a3.1
  exact .inr ⟨a.block, a.off, len, cx, e, a3.2, by rw [← ht]⟩
 ·cases a3
theorem lenS_ren (τ : Nat → Nat) (x : Value) : lenS (renV τ x) = lenS x := by
 unfold renV
 split <;> rfl
theorem made_n {g k : Nat} {ls : List Lf} {e n : Nat} (hg : aP ls = true) (hno : neuN g = none) (hl : ∀ l ∈ ls, OkL 0 l)
  (h : runF k (.f g) ls .empty (fun rs h => ans (match rs with
   | [.v x, .i m] => eqZK m 0 && okN h x e n
   | _ => false)) = yes) (H : HL) : ∃ s G, aQ cc ac g ls (absH ab H) [.v s, .i 0] (absH ab (H ++ G)) ∧ lenS s = some (Int.ofNat n) := by
 obtain ⟨rs, h', a1, G, a2⟩ := made0 hg hno hl (fun rs h hc l hl' => by
  split at hc
  ·simp only [Bool.and_eq_true] at hc
   rcases List.mem_cons.1 hl' with rfl | hl'
   ·unfold okN at hc
    simp only [Bool.and_eq_true] at hc
    exact okSl_ok hc.2.1
   ·rcases List.mem_cons.1 hl' with rfl | hl'
    ·trivial
    ·cases hl'
  ·cases hc) h H
 split at a1
 ·rename_i x m
  simp only [Bool.and_eq_true] at a1
  have h1 := a1.1
  rw [fz, beq_iff_eq] at h1
  subst h1
  refine ⟨_, G, a2, ?_⟩
  rw [lenS_ren]
  have h2 := a1.2
  unfold okN at h2
  simp only [Bool.and_eq_true] at h2
  have h3 := h2.2
  split at h3
  ·rename_i m e
   rw [fz, beq_iff_eq] at h3
   rw [e, h3]
  ·cases h3
 ·cases a1
theorem made_p {g k : Nat} {ls rs0 : List Lf} (hg : aP ls = true) (hno : neuN g = none) (hl : ∀ l ∈ ls, OkL 0 l) (hp : rs0.all (fun l => match l with | .v _ => false | _ => true) = true)
  (h : runF k (.f g) ls .empty (fun rs _ => ans (eqLs rs rs0)) = yes) (H : HL) : ∃ G, aQ cc ac g ls (absH ab H) rs0 (absH ab (H ++ G)) := by
 obtain ⟨rs, h', a1, G, a2⟩ := made0 (ck := fun rs _ => eqLs rs rs0) hg hno hl (fun rs h hc l hl' => by
  have := eY hc
  subst this
  exact plainO hp l hl') h H
 have := eY a1
 subst this
 rw [plainR hp] at a2
 exact ⟨G, a2⟩
abbrev nilS : Value := .slice none 0 0
theorem pH {w v x y : Int} : ∀ l ∈ [Lf.i w, .i v, .v nilS, .i x, .i y], OkL 0 l := by
 intro l hl
 simp only [List.mem_cons, List.not_mem_nil, or_false] at hl
 rcases hl with rfl | rfl | rfl | rfl | rfl
 ·trivial
 ·trivial
 ·exact .inl ⟨rfl, fun _ => rfl⟩
 ·trivial
 ·trivial
def manyN (x : Nat) : Nat := if x % 2 = 1 then 4 else 8
noncomputable def nq (x : RT) : Bool := match x with
 | some [] => true
 | _ => false
theorem fb {x : RT} (h : nq x = true) : x = yes := by
 unfold nq at h
 split at h
 ·rfl
 ·cases h
noncomputable def tabCo (w v x y : Nat) : Bool :=
 nq (runF 60 (.f 12) [.i (.ofNat w), .i (.ofNat v), .i (.ofNat x), .i (.ofNat y)] .empty (fun rs h => ans (match rs with
   | [.v s, .i m] => eqZK m 0 && okN h s 1 (manyN x)
   | _ => false))) &&
 (nq (runF 60 (.f 19) [.i (.ofNat w), .i (.ofNat v), .v nilS, .i (.ofNat x), .i (.ofNat y)] .empty (fun rs h => ans (match rs with
   | [.v s, .i m] => eqZK m 0 && okN h s 2 0
   | _ => false))) &&
 (nq (runF 60 (.f 20) [.i (.ofNat w), .i (.ofNat v), .v nilS, .i (.ofNat x), .i (.ofNat y)] .empty (fun rs _ => ans (eqLs rs [.i 0, .i 0]))) &&
 (nq (runF 60 (.f 21) [.i (.ofNat w), .i (.ofNat v), .v nilS, .i (.ofNat x), .i (.ofNat y)] .empty (fun rs _ => ans (eqLs rs [.b false, .i 0]))) &&
 nq (runF 60 (.f 22) [.i (.ofNat w), .i (.ofNat v), .v nilS, .i (.ofNat x), .i (.ofNat y)] .empty (fun rs h => ans (match rs with
   | [.v s, .i m] => eqZK m 0 && okN h s 1 0
   | _ => false))))))
noncomputable def tab10 (w v : Nat) : Bool := (List.range (2 * w)).all fun x => (List.range (2 * v)).all fun y => !isCo w v x y || tabCo w v x y
end Go.Am

/-
 PARTS OF FUNCTIONS, BY PROGRAM: what a run of them shows, holds.
-/
set_option maxRecDepth 100000
namespace Go.Am
open Sx Go.Proofs
section
variable {R HT : Type} (A : Alg R HT)
noncomputable def ft9 (l14 : List Lf) (h15 : HT) (E : Int → Int → Value → Int → Int → HT → R) (K : List Lf → HT → R) : R := A.unI l14 (fun n16 l17 => A.unI l17 (fun n18 l19 => A.un0 l19 ( A.call 11 [(.i n16), (.i n18)] h15 (fun l20 h21 => A.unV l20 (fun x22 l23 => A.unI l23 (fun n24 l25 => A.un0 l25 ( A.loop (fun s26 l27 h28 => A.unI l27 (fun n29 l30 => A.unI l30 (fun n31 l32 => A.un0 l32 ( A.ari .mul .i64 (.ofNat 2) n18 (fun n33 => A.cmp .leq n31 n33 (fun t34 => A.cond t34 ( A.loop (fun s35 l36 h37 => A.unI l36 (fun n38 l39 => A.unI l39 (fun n40 l41 => A.un0 l41 ( A.ari .mul .i64 (.ofNat 2) n16 (fun n42 => A.cmp .leq n40 n42 (fun t43 => A.cond t43 ( A.call 18 [(.i n40), (.i n31)] h37 (fun l44 h45 => A.unI l44 (fun n46 l47 => A.unI l47 (fun n48 l49 => A.un0 l49 ( A.call 17 [(.i n16), (.i n18), (.i n46), (.i n48)] h45 (fun l50 h51 => A.unI l50 (fun n52 l53 => A.un0 l53 ( A.cmp .eql n52 (.ofNat 1) (fun t54 => A.join (fun l55 h56 => A.unI l55 (fun n57 l58 => A.un0 l58 ( A.ari .add .i64 n40 (.ofNat 1) (fun n59 => s35 [(.i n57), (.i n59)] h56)))) (fun j60 => A.cond t54 ( A.opt (lenS x22) (fun x61 => A.cmp .geq n38 x61 (fun t62 => A.cond t62 ( K [(.b false)] h51) ( A.opt (idS 2 x22 n38) (fun x63 => A.peek (.lg cc 2 x63) h51 (fun l64 => A.ucI .i64 l64 (fun n65 l66 => A.ucI .i64 l66 (fun n67 l68 => A.uc0 l68 ( A.call 18 [(.i n40), (.i n31)] h51 (fun l69 h70 => A.unI l69 (fun n71 l72 => A.unI l72 (fun n73 l74 => A.un0 l74 ( A.eqs [((.i n65), (.i n71)), ((.i n67), (.i n73))] (fun t75 => A.cond (!t75) ( K [(.b false)] h70) ( A.ari .add .i64 n38 (.ofNat 1) (fun n76 => j60 [(.i n76)] h70)))))))))))))))) ( j60 [(.i n38)] h51))))))))))) ( A.ari .add .i64 n31 (.ofNat 1) (fun n77 => s26 [(.i n38), (.i n77)] h37)))))))) [(.i n29), (.i (.ofNat 0))] h28) ( E n16 n18 x22 n24 n29 h28))))))) [(.i (.ofNat 0)), (.i (.ofNat 0))] h21)))))))
end
def pt9 (A : Alg Prop HL) (l14 : List Lf) (h15 : HL) (E : Int → Int → Value → Int → Int → HL → Prop) (K : List Lf → HL → Prop) : Prop := A.unI l14 (@hid _ ⟨fun n16 l17 => A.unI l17 (@hid _ ⟨fun n18 l19 => A.un0 l19 (@hid _ ⟨A.call 11 [(.i n16), (.i n18)] h15 (@hid _ ⟨fun l20 h21 => A.unV l20 (@hid _ ⟨fun x22 l23 => A.unI l23 (@hid _ ⟨fun n24 l25 => A.un0 l25 (@hid _ ⟨A.loop (@hid _ ⟨fun s26 l27 h28 => A.unI l27 (@hid _ ⟨fun n29 l30 => A.unI l30 (@hid _ ⟨fun n31 l32 => A.un0 l32 (@hid _ ⟨A.ari .mul .i64 2 n18 (@hid _ ⟨fun n33 => A.cmp .leq n31 n33 (@hid _ ⟨fun t34 => A.cond t34 (@hid _ ⟨A.loop (@hid _ ⟨fun s35 l36 h37 => A.unI l36 (@hid _ ⟨fun n38 l39 => A.unI l39 (@hid _ ⟨fun n40 l41 => A.un0 l41 (@hid _ ⟨A.ari .mul .i64 2 n16 (@hid _ ⟨fun n42 => A.cmp .leq n40 n42 (@hid _ ⟨fun t43 => A.cond t43 (@hid _ ⟨A.call 18 [(.i n40), (.i n31)] h37 (@hid _ ⟨fun l44 h45 => A.unI l44 (@hid _ ⟨fun n46 l47 => A.unI l47 (@hid _ ⟨fun n48 l49 => A.un0 l49 (@hid _ ⟨A.call 17 [(.i n16), (.i n18), (.i n46), (.i n48)] h45 (@hid _ ⟨fun l50 h51 => A.unI l50 (@hid _ ⟨fun n52 l53 => A.un0 l53 (@hid _ ⟨A.cmp .eql n52 1 (@hid _ ⟨fun t54 => A.join (@hid _ ⟨fun l55 h56 => A.unI l55 (@hid _ ⟨fun n57 l58 => A.un0 l58 (@hid _ ⟨A.ari .add .i64 n40 1 (@hid _ ⟨fun n59 => s35 [(.i n57), (.i n59)] h56⟩)⟩)⟩)⟩) (@hid _ ⟨fun j60 => A.cond t54 (@hid _ ⟨A.opt (lenS x22) (@hid _ ⟨fun x61 => A.cmp .geq n38 x61 (@hid _ ⟨fun t62 => A.cond t62 (@hid _ ⟨K [(.b false)] h51⟩) (@hid _ ⟨A.opt (idS 2 x22 n38) (@hid _ ⟨fun x63 => A.peek (.lg cc 2 x63) h51 (@hid _ ⟨fun l64 => A.ucI .i64 l64 (@hid _ ⟨fun n65 l66 => A.ucI .i64 l66 (@hid _ ⟨fun n67 l68 => A.uc0 l68 (@hid _ ⟨A.call 18 [(.i n40), (.i n31)] h51 (@hid _ ⟨fun l69 h70 => A.unI l69 (@hid _ ⟨fun n71 l72 => A.unI l72 (@hid _ ⟨fun n73 l74 => A.un0 l74 (@hid _ ⟨A.eqs [((.i n65), (.i n71)), ((.i n67), (.i n73))] (@hid _ ⟨fun t75 => A.cond (!t75) (@hid _ ⟨K [(.b false)] h70⟩) (@hid _ ⟨A.ari .add .i64 n38 1 (@hid _ ⟨fun n76 => j60 [(.i n76)] h70⟩)⟩)⟩)⟩)⟩)⟩)⟩)⟩)⟩)⟩)⟩)⟩)⟩)⟩)⟩)⟩) (@hid _ ⟨j60 [(.i n38)] h51⟩)⟩)⟩)⟩)⟩)⟩)⟩)⟩)⟩)⟩)⟩) (@hid _ ⟨A.ari .add .i64 n31 1 (@hid _ ⟨fun n77 => s26 [(.i n38), (.i n77)] h37⟩)⟩)⟩)⟩)⟩)⟩)⟩)⟩) [(.i n29), (.i 0)] h28⟩) (@hid _ ⟨E n16 n18 x22 n24 n29 h28⟩)⟩)⟩)⟩)⟩)⟩)⟩) [(.i 0), (.i 0)] h21⟩)⟩)⟩)⟩)⟩)⟩)⟩)
theorem gt9 : (fun A : Alg Prop HL => pt9 A) = fun A => ft9 A := by kernel_rfl
theorem st9 {call : aa} (hc : CallBOk cc ac ab call) (l14 : List Lf) (h15 : HTr) {E : Int → Int → Value → Int → Int → HTr → RT} {E' : Int → Int → Value → Int → Int → HL → Prop} (hE : ∀ n16 n18 x22 n24 n29 h28, E n16 n18 x22 n24 n29 h28 = yes → E' n16 n18 x22 n24 n29 (toL h28)) {K : List Lf → HTr → RT} {K' : List Lf → HL → Prop} (hK : KLe K K') :
  ft9 (BA ac ab call) l14 h15 E K = yes → pt9 P1 l14 (toL h15) E' K' := by
 have e : pt9 P1 l14 (toL h15) E' K' = ft9 P1 l14 (toL h15) E' K' := congrFun (congrFun (congrFun (congrFun (congrFun gt9 P1) l14) (toL h15)) E') K'
 rw [e]
 exact gX hc (fun n16 l17 => gX hc (fun n18 l19 => nU hc (pX hc (fun l20 h21 => s_unV hc (fun x22 l23 => gX hc (fun n24 l25 => nU hc (s_loop hc (fun s26 s26p h_s26 l27 h28 => gX hc (fun n29 l30 => gX hc (fun n31 l32 => nU hc (s_ari hc (fun n33 => s_cmp hc (fun t34 => nT hc (s_loop hc (fun s35 s35p h_s35 l36 h37 => gX hc (fun n38 l39 => gX hc (fun n40 l41 => nU hc (s_ari hc (fun n42 => s_cmp hc (fun t43 => nT hc (pX hc (fun l44 h45 => gX hc (fun n46 l47 => gX hc (fun n48 l49 => nU hc (pX hc (fun l50 h51 => gX hc (fun n52 l53 => nU hc (s_cmp hc (fun t54 => s_join hc (fun l55 h56 => gX hc (fun n57 l58 => nU hc (s_ari hc (fun n59 => h_s35 _ _)))) (fun j60 j60p h_j60 => nT hc (s_opt hc (fun x61 => s_cmp hc (fun t62 => nT hc (hK _ _) (s_opt hc (fun x63 => s_peek hc (fun l64 => s_ucI hc (fun n65 l66 => s_ucI hc (fun n67 l68 => s_uc0 hc (pX hc (fun l69 h70 => gX hc (fun n71 l72 => gX hc (fun n73 l74 => nU hc (s_eqs hc (fun t75 => nT hc (hK _ _) (s_ari hc (fun n76 => h_j60 _ _)))))))))))))))) (h_j60 _ _))))))))))) (s_ari hc (fun n77 => h_s26 _ _))))))))) (hE _ _ _ _ _ _))))))))))))))
def pt9e (A : Alg Prop HL) (n10 : Int) (n12 : Int) (n16 : Int) (n18 : Int) (x22 : Value) (n24 : Int) (n29 : Int) (h28 : HL) (K : List Lf → HL → Prop) : Prop := A.call 12 [(.i n16), (.i n18), (.i n10), (.i n12)] h28 (@hid _ ⟨fun l78 h79 => A.unV l78 (@hid _ ⟨fun x80 l81 => A.unI l81 (@hid _ ⟨fun n82 l83 => A.un0 l83 (@hid _ ⟨A.call 19 [(.i n16), (.i n18), (.v (.slice none 0 0)), (.i n10), (.i n12)] h79 (@hid _ ⟨fun l84 h85 => A.unV l84 (@hid _ ⟨fun x86 l87 => A.unI l87 (@hid _ ⟨fun n88 l89 => A.un0 l89 (@hid _ ⟨A.call 20 [(.i n16), (.i n18), (.v (.slice none 0 0)), (.i n10), (.i n12)] h85 (@hid _ ⟨fun l90 h91 => A.unI l90 (@hid _ ⟨fun n92 l93 => A.unI l93 (@hid _ ⟨fun n94 l95 => A.un0 l95 (@hid _ ⟨A.call 21 [(.i n16), (.i n18), (.v (.slice none 0 0)), (.i n10), (.i n12)] h91 (@hid _ ⟨fun l96 h97 => A.unB l96 (@hid _ ⟨fun t98 l99 => A.unI l99 (@hid _ ⟨fun n100 l101 => A.un0 l101 (@hid _ ⟨A.call 22 [(.i n16), (.i n18), (.v (.slice none 0 0)), (.i n10), (.i n12)] h97 (@hid _ ⟨fun l102 h103 => A.unV l102 (@hid _ ⟨fun x104 l105 => A.unI l105 (@hid _ ⟨fun n106 l107 => A.un0 l107 (@hid _ ⟨A.cmp .leq n10 0 (@hid _ ⟨fun t108 => A.cond t108 (@hid _ ⟨A.join (@hid _ ⟨fun l109 h110 => A.unB l109 (@hid _ ⟨fun t111 l112 => A.un0 l112 (@hid _ ⟨K [(.b t111)] h110⟩)⟩)⟩) (@hid _ ⟨fun j113 => A.cmp .eql n24 0 (@hid _ ⟨fun t114 => A.cond t114 (@hid _ ⟨A.opt (lenS x22) (@hid _ ⟨fun x115 => A.cmp .eql n29 x115 (@hid _ ⟨fun t116 => A.cond t116 (@hid _ ⟨A.opt (capS x22) (@hid _ ⟨fun x117 => A.cmp .eql x117 n29 (@hid _ ⟨fun t118 => A.cond t118 (@hid _ ⟨A.cmp .eql n82 7 (@hid _ ⟨fun t119 => A.cond t119 (@hid _ ⟨A.cmp .eql n88 7 (@hid _ ⟨fun t120 => A.cond t120 (@hid _ ⟨A.cmp .eql n94 7 (@hid _ ⟨fun t121 => A.cond t121 (@hid _ ⟨A.cmp .eql n100 7 (@hid _ ⟨fun t122 => A.cond t122 (@hid _ ⟨A.cmp .eql n106 7 (@hid _ ⟨fun t123 => A.cond t123 (@hid _ ⟨A.opt (lenS x86) (@hid _ ⟨fun x124 => A.ari .add .i64 x124 n92 (@hid _ ⟨fun n125 => A.opt (lenS x104) (@hid _ ⟨fun x126 => A.ari .add .i64 n125 x126 (@hid _ ⟨fun n127 => A.cmp .eql n127 0 (@hid _ ⟨fun t128 => A.cond t128 (@hid _ ⟨A.cond (!t98) (@hid _ ⟨A.opt (lenS x80) (@hid _ ⟨fun x129 => A.cmp .eql x129 0 (@hid _ ⟨fun t130 => A.cmp .neq 7 0 (@hid _ ⟨fun t131 => A.eqs [((.b t130), (.b t131))] (@hid _ ⟨fun t132 => A.cond t132 (@hid _ ⟨A.call 16 [] h103 (@hid _ ⟨fun l133 h134 => A.unB l133 (@hid _ ⟨fun t135 l136 => A.un0 l136 (@hid _ ⟨j113 [(.b t135)] h134⟩)⟩)⟩)⟩) (@hid _ ⟨j113 [(.b false)] h103⟩)⟩)⟩)⟩)⟩)⟩) (@hid _ ⟨j113 [(.b false)] h103⟩)⟩) (@hid _ ⟨j113 [(.b false)] h103⟩)⟩)⟩)⟩)⟩)⟩)⟩) (@hid _ ⟨j113 [(.b false)] h103⟩)⟩)⟩) (@hid _ ⟨j113 [(.b false)] h103⟩)⟩)⟩) (@hid _ ⟨j113 [(.b false)] h103⟩)⟩)⟩) (@hid _ ⟨j113 [(.b false)] h103⟩)⟩)⟩) (@hid _ ⟨j113 [(.b false)] h103⟩)⟩)⟩) (@hid _ ⟨j113 [(.b false)] h103⟩)⟩)⟩)⟩) (@hid _ ⟨j113 [(.b false)] h103⟩)⟩)⟩)⟩) (@hid _ ⟨j113 [(.b false)] h103⟩)⟩)⟩)⟩) (@hid _ ⟨A.cmp .leq n12 0 (@hid _ ⟨fun t137 => A.cond t137 (@hid _ ⟨A.join (@hid _ ⟨fun l138 h139 => A.unB l138 (@hid _ ⟨fun t140 l141 => A.un0 l141 (@hid _ ⟨K [(.b t140)] h139⟩)⟩)⟩) (@hid _ ⟨fun j142 => A.cmp .eql n24 0 (@hid _ ⟨fun t143 => A.cond t143 (@hid _ ⟨A.opt (lenS x22) (@hid _ ⟨fun x144 => A.cmp .eql n29 x144 (@hid _ ⟨fun t145 => A.cond t145 (@hid _ ⟨A.opt (capS x22) (@hid _ ⟨fun x146 => A.cmp .eql x146 n29 (@hid _ ⟨fun t147 => A.cond t147 (@hid _ ⟨A.cmp .eql n82 7 (@hid _ ⟨fun t148 => A.cond t148 (@hid _ ⟨A.cmp .eql n88 7 (@hid _ ⟨fun t149 => A.cond t149 (@hid _ ⟨A.cmp .eql n94 7 (@hid _ ⟨fun t150 => A.cond t150 (@hid _ ⟨A.cmp .eql n100 7 (@hid _ ⟨fun t151 => A.cond t151 (@hid _ ⟨A.cmp .eql n106 7 (@hid _ ⟨fun t152 => A.cond t152 (@hid _ ⟨A.opt (lenS x86) (@hid _ ⟨fun x153 => A.ari .add .i64 x153 n92 (@hid _ ⟨fun n154 => A.opt (lenS x104) (@hid _ ⟨fun x155 => A.ari .add .i64 n154 x155 (@hid _ ⟨fun n156 => A.cmp .eql n156 0 (@hid _ ⟨fun t157 => A.cond t157 (@hid _ ⟨A.cond (!t98) (@hid _ ⟨A.opt (lenS x80) (@hid _ ⟨fun x158 => A.cmp .eql x158 0 (@hid _ ⟨fun t159 => A.cmp .neq 7 0 (@hid _ ⟨fun t160 => A.eqs [((.b t159), (.b t160))] (@hid _ ⟨fun t161 => A.cond t161 (@hid _ ⟨A.call 16 [] h103 (@hid _ ⟨fun l162 h163 => A.unB l162 (@hid _ ⟨fun t164 l165 => A.un0 l165 (@hid _ ⟨j142 [(.b t164)] h163⟩)⟩)⟩)⟩) (@hid _ ⟨j142 [(.b false)] h103⟩)⟩)⟩)⟩)⟩)⟩) (@hid _ ⟨j142 [(.b false)] h103⟩)⟩) (@hid _ ⟨j142 [(.b false)] h103⟩)⟩)⟩)⟩)⟩)⟩)⟩) (@hid _ ⟨j142 [(.b false)] h103⟩)⟩)⟩) (@hid _ ⟨j142 [(.b false)] h103⟩)⟩)⟩) (@hid _ ⟨j142 [(.b false)] h103⟩)⟩)⟩) (@hid _ ⟨j142 [(.b false)] h103⟩)⟩)⟩) (@hid _ ⟨j142 [(.b false)] h103⟩)⟩)⟩) (@hid _ ⟨j142 [(.b false)] h103⟩)⟩)⟩)⟩) (@hid _ ⟨j142 [(.b false)] h103⟩)⟩)⟩)⟩) (@hid _ ⟨j142 [(.b false)] h103⟩)⟩)⟩)⟩) (@hid _ ⟨A.ari .mul .i64 2 n16 (@hid _ ⟨fun n166 => A.cmp .geq n10 n166 (@hid _ ⟨fun t167 => A.cond t167 (@hid _ ⟨A.join (@hid _ ⟨fun l168 h169 => A.unB l168 (@hid _ ⟨fun t170 l171 => A.un0 l171 (@hid _ ⟨K [(.b t170)] h169⟩)⟩)⟩) (@hid _ ⟨fun j172 => A.cmp .eql n24 0 (@hid _ ⟨fun t173 => A.cond t173 (@hid _ ⟨A.opt (lenS x22) (@hid _ ⟨fun x174 => A.cmp .eql n29 x174 (@hid _ ⟨fun t175 => A.cond t175 (@hid _ ⟨A.opt (capS x22) (@hid _ ⟨fun x176 => A.cmp .eql x176 n29 (@hid _ ⟨fun t177 => A.cond t177 (@hid _ ⟨A.cmp .eql n82 7 (@hid _ ⟨fun t178 => A.cond t178 (@hid _ ⟨A.cmp .eql n88 7 (@hid _ ⟨fun t179 => A.cond t179 (@hid _ ⟨A.cmp .eql n94 7 (@hid _ ⟨fun t180 => A.cond t180 (@hid _ ⟨A.cmp .eql n100 7 (@hid _ ⟨fun t181 => A.cond t181 (@hid _ ⟨A.cmp .eql n106 7 (@hid _ ⟨fun t182 => A.cond t182 (@hid _ ⟨A.opt (lenS x86) (@hid _ ⟨fun x183 => A.ari .add .i64 x183 n92 (@hid _ ⟨fun n184 => A.opt (lenS x104) (@hid _ ⟨fun x185 => A.ari .add .i64 n184 x185 (@hid _ ⟨fun n186 => A.cmp .eql n186 0 (@hid _ ⟨fun t187 => A.cond t187 (@hid _ ⟨A.cond (!t98) (@hid _ ⟨A.opt (lenS x80) (@hid _ ⟨fun x188 => A.cmp .eql x188 0 (@hid _ ⟨fun t189 => A.cmp .neq 7 0 (@hid _ ⟨fun t190 => A.eqs [((.b t189), (.b t190))] (@hid _ ⟨fun t191 => A.cond t191 (@hid _ ⟨A.call 16 [] h103 (@hid _ ⟨fun l192 h193 => A.unB l192 (@hid _ ⟨fun t194 l195 => A.un0 l195 (@hid _ ⟨j172 [(.b t194)] h193⟩)⟩)⟩)⟩) (@hid _ ⟨j172 [(.b false)] h103⟩)⟩)⟩)⟩)⟩)⟩) (@hid _ ⟨j172 [(.b false)] h103⟩)⟩) (@hid _ ⟨j172 [(.b false)] h103⟩)⟩)⟩)⟩)⟩)⟩)⟩) (@hid _ ⟨j172 [(.b false)] h103⟩)⟩)⟩) (@hid _ ⟨j172 [(.b false)] h103⟩)⟩)⟩) (@hid _ ⟨j172 [(.b false)] h103⟩)⟩)⟩) (@hid _ ⟨j172 [(.b false)] h103⟩)⟩)⟩) (@hid _ ⟨j172 [(.b false)] h103⟩)⟩)⟩) (@hid _ ⟨j172 [(.b false)] h103⟩)⟩)⟩)⟩) (@hid _ ⟨j172 [(.b false)] h103⟩)⟩)⟩)⟩) (@hid _ ⟨j172 [(.b false)] h103⟩)⟩)⟩)⟩) (@hid _ ⟨A.ari .mul .i64 2 n18 (@hid _ ⟨fun n196 => A.cmp .geq n12 n196 (@hid _ ⟨fun t197 => A.cond t197 (@hid _ ⟨A.join (@hid _ ⟨fun l198 h199 => A.unB l198 (@hid _ ⟨fun t200 l201 => A.un0 l201 (@hid _ ⟨K [(.b t200)] h199⟩)⟩)⟩) (@hid _ ⟨fun j202 => A.cmp .eql n24 0 (@hid _ ⟨fun t203 => A.cond t203 (@hid _ ⟨A.opt (lenS x22) (@hid _ ⟨fun x204 => A.cmp .eql n29 x204 (@hid _ ⟨fun t205 => A.cond t205 (@hid _ ⟨A.opt (capS x22) (@hid _ ⟨fun x206 => A.cmp .eql x206 n29 (@hid _ ⟨fun t207 => A.cond t207 (@hid _ ⟨A.cmp .eql n82 7 (@hid _ ⟨fun t208 => A.cond t208 (@hid _ ⟨A.cmp .eql n88 7 (@hid _ ⟨fun t209 => A.cond t209 (@hid _ ⟨A.cmp .eql n94 7 (@hid _ ⟨fun t210 => A.cond t210 (@hid _ ⟨A.cmp .eql n100 7 (@hid _ ⟨fun t211 => A.cond t211 (@hid _ ⟨A.cmp .eql n106 7 (@hid _ ⟨fun t212 => A.cond t212 (@hid _ ⟨A.opt (lenS x86) (@hid _ ⟨fun x213 => A.ari .add .i64 x213 n92 (@hid _ ⟨fun n214 => A.opt (lenS x104) (@hid _ ⟨fun x215 => A.ari .add .i64 n214 x215 (@hid _ ⟨fun n216 => A.cmp .eql n216 0 (@hid _ ⟨fun t217 => A.cond t217 (@hid _ ⟨A.cond (!t98) (@hid _ ⟨A.opt (lenS x80) (@hid _ ⟨fun x218 => A.cmp .eql x218 0 (@hid _ ⟨fun t219 => A.cmp .neq 7 0 (@hid _ ⟨fun t220 => A.eqs [((.b t219), (.b t220))] (@hid _ ⟨fun t221 => A.cond t221 (@hid _ ⟨A.call 16 [] h103 (@hid _ ⟨fun l222 h223 => A.unB l222 (@hid _ ⟨fun t224 l225 => A.un0 l225 (@hid _ ⟨j202 [(.b t224)] h223⟩)⟩)⟩)⟩) (@hid _ ⟨j202 [(.b false)] h103⟩)⟩)⟩)⟩)⟩)⟩) (@hid _ ⟨j202 [(.b false)] h103⟩)⟩) (@hid _ ⟨j202 [(.b false)] h103⟩)⟩)⟩)⟩)⟩)⟩)⟩) (@hid _ ⟨j202 [(.b false)] h103⟩)⟩)⟩) (@hid _ ⟨j202 [(.b false)] h103⟩)⟩)⟩) (@hid _ ⟨j202 [(.b false)] h103⟩)⟩)⟩) (@hid _ ⟨j202 [(.b false)] h103⟩)⟩)⟩) (@hid _ ⟨j202 [(.b false)] h103⟩)⟩)⟩) (@hid _ ⟨j202 [(.b false)] h103⟩)⟩)⟩)⟩) (@hid _ ⟨j202 [(.b false)] h103⟩)⟩)⟩)⟩) (@hid _ ⟨j202 [(.b false)] h103⟩)⟩)⟩)⟩) (@hid _ ⟨A.call 17 [(.i n16), (.i n18), (.i n10), (.i n12)] h103 (@hid _ ⟨fun l226 h227 => A.unI l226 (@hid _ ⟨fun n228 l229 => A.un0 l229 (@hid _ ⟨A.cmp .eql n228 0 (@hid _ ⟨fun t230 => A.join (@hid _ ⟨fun l231 h232 => A.unI l231 (@hid _ ⟨fun n233 l234 => A.un0 l234 (@hid _ ⟨A.join (@hid _ ⟨fun l235 h236 => A.unB l235 (@hid _ ⟨fun t237 l238 => A.un0 l238 (@hid _ ⟨K [(.b t237)] h236⟩)⟩)⟩) (@hid _ ⟨fun j239 => A.cmp .eql n24 0 (@hid _ ⟨fun t240 => A.cond t240 (@hid _ ⟨A.opt (lenS x22) (@hid _ ⟨fun x241 => A.cmp .eql n29 x241 (@hid _ ⟨fun t242 => A.cond t242 (@hid _ ⟨A.opt (capS x22) (@hid _ ⟨fun x243 => A.cmp .eql x243 n29 (@hid _ ⟨fun t244 => A.cond t244 (@hid _ ⟨A.cmp .eql n82 n233 (@hid _ ⟨fun t245 => A.cond t245 (@hid _ ⟨A.cmp .eql n88 n233 (@hid _ ⟨fun t246 => A.cond t246 (@hid _ ⟨A.cmp .eql n94 n233 (@hid _ ⟨fun t247 => A.cond t247 (@hid _ ⟨A.cmp .eql n100 n233 (@hid _ ⟨fun t248 => A.cond t248 (@hid _ ⟨A.cmp .eql n106 n233 (@hid _ ⟨fun t249 => A.cond t249 (@hid _ ⟨A.opt (lenS x86) (@hid _ ⟨fun x250 => A.ari .add .i64 x250 n92 (@hid _ ⟨fun n251 => A.opt (lenS x104) (@hid _ ⟨fun x252 => A.ari .add .i64 n251 x252 (@hid _ ⟨fun n253 => A.cmp .eql n253 0 (@hid _ ⟨fun t254 => A.cond t254 (@hid _ ⟨A.cond (!t98) (@hid _ ⟨A.opt (lenS x80) (@hid _ ⟨fun x255 => A.cmp .eql x255 0 (@hid _ ⟨fun t256 => A.cmp .neq n233 0 (@hid _ ⟨fun t257 => A.eqs [((.b t256), (.b t257))] (@hid _ ⟨fun t258 => A.cond t258 (@hid _ ⟨A.call 16 [] h232 (@hid _ ⟨fun l259 h260 => A.unB l259 (@hid _ ⟨fun t261 l262 => A.un0 l262 (@hid _ ⟨j239 [(.b t261)] h260⟩)⟩)⟩)⟩) (@hid _ ⟨j239 [(.b false)] h232⟩)⟩)⟩)⟩)⟩)⟩) (@hid _ ⟨j239 [(.b false)] h232⟩)⟩) (@hid _ ⟨j239 [(.b false)] h232⟩)⟩)⟩)⟩)⟩)⟩)⟩) (@hid _ ⟨j239 [(.b false)] h232⟩)⟩)⟩) (@hid _ ⟨j239 [(.b false)] h232⟩)⟩)⟩) (@hid _ ⟨j239 [(.b false)] h232⟩)⟩)⟩) (@hid _ ⟨j239 [(.b false)] h232⟩)⟩)⟩) (@hid _ ⟨j239 [(.b false)] h232⟩)⟩)⟩) (@hid _ ⟨j239 [(.b false)] h232⟩)⟩)⟩)⟩) (@hid _ ⟨j239 [(.b false)] h232⟩)⟩)⟩)⟩) (@hid _ ⟨j239 [(.b false)] h232⟩)⟩)⟩)⟩)⟩)⟩) (@hid _ ⟨fun j263 => A.cond t230 (@hid _ ⟨j263 [(.i 7)] h227⟩) (@hid _ ⟨j263 [(.i 0)] h227⟩)⟩)⟩)⟩)⟩)⟩)⟩)⟩)⟩)⟩)⟩)⟩)⟩)⟩)⟩)⟩)⟩)⟩)⟩)⟩)⟩)⟩)⟩)⟩)⟩)⟩)⟩)⟩)⟩)⟩)⟩)⟩)⟩)⟩)⟩)⟩)
end Go.Am

/-
 CornersAll: what is run.
-/
set_option maxRecDepth 100000
set_option maxHeartbeats 4000000
namespace Go.Am
open Sx Go.Proofs
noncomputable def okr9 (w v : Nat) : Bool := nq (ft9 (BA ac ab (runF 60)) [.i (.ofNat w), .i (.ofNat v)] .empty (fun a b x e n _ => ans (eqZK a (.ofNat w) && (eqZK b (.ofNat v) && (eqZK e 0 && (match lenS x, capS x with
 | some l, some c => eqZK l n && eqZK c n
 | _, _ => false))))) (fun _ _ => none))
noncomputable def qV (w : Nat) : Bool := (List.range 5).all fun v => okr9 w (v + 1) && tab10 w (v + 1)
end Go.Am

