/-
  PART 7 OF THE PROOF: Ph1 Ph2 Pq Gp Hx1 Hx2 E1 Sx15 E0 E2 E3 Hx3 E4 E5 E9 E6 E7 E8 Cd1 Cs1 (no conditions).
-/
import Derived.Test.YtdfpmkmlomjonaaGreatDoorA6
set_option linter.unusedSectionVars false
set_option linter.unusedSimpArgs false
set_option linter.unusedVariables false
set_option linter.constructorNameAsVariable false
set_option linter.defProp false
/-
 THE ALGEBRA OF PROPOSITIONS OVER THE HEAPS OF RUNS; what a run shows holds in it.
-/
namespace Go.Am
namespace Sx
section
variable [Val] [Kno]
def peekH (T : Nat → Site) (f : Pk) (h : HL) (K : List Value → Prop) : Prop := ∃ cs, f.run (getH T h) = some cs ∧ K cs
def heapH (T : Nat → Site) (f : Hp) (h : HL) (K : List Value → HL → Prop) : Prop := ∃ acts cs, f.run (getH T h) h.length = some (acts, cs) ∧ K cs (fF h acts)
def callH (C : Cfg) (Sg : FuncId → Option Sig) (T : Nat → Site) (g : FuncId) (ls : List Lf) (h : HL) (K : List Lf → HL → Prop) : Prop := ∃ rs h', aJ C Sg g ls (absH T h) rs (absH T h') ∧ K rs h'
def callvH (C : Cfg) (T : Nat → Site) (v : Value) (args : List Value) (hs : List SK) (h : HL) (K : List Lf → HL → Prop) : Prop := ∃ rs h', rC C v args hs (absH T h) rs (absH T h') ∧ K rs h'
noncomputable def itH (F : (List Lf → HL → Prop) → List Lf → HL → Prop) (n : Nat) : List Lf → HL → Prop :=
 match n with
 | 0 => fun _ _ => False
 | n + 1 => F (itH F n)
def loopH (F : (List Lf → HL → Prop) → List Lf → HL → Prop) (ls : List Lf) (h : HL) : Prop := ∃ n, itH F n ls h
def rfunH (C : Cfg) (T : Nat → Site) (κ : Nat) (v : Value) (vals : List Value) (h : HL) (K : Option Code → HL → Prop) : Prop :=
 ∃ g first cap r H1 lp h2, v = .func (.func g) first cap ∧
  fk C g (first.toList ++ [.func (.yield (absH T h).length) #[] #[]] ++ cap.toList) (absH T h ++ [.loop (lpOf (T κ) κ vals)]) r H1 ∧
  dl H1 (absH T h).length = some lp ∧ lp.state ≠ .busy ∧ absH T h2 = H1.set (absH T h).length (.loop { lp with state := .exhausted }) ∧ K lp.pending h2
def lp1H (T : Nat → Site) (l : Nat) (h : HL) (K : HL → Prop) : Prop := ∃ lp h', dl (absH T h) l = some lp ∧ lp.state = .ready ∧ absH T h' = (absH T h).set l (.loop { lp with state := .busy }) ∧ K h'
def lp2H (T : Nat → Site) (l : Nat) (j : Option Code) (h : HL) (K : HL → Prop) : Prop := ∃ lp h', dl (absH T h) l = some lp ∧ absH T h' = (absH T h).set l (.loop { lp with state := if j.isNone then .ready else .done, pending := j }) ∧ K h'
noncomputable def PH (C : Cfg) (Sg : FuncId → Option Sig) (T : Nat → Site) : Alg Prop HL where
 fail := False
 cond := condP
 ari := ariP
 shf := fun op k a k' b K => ∃ n, ShRun op k a k' b n ∧ K n
 cmp := cmpP
 eqs := fun l K => K (cu l)
 conv := fun k a K => K (k.wrap a)
 sel := fun t a b K => K (if t then a else b)
 opt := optP
 chk := fun v K => bP v = true ∧ K
 unI := unIP
 unB := unBP
 unV := unVP
 un0 := un0P
 ucI := ucIP
 ucB := ucBP
 ucV := ucVP
 uc0 := uc0P
 peek := peekH T
 heap := heapH T
 new := fun o h K => K h.length (h ++ [.o o])
 call := callH C Sg T
 callv := callvH C T
 join := fun b m => m b
 loop := loopH
 rfun := rfunH C T
 pend := pendP
 lp1 := lp1H T
 lp2 := lp2H T
theorem PH_ok (C : Cfg) (Sg : FuncId → Option Sig) (T : Nat → Site) : AlgOk (PH C Sg T) C Sg T id (absH T) where
 fail := (ej C Sg T).fail
 cond := (ej C Sg T).cond
 ari := (ej C Sg T).ari
 shf := (ej C Sg T).shf
 cmp := (ej C Sg T).cmp
 eqs := (ej C Sg T).eqs
 conv := (ej C Sg T).conv
 sel := (ej C Sg T).sel
 opt := (ej C Sg T).opt
 chk := (ej C Sg T).chk
 unI := (ej C Sg T).unI
 unB := (ej C Sg T).unB
 unV := (ej C Sg T).unV
 un0 := (ej C Sg T).un0
 ucI := (ej C Sg T).ucI
 ucB := (ej C Sg T).ucB
 ucV := (ej C Sg T).ucV
 uc0 := (ej C Sg T).uc0
 peek := by
  intro f h K hk
  obtain ⟨cs, h1, h2⟩ := hk
  exact ⟨cs, by rw [← jy]; exact h1, h2⟩
 heap := by
  intro f h K hk
  obtain ⟨acts, cs, h1, h2⟩ := hk
  exact ⟨acts, cs, _, by rw [← jy, dR]; exact h1, gJ T acts h, h2⟩
 new := fun o h K hk => ⟨_, fP T h _, by rw [dR]; exact hk⟩
 call := fun g ls h K hk => hk
 callv := fun v args hs h K hk => hk
 join := fun b m h => h
 loop := by
  intro F ls h hk
  obtain ⟨n, hk⟩ := hk
  exact ⟨itH F, fun ls h => (id : False → False), fun n ls h => rfl, n, hk⟩
 rfun := fun κ v vals h K hk => hk
 pend := (ej C Sg T).pend
 lp1 := fun l h K hk => hk
 lp2 := fun l j h K hk => hk
section
variable {C : Cfg} {Sg : FuncId → Option Sig} {T : Nat → Site} {call : aa} (hc : CallBOk C Sg T call)
include hc
inductive SL2 : List (Nat × RT) → List (Nat × Prop) → Prop
 |nil : SL2 [] []
 |cons {id : Nat} {x : RT} {x' : Prop} {l : List (Nat × RT)} {l' : List (Nat × Prop)} (hx : x = yes → x') (hl : SL2 l l') : SL2 ((id, x) :: l) ((id, x') :: l')
omit hc in
end
theorem pV {F : (List Lf → HL → Prop) → List Lf → HL → Prop} (Inv : Nat → List Lf → HL → Prop)
  (step : ∀ m ls h, Inv m ls h → ∀ self : List Lf → HL → Prop, (∀ m' ls h, m' < m → Inv m' ls h → self ls h) → F self ls h) : ∀ n m ls h, m < n → Inv m ls h → itH F n ls h
 | 0, _, _, _, hm, _ => absurd hm (Nat.not_lt_zero _)
 | n + 1, m, ls, h, hm, hi => step m ls h hi (itH F n) fun m' ls h h' hi' => pV Inv step n m' ls h (by omega) hi'
theorem rj {F : (List Lf → HL → Prop) → List Lf → HL → Prop} (Inv : Nat → List Lf → HL → Prop) {m : Nat} {ls : List Lf} {h : HL} (hi : Inv m ls h)
  (step : ∀ m ls h, Inv m ls h → ∀ self : List Lf → HL → Prop, (∀ m' ls h, m' < m → Inv m' ls h → self ls h) → F self ls h) : loopH F ls h :=
 ⟨m + 1, pV Inv step (m + 1) m ls h (Nat.lt_succ_self m) hi⟩
end
end Sx
end Go.Am

/-
 THE ALGEBRA OF PROPOSITIONS, its rules as equations: a step each.
-/
namespace Go.Am
namespace Sx
class Bx (α : Sort _) where
 v : α
noncomputable def hid {α : Sort _} [b : Bx α] : α := b.v
section
variable [Val] [Kno] {C : Cfg} {Sg : FuncId → Option Sig} {T : Nat → Site}
theorem b_unI {n : Int} {r : List Lf} {K : Int → List Lf → Prop} : (PH C Sg T).unI (.i n :: r) K = K n r := rfl
theorem b_unB {n : Bool} {r : List Lf} {K : Bool → List Lf → Prop} : (PH C Sg T).unB (.b n :: r) K = K n r := rfl
theorem b_unV {n : Value} {r : List Lf} {K : Value → List Lf → Prop} : (PH C Sg T).unV (.v n :: r) K = K n r := rfl
theorem b_un0 {K : Prop} : (PH C Sg T).un0 [] K = K := rfl
theorem b_ucI {k : IntKind} {n : Int} {r : List Value} {K : Int → List Value → Prop} : (PH C Sg T).ucI k (.int k n :: r) K = K n r := by
 show (k = k ∧ K n r) = K n r
 simp
theorem b_ucB {n : Bool} {r : List Value} {K : Bool → List Value → Prop} : (PH C Sg T).ucB (.bool n :: r) K = K n r := rfl
theorem b_ucV {n : Value} {r : List Value} {K : Value → List Value → Prop} : (PH C Sg T).ucV (n :: r) K = K n r := rfl
theorem b_uc0 {K : Prop} : (PH C Sg T).uc0 [] K = K := rfl
theorem b_cond_t {X Y : Prop} : (PH C Sg T).cond true X Y = X := by
 show ((true = true → X) ∧ (true = false → Y)) = X
 simp
theorem b_cond_f {X Y : Prop} : (PH C Sg T).cond false X Y = Y := by
 show ((false = true → X) ∧ (false = false → Y)) = Y
 simp
theorem b_lss_t {a b : Int} {K : Bool → Prop} (h : a < b) : (PH C Sg T).cmp .lss a b K = K true := by
 show K (decide (a < b)) = _; rw [decide_eq_true h]
theorem b_lss_f {a b : Int} {K : Bool → Prop} (h : b ≤ a) : (PH C Sg T).cmp .lss a b K = K false := by
 show K (decide (a < b)) = _; rw [decide_eq_false (by omega)]
theorem b_leq_t {a b : Int} {K : Bool → Prop} (h : a ≤ b) : (PH C Sg T).cmp .leq a b K = K true := by
 show K (decide (a ≤ b)) = _; rw [decide_eq_true h]
theorem b_leq_f {a b : Int} {K : Bool → Prop} (h : b < a) : (PH C Sg T).cmp .leq a b K = K false := by
 show K (decide (a ≤ b)) = _; rw [decide_eq_false (by omega)]
theorem b_gtr_t {a b : Int} {K : Bool → Prop} (h : b < a) : (PH C Sg T).cmp .gtr a b K = K true := by
 show K (decide (a > b)) = _; rw [decide_eq_true h]
theorem b_gtr_f {a b : Int} {K : Bool → Prop} (h : a ≤ b) : (PH C Sg T).cmp .gtr a b K = K false := by
 show K (decide (a > b)) = _; rw [decide_eq_false (by omega)]
theorem b_geq_t {a b : Int} {K : Bool → Prop} (h : b ≤ a) : (PH C Sg T).cmp .geq a b K = K true := by
 show K (decide (a ≥ b)) = _; rw [decide_eq_true h]
theorem b_geq_f {a b : Int} {K : Bool → Prop} (h : a < b) : (PH C Sg T).cmp .geq a b K = K false := by
 show K (decide (a ≥ b)) = _; rw [decide_eq_false (by omega)]
theorem b_eql_t {a b : Int} {K : Bool → Prop} (h : a = b) : (PH C Sg T).cmp .eql a b K = K true := by
 show K (a == b) = _; rw [beq_iff_eq.2 h]
theorem b_eql_f {a b : Int} {K : Bool → Prop} (h : a ≠ b) : (PH C Sg T).cmp .eql a b K = K false := by
 show K (a == b) = _; rw [beq_false_of_ne h]
theorem b_neq_t {a b : Int} {K : Bool → Prop} (h : a ≠ b) : (PH C Sg T).cmp .neq a b K = K true := by
 show K (a != b) = _; rw [bne_iff_ne.2 h]
theorem b_neq_f {a b : Int} {K : Bool → Prop} (h : a = b) : (PH C Sg T).cmp .neq a b K = K false := by
 show K (a != b) = _; subst h; simp
theorem b_add {a b : Int} {K : Int → Prop} (h1 : -9223372036854775808 ≤ a + b) (h2 : a + b ≤ 9223372036854775807) : (PH C Sg T).ari .add .i64 a b K = K (a + b) := by
 show K (IntKind.wrap .i64 (a + b)) = _; rw [ch h1 h2]
theorem b_sub {a b : Int} {K : Int → Prop} (h1 : -9223372036854775808 ≤ a - b) (h2 : a - b ≤ 9223372036854775807) : (PH C Sg T).ari .sub .i64 a b K = K (a - b) := by
 show K (IntKind.wrap .i64 (a - b)) = _; rw [ch h1 h2]
theorem b_mul {a b : Int} {K : Int → Prop} (h1 : -9223372036854775808 ≤ a * b) (h2 : a * b ≤ 9223372036854775807) : (PH C Sg T).ari .mul .i64 a b K = K (a * b) := by
 show K (IntKind.wrap .i64 (a * b)) = _; rw [ch h1 h2]
theorem b_add8 {a b : Int} {K : Int → Prop} (h1 : 0 ≤ a + b) (h2 : a + b ≤ 255) : (PH C Sg T).ari .add .u8 a b K = K (a + b) := by
 show K (IntKind.wrap .u8 (a + b)) = _; rw [lW h1 h2]
theorem b_sub8 {a b : Int} {K : Int → Prop} (h1 : 0 ≤ a - b) (h2 : a - b ≤ 255) : (PH C Sg T).ari .sub .u8 a b K = K (a - b) := by
 show K (IntKind.wrap .u8 (a - b)) = _; rw [lW h1 h2]
theorem b_mul8 {a b : Int} {K : Int → Prop} (h1 : 0 ≤ a * b) (h2 : a * b ≤ 255) : (PH C Sg T).ari .mul .u8 a b K = K (a * b) := by
 show K (IntKind.wrap .u8 (a * b)) = _; rw [lW h1 h2]
theorem tdiv_nn {a b : Int} (h : 0 ≤ a) : a.tdiv b = a / b := Int.tdiv_eq_ediv_of_nonneg h
theorem b_quo_nn {a b : Int} {K : Int → Prop} (h : 0 ≤ a) (hb : 0 < b) (h2 : a ≤ 9223372036854775807) : (PH C Sg T).ari .quo .i64 a b K = K (a / b) := by
 show (b ≠ 0 ∧ K (IntKind.wrap .i64 (a.tdiv b))) = _
 have h3 : a / b ≤ a := Int.ediv_le_self b h
 have h4 : 0 ≤ a / b := Int.ediv_nonneg h (by omega)
 rw [tdiv_nn h, ch (by omega) (by omega)]
 simp; intro _ h; omega
theorem b_quo_dv {a b : Int} {K : Int → Prop} (h : a % b = 0) (hb : 0 < b) (h1 : -9223372036854775808 ≤ a) (h2 : a ≤ 9223372036854775807) : (PH C Sg T).ari .quo .i64 a b K = K (a / b) := by
 show (b ≠ 0 ∧ K (IntKind.wrap .i64 (a.tdiv b))) = _
 obtain ⟨q, rfl⟩ := Int.dvd_of_emod_eq_zero h
 rw [Int.mul_tdiv_cancel_left q (by omega), Int.mul_ediv_cancel_left q (by omega)]
 have hq : -9223372036854775808 ≤ q ∧ q ≤ 9223372036854775807 := by
  rcases Int.le_total 0 q with hs | hs
  ·have := Int.mul_le_mul_of_nonneg_right (show (1 : Int) ≤ b by omega) hs
   omega
  ·have := Int.mul_le_mul_of_nonneg_right (show (1 : Int) ≤ b by omega) (show 0 ≤ -q by omega)
   rw [Int.mul_neg b q] at this
   omega
 rw [ch hq.1 hq.2]
 simp; intro _ h; omega
theorem b_rem_nn {k : IntKind} {a b : Int} {K : Int → Prop} (h : 0 ≤ a) (hb : 0 < b) : (PH C Sg T).ari .rem k a b K = K (a % b) := by
 show (b ≠ 0 ∧ K (a.tmod b)) = _
 rw [Int.tmod_eq_emod_of_nonneg h]
 simp; intro _ h; omega
theorem b_rem_np {k : IntKind} {a b : Int} {K : Int → Prop} (h : a ≤ 0) (hb : 0 < b) : (PH C Sg T).ari .rem k a b K = K (-((-a) % b)) := by
 show (b ≠ 0 ∧ K (a.tmod b)) = _
 have : a.tmod b = -((-a) % b) := by
  have h1 := Int.neg_tmod a b
  rw [Int.tmod_eq_emod_of_nonneg (a := -a) (by omega)] at h1
  omega
 rw [this]
 simp; intro _ h; omega
theorem b_and1 {a : Int} {K : Int → Prop} : (PH C Sg T).ari .and .i64 a 1 K = K (a % 2) := by
 show (((1 : Int) = 1 ∧ K (a % 2)) ∨ ((1 : Int) ≠ 1 ∧ ∃ n, oU .and .i64 a 1 n ∧ K n)) = K (a % 2)
 simp
theorem b_conv {a : Int} {K : Int → Prop} (h1 : -9223372036854775808 ≤ a) (h2 : a ≤ 9223372036854775807) : (PH C Sg T).conv .i64 a K = K a := by
 show K (IntKind.wrap .i64 a) = _; rw [ch h1 h2]
theorem b_conv8 {a : Int} {K : Int → Prop} (h1 : 0 ≤ a) (h2 : a ≤ 255) : (PH C Sg T).conv .u8 a K = K a := by
 show K (IntKind.wrap .u8 a) = _; rw [lW h1 h2]
theorem b_sel_t {a b : Int} {K : Int → Prop} : (PH C Sg T).sel true a b K = K a := rfl
theorem b_sel_f {a b : Int} {K : Int → Prop} : (PH C Sg T).sel false a b K = K b := rfl
theorem b_opt {α : Type} {x : α} {K : α → Prop} : (PH C Sg T).opt (some x) K = K x := by
 show (∃ y, some x = some y ∧ K y) = K x
 simp
theorem b_inB {n : Nat} {i : Int} {K : Unit → Prop} (h1 : 0 ≤ i) (h2 : i < (n : Int)) : (PH C Sg T).opt (inB n i) K = K () := by
 rw [show inB n i = some () from (inB_eq n i).trans (if_pos ⟨h1, h2⟩), b_opt]
theorem b_join {b : List Lf → HL → Prop} {m : (List Lf → HL → Prop) → Prop} : (PH C Sg T).join b m = m b := rfl
theorem b_eqs0 {K : Bool → Prop} : (PH C Sg T).eqs [] K = K true := rfl
theorem b_eqs_t {a b : Int} {l : List (Lf × Lf)} {K : Bool → Prop} (h : a = b) : (PH C Sg T).eqs ((.i a, .i b) :: l) K = (PH C Sg T).eqs l K := by
 show K (cu _) = K (cu l)
 subst h
 simp [cu, gn]
theorem b_eqs_f {a b : Int} {l : List (Lf × Lf)} {K : Bool → Prop} (h : a ≠ b) : (PH C Sg T).eqs ((.i a, .i b) :: l) K = K false := by
 show K (cu _) = K false
 have : (a == b) = false := beq_false_of_ne h
 simp [cu, gn, this]
theorem b_it {F : (List Lf → HL → Prop) → List Lf → HL → Prop} {n : Nat} {ls : List Lf} {h : HL} : itH F (n + 1) ls h = F (itH F n) ls h := rfl
theorem br {g : FuncId} {ls rs : List Lf} {h : HL} {K : List Lf → HL → Prop} (hc : ∀ H, aJ C Sg g ls H rs H) (hk : K rs h) : (PH C Sg T).call g ls h (@hid _ ⟨K⟩) := ⟨rs, h, hc _, hk⟩
theorem b_eqsb_t {a b : Bool} {l : List (Lf × Lf)} {K : Bool → Prop} (h : a = b) : (PH C Sg T).eqs ((.b a, .b b) :: l) K = (PH C Sg T).eqs l K := by
 show K (cu _) = K (cu l)
 subst h
 simp [cu, gn]
theorem b_eqsb_tf {l : List (Lf × Lf)} {K : Bool → Prop} : (PH C Sg T).eqs ((.b true, .b false) :: l) K = K false := rfl
theorem b_eqsb_ft {l : List (Lf × Lf)} {K : Bool → Prop} : (PH C Sg T).eqs ((.b false, .b true) :: l) K = K false := rfl
theorem b_mul_1 {b : Int} {K : Int → Prop} (h1 : -9223372036854775808 ≤ b) (h2 : b ≤ 9223372036854775807) : (PH C Sg T).ari .mul .i64 1 b K = K b := by
 show K (IntKind.wrap .i64 (1 * b)) = _; rw [Int.one_mul, ch h1 h2]
theorem b_mul_0 {b : Int} {K : Int → Prop} : (PH C Sg T).ari .mul .i64 0 b K = K 0 := by
 show K (IntKind.wrap .i64 (0 * b)) = _; rw [Int.zero_mul]; rfl
theorem b_mul_m {b : Int} {K : Int → Prop} (h1 : -9223372036854775808 ≤ -b) (h2 : -b ≤ 9223372036854775807) : (PH C Sg T).ari .mul .i64 (-1) b K = K (-b) := by
 show K (IntKind.wrap .i64 (-1 * b)) = _
 have : (-1 * b : Int) = -b := by omega
 rw [this, ch h1 h2]
theorem b_mul_r1 {b : Int} {K : Int → Prop} (h1 : -9223372036854775808 ≤ b) (h2 : b ≤ 9223372036854775807) : (PH C Sg T).ari .mul .i64 b 1 K = K b := by
 show K (IntKind.wrap .i64 (b * 1)) = _; rw [Int.mul_one, ch h1 h2]
theorem b_mul_r0 {b : Int} {K : Int → Prop} : (PH C Sg T).ari .mul .i64 b 0 K = K 0 := by
 show K (IntKind.wrap .i64 (b * 0)) = _; rw [Int.mul_zero]; rfl
theorem b_mul_rm {b : Int} {K : Int → Prop} (h1 : -9223372036854775808 ≤ -b) (h2 : -b ≤ 9223372036854775807) : (PH C Sg T).ari .mul .i64 b (-1) K = K (-b) := by
 show K (IntKind.wrap .i64 (b * -1)) = _
 have : (b * -1 : Int) = -b := by omega
 rw [this, ch h1 h2]
theorem b_add_0 {b : Int} {K : Int → Prop} (h1 : -9223372036854775808 ≤ b) (h2 : b ≤ 9223372036854775807) : (PH C Sg T).ari .add .i64 0 b K = K b := by
 show K (IntKind.wrap .i64 (0 + b)) = _; rw [Int.zero_add, ch h1 h2]
theorem b_add_r0 {b : Int} {K : Int → Prop} (h1 : -9223372036854775808 ≤ b) (h2 : b ≤ 9223372036854775807) : (PH C Sg T).ari .add .i64 b 0 K = K b := by
 show K (IntKind.wrap .i64 (b + 0)) = _; rw [Int.add_zero, ch h1 h2]
theorem b_add_11 {K : Int → Prop} : (PH C Sg T).ari .add .i64 1 1 K = K 2 := by
 show K (IntKind.wrap .i64 (1 + 1)) = _; rfl
theorem b_quo_1 {a : Int} {K : Int → Prop} (h1 : -9223372036854775808 ≤ a) (h2 : a ≤ 9223372036854775807) : (PH C Sg T).ari .quo .i64 a 1 K = K a := by
 show ((1 : Int) ≠ 0 ∧ K (IntKind.wrap .i64 (a.tdiv 1))) = _
 rw [Int.tdiv_one, ch h1 h2]; simp
theorem gS {α : Type} {o : Option α} {x : α} {K : α → Prop} (h : o = some x) (hk : K x) : (PH C Sg T).opt o (@hid _ ⟨K⟩) := ⟨x, h, hk⟩
theorem p_unI {n : Int} {r : List Lf} {K : Int → List Lf → Prop} : (PH C Sg T).unI (.i n :: r) (@hid _ ⟨K⟩) = K n r := b_unI
theorem p_unB {n : Bool} {r : List Lf} {K : Bool → List Lf → Prop} : (PH C Sg T).unB (.b n :: r) (@hid _ ⟨K⟩) = K n r := b_unB
theorem p_unV {n : Value} {r : List Lf} {K : Value → List Lf → Prop} : (PH C Sg T).unV (.v n :: r) (@hid _ ⟨K⟩) = K n r := b_unV
theorem p_un0 {K : Prop} : (PH C Sg T).un0 [] (@hid _ ⟨K⟩) = K := b_un0
theorem p_ucI {k : IntKind} {n : Int} {r : List Value} {K : Int → List Value → Prop} : (PH C Sg T).ucI k (.int k n :: r) (@hid _ ⟨K⟩) = K n r := b_ucI
theorem p_ucB {n : Bool} {r : List Value} {K : Bool → List Value → Prop} : (PH C Sg T).ucB (.bool n :: r) (@hid _ ⟨K⟩) = K n r := b_ucB
theorem p_ucV {n : Value} {r : List Value} {K : Value → List Value → Prop} : (PH C Sg T).ucV (n :: r) (@hid _ ⟨K⟩) = K n r := b_ucV
theorem p_uc0 {K : Prop} : (PH C Sg T).uc0 [] (@hid _ ⟨K⟩) = K := b_uc0
theorem p_cond_t {X Y : Prop} : (PH C Sg T).cond true (@hid _ ⟨X⟩) Y = X := b_cond_t
theorem p_cond_f {X Y : Prop} : (PH C Sg T).cond false X (@hid _ ⟨Y⟩) = Y := b_cond_f
theorem p_lss_t {a b : Int} {K : Bool → Prop} (h : a < b) : (PH C Sg T).cmp .lss a b (@hid _ ⟨K⟩) = K true := b_lss_t h
theorem p_lss_f {a b : Int} {K : Bool → Prop} (h : b ≤ a) : (PH C Sg T).cmp .lss a b (@hid _ ⟨K⟩) = K false := b_lss_f h
theorem p_leq_t {a b : Int} {K : Bool → Prop} (h : a ≤ b) : (PH C Sg T).cmp .leq a b (@hid _ ⟨K⟩) = K true := b_leq_t h
theorem p_leq_f {a b : Int} {K : Bool → Prop} (h : b < a) : (PH C Sg T).cmp .leq a b (@hid _ ⟨K⟩) = K false := b_leq_f h
theorem p_gtr_t {a b : Int} {K : Bool → Prop} (h : b < a) : (PH C Sg T).cmp .gtr a b (@hid _ ⟨K⟩) = K true := b_gtr_t h
theorem p_gtr_f {a b : Int} {K : Bool → Prop} (h : a ≤ b) : (PH C Sg T).cmp .gtr a b (@hid _ ⟨K⟩) = K false := b_gtr_f h
theorem p_geq_t {a b : Int} {K : Bool → Prop} (h : b ≤ a) : (PH C Sg T).cmp .geq a b (@hid _ ⟨K⟩) = K true := b_geq_t h
theorem p_geq_f {a b : Int} {K : Bool → Prop} (h : a < b) : (PH C Sg T).cmp .geq a b (@hid _ ⟨K⟩) = K false := b_geq_f h
theorem p_eql_t {a b : Int} {K : Bool → Prop} (h : a = b) : (PH C Sg T).cmp .eql a b (@hid _ ⟨K⟩) = K true := b_eql_t h
theorem p_eql_f {a b : Int} {K : Bool → Prop} (h : a ≠ b) : (PH C Sg T).cmp .eql a b (@hid _ ⟨K⟩) = K false := b_eql_f h
theorem p_neq_t {a b : Int} {K : Bool → Prop} (h : a ≠ b) : (PH C Sg T).cmp .neq a b (@hid _ ⟨K⟩) = K true := b_neq_t h
theorem p_neq_f {a b : Int} {K : Bool → Prop} (h : a = b) : (PH C Sg T).cmp .neq a b (@hid _ ⟨K⟩) = K false := b_neq_f h
theorem p_add {a b : Int} {K : Int → Prop} (h1 : -9223372036854775808 ≤ a + b) (h2 : a + b ≤ 9223372036854775807) : (PH C Sg T).ari .add .i64 a b (@hid _ ⟨K⟩) = K (a + b) := b_add h1 h2
theorem p_sub {a b : Int} {K : Int → Prop} (h1 : -9223372036854775808 ≤ a - b) (h2 : a - b ≤ 9223372036854775807) : (PH C Sg T).ari .sub .i64 a b (@hid _ ⟨K⟩) = K (a - b) := b_sub h1 h2
theorem p_mul {a b : Int} {K : Int → Prop} (h1 : -9223372036854775808 ≤ a * b) (h2 : a * b ≤ 9223372036854775807) : (PH C Sg T).ari .mul .i64 a b (@hid _ ⟨K⟩) = K (a * b) := b_mul h1 h2
theorem p_add8 {a b : Int} {K : Int → Prop} (h1 : 0 ≤ a + b) (h2 : a + b ≤ 255) : (PH C Sg T).ari .add .u8 a b (@hid _ ⟨K⟩) = K (a + b) := b_add8 h1 h2
theorem p_sub8 {a b : Int} {K : Int → Prop} (h1 : 0 ≤ a - b) (h2 : a - b ≤ 255) : (PH C Sg T).ari .sub .u8 a b (@hid _ ⟨K⟩) = K (a - b) := b_sub8 h1 h2
theorem p_mul8 {a b : Int} {K : Int → Prop} (h1 : 0 ≤ a * b) (h2 : a * b ≤ 255) : (PH C Sg T).ari .mul .u8 a b (@hid _ ⟨K⟩) = K (a * b) := b_mul8 h1 h2
theorem p_quo_nn {a b : Int} {K : Int → Prop} (h : 0 ≤ a) (hb : 0 < b) (h2 : a ≤ 9223372036854775807) : (PH C Sg T).ari .quo .i64 a b (@hid _ ⟨K⟩) = K (a / b) := b_quo_nn h hb h2
theorem p_quo_dv {a b : Int} {K : Int → Prop} (h : a % b = 0) (hb : 0 < b) (h1 : -9223372036854775808 ≤ a) (h2 : a ≤ 9223372036854775807) : (PH C Sg T).ari .quo .i64 a b (@hid _ ⟨K⟩) = K (a / b) := b_quo_dv h hb h1 h2
theorem p_rem_nn {k : IntKind} {a b : Int} {K : Int → Prop} (h : 0 ≤ a) (hb : 0 < b) : (PH C Sg T).ari .rem k a b (@hid _ ⟨K⟩) = K (a % b) := b_rem_nn h hb
theorem p_rem_np {k : IntKind} {a b : Int} {K : Int → Prop} (h : a ≤ 0) (hb : 0 < b) : (PH C Sg T).ari .rem k a b (@hid _ ⟨K⟩) = K (-((-a) % b)) := b_rem_np h hb
theorem p_and1 {a : Int} {K : Int → Prop} : (PH C Sg T).ari .and .i64 a 1 (@hid _ ⟨K⟩) = K (a % 2) := b_and1
theorem p_conv {a : Int} {K : Int → Prop} (h1 : -9223372036854775808 ≤ a) (h2 : a ≤ 9223372036854775807) : (PH C Sg T).conv .i64 a (@hid _ ⟨K⟩) = K a := b_conv h1 h2
theorem p_conv8 {a : Int} {K : Int → Prop} (h1 : 0 ≤ a) (h2 : a ≤ 255) : (PH C Sg T).conv .u8 a (@hid _ ⟨K⟩) = K a := b_conv8 h1 h2
theorem p_sel_t {a b : Int} {K : Int → Prop} : (PH C Sg T).sel true a b (@hid _ ⟨K⟩) = K a := b_sel_t
theorem p_sel_f {a b : Int} {K : Int → Prop} : (PH C Sg T).sel false a b (@hid _ ⟨K⟩) = K b := b_sel_f
theorem p_opt {α : Type} {x : α} {K : α → Prop} : (PH C Sg T).opt (some x) (@hid _ ⟨K⟩) = K x := b_opt
theorem p_inB {n : Nat} {i : Int} {K : Unit → Prop} (h1 : 0 ≤ i) (h2 : i < (n : Int)) : (PH C Sg T).opt (inB n i) (@hid _ ⟨K⟩) = K () := b_inB h1 h2
theorem p_join {b : List Lf → HL → Prop} {m : (List Lf → HL → Prop) → Prop} : (PH C Sg T).join (@hid _ ⟨b⟩) (@hid _ ⟨m⟩) = m (@hid _ ⟨b⟩) := b_join
theorem p_eqs0 {K : Bool → Prop} : (PH C Sg T).eqs [] (@hid _ ⟨K⟩) = K true := b_eqs0
theorem p_eqs_t {a b : Int} {l : List (Lf × Lf)} {K : Bool → Prop} (h : a = b) : (PH C Sg T).eqs ((.i a, .i b) :: l) (@hid _ ⟨K⟩) = (PH C Sg T).eqs l (@hid _ ⟨K⟩) := b_eqs_t h
theorem p_eqs_f {a b : Int} {l : List (Lf × Lf)} {K : Bool → Prop} (h : a ≠ b) : (PH C Sg T).eqs ((.i a, .i b) :: l) (@hid _ ⟨K⟩) = K false := b_eqs_f h
theorem p_it {F : (List Lf → HL → Prop) → List Lf → HL → Prop} {n : Nat} {ls : List Lf} {h : HL} : itH (@hid _ ⟨F⟩) (n + 1) ls h = F (itH (@hid _ ⟨F⟩) n) ls h := b_it
theorem p_eqsb_t {a b : Bool} {l : List (Lf × Lf)} {K : Bool → Prop} (h : a = b) : (PH C Sg T).eqs ((.b a, .b b) :: l) (@hid _ ⟨K⟩) = (PH C Sg T).eqs l (@hid _ ⟨K⟩) := b_eqsb_t h
theorem p_eqsb_tf {l : List (Lf × Lf)} {K : Bool → Prop} : (PH C Sg T).eqs ((.b true, .b false) :: l) (@hid _ ⟨K⟩) = K false := b_eqsb_tf
theorem p_eqsb_ft {l : List (Lf × Lf)} {K : Bool → Prop} : (PH C Sg T).eqs ((.b false, .b true) :: l) (@hid _ ⟨K⟩) = K false := b_eqsb_ft
theorem p_mul_1 {b : Int} {K : Int → Prop} (h1 : -9223372036854775808 ≤ b) (h2 : b ≤ 9223372036854775807) : (PH C Sg T).ari .mul .i64 1 b (@hid _ ⟨K⟩) = K b := b_mul_1 h1 h2
theorem p_mul_0 {b : Int} {K : Int → Prop} : (PH C Sg T).ari .mul .i64 0 b (@hid _ ⟨K⟩) = K 0 := b_mul_0
theorem p_mul_m {b : Int} {K : Int → Prop} (h1 : -9223372036854775808 ≤ -b) (h2 : -b ≤ 9223372036854775807) : (PH C Sg T).ari .mul .i64 (-1) b (@hid _ ⟨K⟩) = K (-b) := b_mul_m h1 h2
theorem p_mul_r1 {b : Int} {K : Int → Prop} (h1 : -9223372036854775808 ≤ b) (h2 : b ≤ 9223372036854775807) : (PH C Sg T).ari .mul .i64 b 1 (@hid _ ⟨K⟩) = K b := b_mul_r1 h1 h2
theorem p_mul_r0 {b : Int} {K : Int → Prop} : (PH C Sg T).ari .mul .i64 b 0 (@hid _ ⟨K⟩) = K 0 := b_mul_r0
theorem p_mul_rm {b : Int} {K : Int → Prop} (h1 : -9223372036854775808 ≤ -b) (h2 : -b ≤ 9223372036854775807) : (PH C Sg T).ari .mul .i64 b (-1) (@hid _ ⟨K⟩) = K (-b) := b_mul_rm h1 h2
theorem p_add_0 {b : Int} {K : Int → Prop} (h1 : -9223372036854775808 ≤ b) (h2 : b ≤ 9223372036854775807) : (PH C Sg T).ari .add .i64 0 b (@hid _ ⟨K⟩) = K b := b_add_0 h1 h2
theorem p_add_r0 {b : Int} {K : Int → Prop} (h1 : -9223372036854775808 ≤ b) (h2 : b ≤ 9223372036854775807) : (PH C Sg T).ari .add .i64 b 0 (@hid _ ⟨K⟩) = K b := b_add_r0 h1 h2
theorem p_add_11 {K : Int → Prop} : (PH C Sg T).ari .add .i64 1 1 (@hid _ ⟨K⟩) = K 2 := b_add_11
theorem p_quo_1 {a : Int} {K : Int → Prop} (h1 : -9223372036854775808 ≤ a) (h2 : a ≤ 9223372036854775807) : (PH C Sg T).ari .quo .i64 a 1 (@hid _ ⟨K⟩) = K a := b_quo_1 h1 h2
theorem p_hid2 {f : List Lf → HL → Prop} {a : List Lf} {b : HL} : @hid _ ⟨f⟩ a b = f a b := rfl
theorem p_eqs2_f {a b c d : Int} {K : Bool → Prop} (h : ¬ (a = c ∧ b = d)) : (PH C Sg T).eqs [(.i a, .i c), (.i b, .i d)] (@hid _ ⟨K⟩) = K false := by
 show K (cu _) = K false
 have : cu [(.i a, .i c), (.i b, .i d)] = false := by
  rw [Bool.eq_false_iff]
  simpa [cu, gn] using h
 rw [this]
theorem p_eqs3_f {a b c d e f : Int} {K : Bool → Prop} (h : ¬ (a = d ∧ b = e ∧ c = f)) : (PH C Sg T).eqs [(.i a, .i d), (.i b, .i e), (.i c, .i f)] (@hid _ ⟨K⟩) = K false := by
 show K (cu _) = K false
 have : cu [(.i a, .i d), (.i b, .i e), (.i c, .i f)] = false := by
  rw [Bool.eq_false_iff]
  simpa [cu, gn] using h
 rw [this]
theorem bz {g : FuncId} {ls rs : List Lf} {h h' : HL} {K : List Lf → HL → Prop} (hc : aJ C Sg g ls (absH T h) rs (absH T h')) (hk : K rs h') : (PH C Sg T).call g ls h (@hid _ ⟨K⟩) := ⟨rs, h', hc, hk⟩
theorem callv_ct {g : FuncId} {sg : Sig} {ls rs : List Lf} {H H' : List HObj} (hc : aJ C Sg g ls H rs H') (hs : Sg g = some sg) (xs : List S0) (h1 : bI xs sg.ps = true) (h2 : bH xs = ls) :
  rC C (.func (.func g) #[] #[]) (am xs) sg.rs H rs H' := by
 obtain ⟨sg', xs', ys, c1, c2, c3, c4⟩ := hc
 rw [hs] at c1
 cases c1
 obtain ⟨w1, _⟩ := cH c2.1 h1 (c2.2.1.trans h2.symm)
 rw [w1] at c4
 exact ⟨ys, c3, .inl ⟨g, #[], #[], rfl, by simpa using c4⟩⟩
theorem p_callv {v : Value} {args : List Value} {hs : List SK} {rs : List Lf} {h h' : HL} {K : List Lf → HL → Prop} (hc : rC C v args hs (absH T h) rs (absH T h')) (hk : K rs h') : (PH C Sg T).callv v args hs h (@hid _ ⟨K⟩) := ⟨rs, h', hc, hk⟩
theorem p_new {o : HObj} {h : HL} {K : Nat → HL → Prop} : (PH C Sg T).new o h (@hid _ ⟨K⟩) = K h.length (h ++ [.o o]) := rfl
theorem p_chk_r {v : Value} {K : Prop} (h : bP v = true) (hk : K) : (PH C Sg T).chk v (@hid _ ⟨K⟩) := ⟨h, hk⟩
theorem lL {f : Pk} {h : HL} {K : List Value → Prop} {cs : List Value} (e : f.run (getH T h) = some cs) (hk : K cs) : (PH C Sg T).peek f h (@hid _ ⟨K⟩) := ⟨cs, e, hk⟩
noncomputable def pxs (C : Cfg) (Sg : FuncId → Option Sig) (T : Nat → Site) := And.intro @p_hid2 (And.intro (@p_new _ _ C Sg T) (And.intro (@p_unI _ _ C Sg T) (And.intro (@p_unB _ _ C Sg T) (And.intro (@p_unV _ _ C Sg T) (And.intro (@p_un0 _ _ C Sg T) (And.intro (@p_ucI _ _ C Sg T) (And.intro (@p_ucB _ _ C Sg T) (And.intro (@p_ucV _ _ C Sg T) (And.intro (@p_uc0 _ _ C Sg T) (And.intro (@p_cond_t _ _ C Sg T) (And.intro (@p_cond_f _ _ C Sg T) (And.intro (@p_opt _ _ C Sg T) (And.intro (@p_inB _ _ C Sg T) (And.intro (@p_join _ _ C Sg T) (And.intro (@p_sel_t _ _ C Sg T) (And.intro (@p_sel_f _ _ C Sg T) ((@p_it))))))))))))))))))
noncomputable def pxc (C : Cfg) (Sg : FuncId → Option Sig) (T : Nat → Site) := And.intro (@p_lss_t _ _ C Sg T) (And.intro (@p_lss_f _ _ C Sg T) (And.intro (@p_leq_t _ _ C Sg T) (And.intro (@p_leq_f _ _ C Sg T) (And.intro (@p_gtr_t _ _ C Sg T) (And.intro (@p_gtr_f _ _ C Sg T) (And.intro (@p_geq_t _ _ C Sg T) (And.intro (@p_geq_f _ _ C Sg T) (And.intro (@p_eql_t _ _ C Sg T) (And.intro (@p_eql_f _ _ C Sg T) (And.intro (@p_neq_t _ _ C Sg T) (And.intro (@p_neq_f _ _ C Sg T) (And.intro (@p_eqs0 _ _ C Sg T) (And.intro (@p_eqs_t _ _ C Sg T) (And.intro (@p_eqs_f _ _ C Sg T) (And.intro (@p_eqs2_f _ _ C Sg T) (And.intro (@p_eqs3_f _ _ C Sg T) (And.intro (@p_eqsb_t _ _ C Sg T) (And.intro (@p_eqsb_tf _ _ C Sg T) ((@p_eqsb_ft _ _ C Sg T))))))))))))))))))))
noncomputable def pxa (C : Cfg) (Sg : FuncId → Option Sig) (T : Nat → Site) := And.intro (@p_mul_1 _ _ C Sg T) (And.intro (@p_mul_0 _ _ C Sg T) (And.intro (@p_mul_m _ _ C Sg T) (And.intro (@p_mul_r1 _ _ C Sg T) (And.intro (@p_mul_r0 _ _ C Sg T) (And.intro (@p_mul_rm _ _ C Sg T) (And.intro (@p_add_0 _ _ C Sg T) (And.intro (@p_add_r0 _ _ C Sg T) (And.intro (@p_add_11 _ _ C Sg T) (And.intro (@p_quo_1 _ _ C Sg T) (And.intro (@p_add _ _ C Sg T) (And.intro (@p_sub _ _ C Sg T) (And.intro (@p_mul _ _ C Sg T) (And.intro (@p_add8 _ _ C Sg T) (And.intro (@p_sub8 _ _ C Sg T) (And.intro (@p_mul8 _ _ C Sg T) (And.intro (@p_quo_nn _ _ C Sg T) (And.intro (@p_quo_dv _ _ C Sg T) (And.intro (@p_rem_nn _ _ C Sg T) (And.intro (@p_rem_np _ _ C Sg T) (And.intro (@p_and1 _ _ C Sg T) (And.intro (@p_conv _ _ C Sg T) ((@p_conv8 _ _ C Sg T)))))))))))))))))))))))
end
end Sx
end Go.Am

/-
 THE SEAT'S CALLS: what is known of them, and how it is shown (over the heaps of runs).
-/
set_option maxRecDepth 100000
namespace Go.Am
open Sx Go.Proofs
theorem gl_cell (g : Nat) (vs : List Value) (h : cc.G g = some vs) : vs.all aV = true := by
 unfold cc at h
 simp only at h
 split at h <;> first | (cases h; done) | (obtain rfl := Option.some.inj h; kernel_rfl)
noncomputable abbrev P1 : Alg Prop HL := PH cc ac ab
abbrev Cc (g : FuncId) (ls rs : List Lf) : Prop := ∀ H, aJ cc ac g ls H rs H
theorem fj {f : FuncId} {fn : Fn1} (hi : FnIs (xc f) ac f fn) {ls : List Lf} {H : HL} {K : List Lf → HL → Prop} (hls : aX ls = true)
  (h : av P1 (xc f) ac drN fn ls H K) : ∃ rs H', aJ cc ac f ls (absH ab H) rs (absH ab H') ∧ K rs H' := by
 obtain ⟨rs, h', a1, _, a3⟩ := mc (X := xc f) (holds := id) (abs := absH ab) (PH_ok cc ac ab) pR hi (da hls) h
 exact ⟨rs, h', a1, a3⟩
theorem gt {f : FuncId} {fn : Fn1} (hi : FnIs (xc f) ac f fn) {ls : List Lf} {H : HL} {K : List Lf → HL → Prop} (hls : ca ls)
  (h : av P1 (xc f) ac drN fn ls H K) : ∃ rs H', aJ cc ac f ls (absH ab H) rs (absH ab H') ∧ K rs H' := by
 obtain ⟨rs, h', a1, _, a3⟩ := mc (X := xc f) (holds := id) (abs := absH ab) (PH_ok cc ac ab) pR hi hls h
 exact ⟨rs, h', a1, a3⟩
theorem gls0 : ca [] := fun _ h => by cases h
theorem glsI {n : Int} {ls : List Lf} (h : ca ls) : ca (.i n :: ls) := fun l hl => by
 rcases List.mem_cons.1 hl with rfl | hl
 ·trivial
 ·exact h l hl
theorem glsV {x : Value} {ls : List Lf} (hx : bP x = true) (h : ca ls) : ca (.v x :: ls) := fun l hl => by
 rcases List.mem_cons.1 hl with rfl | hl
 ·exact hx
 ·exact h l hl
def qxs := pxs cc ac ab
def qxc := pxc cc ac ab
def qxa := pxa cc ac ab
end Go.Am

/-
 THE FUNCTIONS OVER THE ALGEBRA OF PROPOSITIONS, BY PROGRAM.
-/
set_option maxRecDepth 100000
namespace Go.Am
open Sx Go.Proofs
/-- crimp/crimplaw09.CornersErrors -/
def p7 (A : Alg Prop (HL)) (ls : List Lf) (h : HL) (K : List Lf → HL → Prop) : Prop := A.unI ls (@hid _ ⟨fun J e6 => A.unI e6 (@hid _ ⟨fun O e8 => A.unV e8 (@hid _ ⟨fun Q e9 => A.unI e9 (@hid _ ⟨fun n12 f0 => A.unI f0 (@hid _ ⟨fun V f1 => A.un0 f1 (@hid _ ⟨A.opt (lenS Q) (@hid _ ⟨fun f2 => A.cmp .gtr f2 20 (@hid _ ⟨fun f3 => A.cond f3 (@hid _ ⟨K [(.b true)] h⟩) (@hid _ ⟨A.call 27 [(.i J), (.i O)] h (@hid _ ⟨fun f4 h19 => A.unI f4 (@hid _ ⟨fun n20 f5 => A.un0 f5 (@hid _ ⟨A.cmp .eql n20 1 (@hid _ ⟨fun f6 => A.cond f6 (@hid _ ⟨A.cmp .gtr J 5 (@hid _ ⟨fun f8 => A.cond f8 (@hid _ ⟨K [(.b true)] h19⟩) (@hid _ ⟨A.cmp .gtr O 5 (@hid _ ⟨fun f9 => A.cond f9 (@hid _ ⟨K [(.b true)] h19⟩) (@hid _ ⟨A.call 11 [(.i J), (.i O)] h19 (@hid _ ⟨fun g0 g1 => A.unV g0 (@hid _ ⟨fun vX g2 => A.unI g2 (@hid _ ⟨fun d3 g3 => A.un0 g3 (@hid _ ⟨A.call 12 [(.i J), (.i O), (.i n12), (.i V)] g1 (@hid _ ⟨fun g4 h32 => A.unV g4 (@hid _ ⟨fun vY g5 => A.unI g5 (@hid _ ⟨fun g6 g8 => A.un0 g8 (@hid _ ⟨A.call 27 [(.i J), (.i O)] h32 (@hid _ ⟨fun g9 d1 => A.unI g9 (@hid _ ⟨fun n39 h0 => A.un0 h0 (@hid _ ⟨A.cmp .eql n39 0 (@hid _ ⟨fun h1 => A.cond h1 (@hid _ ⟨A.cmp .neq d3 1 (@hid _ ⟨fun h2 => A.cond h2 (@hid _ ⟨K [(.b false)] d1⟩) (@hid _ ⟨A.cmp .neq g6 1 (@hid _ ⟨fun h3 => A.cond h3 (@hid _ ⟨K [(.b false)] d1⟩) (@hid _ ⟨A.call 27 [(.i J), (.i O)] d1 (@hid _ ⟨fun h4 d4 => A.unI h4 (@hid _ ⟨fun n46 h5 => A.un0 h5 (@hid _ ⟨A.cmp .eql n46 1 (@hid _ ⟨fun h6 => A.cond h6 (@hid _ ⟨A.cmp .neq d3 0 (@hid _ ⟨fun h8 => A.cond h8 (@hid _ ⟨K [(.b false)] d4⟩) (@hid _ ⟨A.call 28 [(.i J), (.i O), (.v Q)] d4 (@hid _ ⟨fun h9 h51 => A.unI h9 (@hid _ ⟨fun n52 i0 => A.un0 i0 (@hid _ ⟨A.cmp .eql n52 0 (@hid _ ⟨fun i1 => A.cond i1 (@hid _ ⟨A.call 16 [] h51 (@hid _ ⟨fun i2 h56 => A.unB i2 (@hid _ ⟨fun i3 i4 => A.un0 i4 (@hid _ ⟨K [(.b i3)] h56⟩)⟩)⟩)⟩) (@hid _ ⟨A.call 19 [(.i J), (.i O), (.v Q), (.i n12), (.i V)] h51 (@hid _ ⟨fun i5 i6 => A.unV i5 (@hid _ ⟨fun vZ i8 => A.unI i8 (@hid _ ⟨fun n63 i9 => A.un0 i9 (@hid _ ⟨A.call 20 [(.i J), (.i O), (.v Q), (.i n12), (.i V)] i6 (@hid _ ⟨fun j0 j1 => A.unI j0 (@hid _ ⟨fun n67 j2 => A.unI j2 (@hid _ ⟨fun n69 j3 => A.un0 j3 (@hid _ ⟨A.call 21 [(.i J), (.i O), (.v Q), (.i n12), (.i V)] j1 (@hid _ ⟨fun j4 h72 => A.unB j4 (@hid _ ⟨fun v0 j5 => A.unI j5 (@hid _ ⟨fun n75 j6 => A.un0 j6 (@hid _ ⟨A.call 22 [(.i J), (.i O), (.v Q), (.i n12), (.i V)] h72 (@hid _ ⟨fun j7 a0 => A.unV j7 (@hid _ ⟨fun v1 j8 => A.unI j8 (@hid _ ⟨fun n81 j9 => A.un0 j9 (@hid _ ⟨A.join (@hid _ ⟨fun k0 k1 => A.unB k0 (@hid _ ⟨fun k2 k3 => A.un0 k3 (@hid _ ⟨K [(.b k2)] k1⟩)⟩)⟩) (@hid _ ⟨fun a1 => A.cmp .eql n63 n52 (@hid _ ⟨fun k4 => A.cond k4 (@hid _ ⟨A.cmp .eql n69 n52 (@hid _ ⟨fun k5 => A.cond k5 (@hid _ ⟨A.cmp .eql n75 n52 (@hid _ ⟨fun k6 => A.cond k6 (@hid _ ⟨A.cmp .eql n81 n52 (@hid _ ⟨fun k7 => A.cond k7 (@hid _ ⟨A.call 16 [] a0 (@hid _ ⟨fun k8 h93 => A.unB k8 (@hid _ ⟨fun k9 l0 => A.un0 l0 (@hid _ ⟨a1 [(.b k9)] h93⟩)⟩)⟩)⟩) (@hid _ ⟨a1 [(.b false)] a0⟩)⟩)⟩) (@hid _ ⟨a1 [(.b false)] a0⟩)⟩)⟩) (@hid _ ⟨a1 [(.b false)] a0⟩)⟩)⟩) (@hid _ ⟨a1 [(.b false)] a0⟩)⟩)⟩)⟩)⟩)⟩)⟩)⟩)⟩)⟩)⟩)⟩)⟩)⟩)⟩)⟩)⟩)⟩)⟩)⟩)⟩)⟩)⟩)⟩)⟩)⟩)⟩) (@hid _ ⟨A.call 28 [(.i J), (.i O), (.v Q)] d4 (@hid _ ⟨fun l1 d9 => A.unI l1 (@hid _ ⟨fun a2 l2 => A.un0 l2 (@hid _ ⟨A.cmp .eql a2 0 (@hid _ ⟨fun l3 => A.cond l3 (@hid _ ⟨A.call 16 [] d9 (@hid _ ⟨fun l4 l5 => A.unB l4 (@hid _ ⟨fun l6 l7 => A.un0 l7 (@hid _ ⟨K [(.b l6)] l5⟩)⟩)⟩)⟩) (@hid _ ⟨A.call 19 [(.i J), (.i O), (.v Q), (.i n12), (.i V)] d9 (@hid _ ⟨fun l8 l9 => A.unV l8 (@hid _ ⟨fun v2 m0 => A.unI m0 (@hid _ ⟨fun m1 m2 => A.un0 m2 (@hid _ ⟨A.call 20 [(.i J), (.i O), (.v Q), (.i n12), (.i V)] l9 (@hid _ ⟨fun m3 m4 => A.unI m3 (@hid _ ⟨fun n113 m5 => A.unI m5 (@hid _ ⟨fun n115 m6 => A.un0 m6 (@hid _ ⟨A.call 21 [(.i J), (.i O), (.v Q), (.i n12), (.i V)] m4 (@hid _ ⟨fun m7 m8 => A.unB m7 (@hid _ ⟨fun v3 m9 => A.unI m9 (@hid _ ⟨fun n0 n1 => A.un0 n1 (@hid _ ⟨A.call 22 [(.i J), (.i O), (.v Q), (.i n12), (.i V)] m8 (@hid _ ⟨fun n2 a3 => A.unV n2 (@hid _ ⟨fun v4 n3 => A.unI n3 (@hid _ ⟨fun n4 n5 => A.un0 n5 (@hid _ ⟨A.join (@hid _ ⟨fun n6 n8 => A.unB n6 (@hid _ ⟨fun n9 o0 => A.un0 o0 (@hid _ ⟨K [(.b n9)] n8⟩)⟩)⟩) (@hid _ ⟨fun a4 => A.cmp .eql m1 a2 (@hid _ ⟨fun o1 => A.cond o1 (@hid _ ⟨A.cmp .eql n115 a2 (@hid _ ⟨fun o2 => A.cond o2 (@hid _ ⟨A.cmp .eql n0 a2 (@hid _ ⟨fun o3 => A.cond o3 (@hid _ ⟨A.cmp .eql n4 a2 (@hid _ ⟨fun o4 => A.cond o4 (@hid _ ⟨A.call 16 [] a3 (@hid _ ⟨fun o5 o6 => A.unB o5 (@hid _ ⟨fun o7 o8 => A.un0 o8 (@hid _ ⟨a4 [(.b o7)] o6⟩)⟩)⟩)⟩) (@hid _ ⟨a4 [(.b false)] a3⟩)⟩)⟩) (@hid _ ⟨a4 [(.b false)] a3⟩)⟩)⟩) (@hid _ ⟨a4 [(.b false)] a3⟩)⟩)⟩) (@hid _ ⟨a4 [(.b false)] a3⟩)⟩)⟩)⟩)⟩)⟩)⟩)⟩)⟩)⟩)⟩)⟩)⟩)⟩)⟩)⟩)⟩)⟩)⟩)⟩)⟩)⟩)⟩)⟩)⟩)⟩)⟩)⟩)⟩)⟩)⟩)⟩)⟩)⟩) (@hid _ ⟨A.call 27 [(.i J), (.i O)] d1 (@hid _ ⟨fun o9 d5 => A.unI o9 (@hid _ ⟨fun p0 p1 => A.un0 p1 (@hid _ ⟨A.cmp .eql p0 1 (@hid _ ⟨fun p2 => A.cond p2 (@hid _ ⟨A.cmp .neq d3 0 (@hid _ ⟨fun p3 => A.cond p3 (@hid _ ⟨K [(.b false)] d5⟩) (@hid _ ⟨A.call 28 [(.i J), (.i O), (.v Q)] d5 (@hid _ ⟨fun p4 e0 => A.unI p4 (@hid _ ⟨fun a5 p5 => A.un0 p5 (@hid _ ⟨A.cmp .eql a5 0 (@hid _ ⟨fun p6 => A.cond p6 (@hid _ ⟨A.call 16 [] e0 (@hid _ ⟨fun p8 p9 => A.unB p8 (@hid _ ⟨fun q0 q1 => A.un0 q1 (@hid _ ⟨K [(.b q0)] p9⟩)⟩)⟩)⟩) (@hid _ ⟨A.call 19 [(.i J), (.i O), (.v Q), (.i n12), (.i V)] e0 (@hid _ ⟨fun q2 q3 => A.unV q2 (@hid _ ⟨fun v5 q4 => A.unI q4 (@hid _ ⟨fun q5 q6 => A.un0 q6 (@hid _ ⟨A.call 20 [(.i J), (.i O), (.v Q), (.i n12), (.i V)] q3 (@hid _ ⟨fun q7 q8 => A.unI q7 (@hid _ ⟨fun v6 q9 => A.unI q9 (@hid _ ⟨fun rG rH => A.un0 rH (@hid _ ⟨A.call 21 [(.i J), (.i O), (.v Q), (.i n12), (.i V)] q8 (@hid _ ⟨fun rJ rK => A.unB rJ (@hid _ ⟨fun v7 rL => A.unI rL (@hid _ ⟨fun rM rN => A.un0 rN (@hid _ ⟨A.call 22 [(.i J), (.i O), (.v Q), (.i n12), (.i V)] rK (@hid _ ⟨fun rO a6 => A.unV rO (@hid _ ⟨fun v8 rP => A.unI rP (@hid _ ⟨fun rQ rR => A.un0 rR (@hid _ ⟨A.join (@hid _ ⟨fun rS rT => A.unB rS (@hid _ ⟨fun rU rW => A.un0 rW (@hid _ ⟨K [(.b rU)] rT⟩)⟩)⟩) (@hid _ ⟨fun a7 => A.cmp .eql q5 a5 (@hid _ ⟨fun rX => A.cond rX (@hid _ ⟨A.cmp .eql rG a5 (@hid _ ⟨fun rY => A.cond rY (@hid _ ⟨A.cmp .eql rM a5 (@hid _ ⟨fun rZ => A.cond rZ (@hid _ ⟨A.cmp .eql rQ a5 (@hid _ ⟨fun r1 => A.cond r1 (@hid _ ⟨A.call 16 [] a6 (@hid _ ⟨fun r2 r3 => A.unB r2 (@hid _ ⟨fun r4 r5 => A.un0 r5 (@hid _ ⟨a7 [(.b r4)] r3⟩)⟩)⟩)⟩) (@hid _ ⟨a7 [(.b false)] a6⟩)⟩)⟩) (@hid _ ⟨a7 [(.b false)] a6⟩)⟩)⟩) (@hid _ ⟨a7 [(.b false)] a6⟩)⟩)⟩) (@hid _ ⟨a7 [(.b false)] a6⟩)⟩)⟩)⟩)⟩)⟩)⟩)⟩)⟩)⟩)⟩)⟩)⟩)⟩)⟩)⟩)⟩)⟩)⟩)⟩)⟩)⟩)⟩)⟩)⟩)⟩)⟩) (@hid _ ⟨A.call 28 [(.i J), (.i O), (.v Q)] d5 (@hid _ ⟨fun r6 e1 => A.unI r6 (@hid _ ⟨fun a8 r7 => A.un0 r7 (@hid _ ⟨A.cmp .eql a8 0 (@hid _ ⟨fun r8 => A.cond r8 (@hid _ ⟨A.call 16 [] e1 (@hid _ ⟨fun r9 sa => A.unB r9 (@hid _ ⟨fun sb sc => A.un0 sc (@hid _ ⟨K [(.b sb)] sa⟩)⟩)⟩)⟩) (@hid _ ⟨A.call 19 [(.i J), (.i O), (.v Q), (.i n12), (.i V)] e1 (@hid _ ⟨fun sd se => A.unV sd (@hid _ ⟨fun v9 sf => A.unI sf (@hid _ ⟨fun sh si => A.un0 si (@hid _ ⟨A.call 20 [(.i J), (.i O), (.v Q), (.i n12), (.i V)] se (@hid _ ⟨fun sj sn => A.unI sj (@hid _ ⟨fun wa so => A.unI so (@hid _ ⟨fun sq ss => A.un0 ss (@hid _ ⟨A.call 21 [(.i J), (.i O), (.v Q), (.i n12), (.i V)] sn (@hid _ ⟨fun su sw => A.unB su (@hid _ ⟨fun wb sx => A.unI sx (@hid _ ⟨fun sy sz => A.un0 sz (@hid _ ⟨A.call 22 [(.i J), (.i O), (.v Q), (.i n12), (.i V)] sw (@hid _ ⟨fun sA a9 => A.unV sA (@hid _ ⟨fun wc sB => A.unI sB (@hid _ ⟨fun sC sD => A.un0 sD (@hid _ ⟨A.join (@hid _ ⟨fun sE sF => A.unB sE (@hid _ ⟨fun sG sH => A.un0 sH (@hid _ ⟨K [(.b sG)] sF⟩)⟩)⟩) (@hid _ ⟨fun b0 => A.cmp .eql sh a8 (@hid _ ⟨fun sI => A.cond sI (@hid _ ⟨A.cmp .eql sq a8 (@hid _ ⟨fun sJ => A.cond sJ (@hid _ ⟨A.cmp .eql sy a8 (@hid _ ⟨fun sK => A.cond sK (@hid _ ⟨A.cmp .eql sC a8 (@hid _ ⟨fun sL => A.cond sL (@hid _ ⟨A.call 16 [] a9 (@hid _ ⟨fun sM sN => A.unB sM (@hid _ ⟨fun sO sP => A.un0 sP (@hid _ ⟨b0 [(.b sO)] sN⟩)⟩)⟩)⟩) (@hid _ ⟨b0 [(.b false)] a9⟩)⟩)⟩) (@hid _ ⟨b0 [(.b false)] a9⟩)⟩)⟩) (@hid _ ⟨b0 [(.b false)] a9⟩)⟩)⟩) (@hid _ ⟨b0 [(.b false)] a9⟩)⟩)⟩)⟩)⟩)⟩)⟩)⟩)⟩)⟩)⟩)⟩)⟩)⟩)⟩)⟩)⟩)⟩)⟩)⟩)⟩)⟩)⟩)⟩)⟩)⟩)⟩)⟩)⟩)⟩)⟩)⟩)⟩)⟩)⟩)⟩)⟩)⟩)⟩)⟩)⟩)⟩)⟩)⟩)⟩)⟩)⟩) (@hid _ ⟨A.call 11 [(.i J), (.i O)] h19 (@hid _ ⟨fun sQ sR => A.unV sQ (@hid _ ⟨fun we sS => A.unI sS (@hid _ ⟨fun d6 sU => A.un0 sU (@hid _ ⟨A.call 12 [(.i J), (.i O), (.i n12), (.i V)] sR (@hid _ ⟨fun sV sW => A.unV sV (@hid _ ⟨fun wg sX => A.unI sX (@hid _ ⟨fun sY sZ => A.un0 sZ (@hid _ ⟨A.call 27 [(.i J), (.i O)] sW (@hid _ ⟨fun s0 d2 => A.unI s0 (@hid _ ⟨fun s1 s2 => A.un0 s2 (@hid _ ⟨A.cmp .eql s1 0 (@hid _ ⟨fun s3 => A.cond s3 (@hid _ ⟨A.cmp .neq d6 1 (@hid _ ⟨fun s4 => A.cond s4 (@hid _ ⟨K [(.b false)] d2⟩) (@hid _ ⟨A.cmp .neq sY 1 (@hid _ ⟨fun s5 => A.cond s5 (@hid _ ⟨K [(.b false)] d2⟩) (@hid _ ⟨A.call 27 [(.i J), (.i O)] d2 (@hid _ ⟨fun s6 d7 => A.unI s6 (@hid _ ⟨fun s7 s8 => A.un0 s8 (@hid _ ⟨A.cmp .eql s7 1 (@hid _ ⟨fun s9 => A.cond s9 (@hid _ ⟨A.cmp .neq d6 0 (@hid _ ⟨fun ta => A.cond ta (@hid _ ⟨K [(.b false)] d7⟩) (@hid _ ⟨A.call 28 [(.i J), (.i O), (.v Q)] d7 (@hid _ ⟨fun tb e2 => A.unI tb (@hid _ ⟨fun b1 tc => A.un0 tc (@hid _ ⟨A.cmp .eql b1 0 (@hid _ ⟨fun td => A.cond td (@hid _ ⟨A.call 16 [] e2 (@hid _ ⟨fun tg th => A.unB tg (@hid _ ⟨fun ti tj => A.un0 tj (@hid _ ⟨K [(.b ti)] th⟩)⟩)⟩)⟩) (@hid _ ⟨A.call 19 [(.i J), (.i O), (.v Q), (.i n12), (.i V)] e2 (@hid _ ⟨fun tn tq => A.unV tn (@hid _ ⟨fun wh tr => A.unI tr (@hid _ ⟨fun tt tu => A.un0 tu (@hid _ ⟨A.call 20 [(.i J), (.i O), (.v Q), (.i n12), (.i V)] tq (@hid _ ⟨fun tv tw => A.unI tv (@hid _ ⟨fun wi tx => A.unI tx (@hid _ ⟨fun tz tA => A.un0 tA (@hid _ ⟨A.call 21 [(.i J), (.i O), (.v Q), (.i n12), (.i V)] tw (@hid _ ⟨fun tB tC => A.unB tB (@hid _ ⟨fun wj tD => A.unI tD (@hid _ ⟨fun tE tF => A.un0 tF (@hid _ ⟨A.call 22 [(.i J), (.i O), (.v Q), (.i n12), (.i V)] tC (@hid _ ⟨fun tG b2 => A.unV tG (@hid _ ⟨fun wk tH => A.unI tH (@hid _ ⟨fun tI tJ => A.un0 tJ (@hid _ ⟨A.join (@hid _ ⟨fun tK tL => A.unB tK (@hid _ ⟨fun tM tN => A.un0 tN (@hid _ ⟨K [(.b tM)] tL⟩)⟩)⟩) (@hid _ ⟨fun b3 => A.cmp .eql tt b1 (@hid _ ⟨fun tO => A.cond tO (@hid _ ⟨A.cmp .eql tz b1 (@hid _ ⟨fun tP => A.cond tP (@hid _ ⟨A.cmp .eql tE b1 (@hid _ ⟨fun tQ => A.cond tQ (@hid _ ⟨A.cmp .eql tI b1 (@hid _ ⟨fun tR => A.cond tR (@hid _ ⟨A.call 16 [] b2 (@hid _ ⟨fun tS tT => A.unB tS (@hid _ ⟨fun tU tV => A.un0 tV (@hid _ ⟨b3 [(.b tU)] tT⟩)⟩)⟩)⟩) (@hid _ ⟨b3 [(.b false)] b2⟩)⟩)⟩) (@hid _ ⟨b3 [(.b false)] b2⟩)⟩)⟩) (@hid _ ⟨b3 [(.b false)] b2⟩)⟩)⟩) (@hid _ ⟨b3 [(.b false)] b2⟩)⟩)⟩)⟩)⟩)⟩)⟩)⟩)⟩)⟩)⟩)⟩)⟩)⟩)⟩)⟩)⟩)⟩)⟩)⟩)⟩)⟩)⟩)⟩)⟩)⟩)⟩) (@hid _ ⟨A.call 28 [(.i J), (.i O), (.v Q)] d7 (@hid _ ⟨fun tW e3 => A.unI tW (@hid _ ⟨fun b4 tX => A.un0 tX (@hid _ ⟨A.cmp .eql b4 0 (@hid _ ⟨fun tY => A.cond tY (@hid _ ⟨A.call 16 [] e3 (@hid _ ⟨fun tZ t0 => A.unB tZ (@hid _ ⟨fun t1 t2 => A.un0 t2 (@hid _ ⟨K [(.b t1)] t0⟩)⟩)⟩)⟩) (@hid _ ⟨A.call 19 [(.i J), (.i O), (.v Q), (.i n12), (.i V)] e3 (@hid _ ⟨fun t3 t4 => A.unV t3 (@hid _ ⟨fun wl t5 => A.unI t5 (@hid _ ⟨fun t6 t7 => A.un0 t7 (@hid _ ⟨A.call 20 [(.i J), (.i O), (.v Q), (.i n12), (.i V)] t4 (@hid _ ⟨fun t8 t9 => A.unI t8 (@hid _ ⟨fun wm ua => A.unI ua (@hid _ ⟨fun ub uc => A.un0 uc (@hid _ ⟨A.call 21 [(.i J), (.i O), (.v Q), (.i n12), (.i V)] t9 (@hid _ ⟨fun ud ue => A.unB ud (@hid _ ⟨fun wn uf => A.unI uf (@hid _ ⟨fun ug uh => A.un0 uh (@hid _ ⟨A.call 22 [(.i J), (.i O), (.v Q), (.i n12), (.i V)] ue (@hid _ ⟨fun ui b5 => A.unV ui (@hid _ ⟨fun wo uj => A.unI uj (@hid _ ⟨fun uk ul => A.un0 ul (@hid _ ⟨A.join (@hid _ ⟨fun um uo => A.unB um (@hid _ ⟨fun uq ur => A.un0 ur (@hid _ ⟨K [(.b uq)] uo⟩)⟩)⟩) (@hid _ ⟨fun b6 => A.cmp .eql t6 b4 (@hid _ ⟨fun ut => A.cond ut (@hid _ ⟨A.cmp .eql ub b4 (@hid _ ⟨fun uu => A.cond uu (@hid _ ⟨A.cmp .eql ug b4 (@hid _ ⟨fun uv => A.cond uv (@hid _ ⟨A.cmp .eql uk b4 (@hid _ ⟨fun uw => A.cond uw (@hid _ ⟨A.call 16 [] b5 (@hid _ ⟨fun ux uy => A.unB ux (@hid _ ⟨fun uz uA => A.un0 uA (@hid _ ⟨b6 [(.b uz)] uy⟩)⟩)⟩)⟩) (@hid _ ⟨b6 [(.b false)] b5⟩)⟩)⟩) (@hid _ ⟨b6 [(.b false)] b5⟩)⟩)⟩) (@hid _ ⟨b6 [(.b false)] b5⟩)⟩)⟩) (@hid _ ⟨b6 [(.b false)] b5⟩)⟩)⟩)⟩)⟩)⟩)⟩)⟩)⟩)⟩)⟩)⟩)⟩)⟩)⟩)⟩)⟩)⟩)⟩)⟩)⟩)⟩)⟩)⟩)⟩)⟩)⟩)⟩)⟩)⟩)⟩)⟩)⟩)⟩) (@hid _ ⟨A.call 27 [(.i J), (.i O)] d2 (@hid _ ⟨fun uC d8 => A.unI uC (@hid _ ⟨fun uD uE => A.un0 uE (@hid _ ⟨A.cmp .eql uD 1 (@hid _ ⟨fun uF => A.cond uF (@hid _ ⟨A.cmp .neq d6 0 (@hid _ ⟨fun uG => A.cond uG (@hid _ ⟨K [(.b false)] d8⟩) (@hid _ ⟨A.call 28 [(.i J), (.i O), (.v Q)] d8 (@hid _ ⟨fun uH e4 => A.unI uH (@hid _ ⟨fun b7 uI => A.un0 uI (@hid _ ⟨A.cmp .eql b7 0 (@hid _ ⟨fun uJ => A.cond uJ (@hid _ ⟨A.call 16 [] e4 (@hid _ ⟨fun uK uL => A.unB uK (@hid _ ⟨fun uM uN => A.un0 uN (@hid _ ⟨K [(.b uM)] uL⟩)⟩)⟩)⟩) (@hid _ ⟨A.call 19 [(.i J), (.i O), (.v Q), (.i n12), (.i V)] e4 (@hid _ ⟨fun uO uP => A.unV uO (@hid _ ⟨fun wp uQ => A.unI uQ (@hid _ ⟨fun uR uS => A.un0 uS (@hid _ ⟨A.call 20 [(.i J), (.i O), (.v Q), (.i n12), (.i V)] uP (@hid _ ⟨fun uT uU => A.unI uT (@hid _ ⟨fun wq uV => A.unI uV (@hid _ ⟨fun uW uX => A.un0 uX (@hid _ ⟨A.call 21 [(.i J), (.i O), (.v Q), (.i n12), (.i V)] uU (@hid _ ⟨fun uY uZ => A.unB uY (@hid _ ⟨fun wt u0 => A.unI u0 (@hid _ ⟨fun u1 u2 => A.un0 u2 (@hid _ ⟨A.call 22 [(.i J), (.i O), (.v Q), (.i n12), (.i V)] uZ (@hid _ ⟨fun u3 b8 => A.unV u3 (@hid _ ⟨fun wu u4 => A.unI u4 (@hid _ ⟨fun u5 u6 => A.un0 u6 (@hid _ ⟨A.join (@hid _ ⟨fun u7 u8 => A.unB u7 (@hid _ ⟨fun u9 va => A.un0 va (@hid _ ⟨K [(.b u9)] u8⟩)⟩)⟩) (@hid _ ⟨fun b9 => A.cmp .eql uR b7 (@hid _ ⟨fun vb => A.cond vb (@hid _ ⟨A.cmp .eql uW b7 (@hid _ ⟨fun vc => A.cond vc (@hid _ ⟨A.cmp .eql u1 b7 (@hid _ ⟨fun vd => A.cond vd (@hid _ ⟨A.cmp .eql u5 b7 (@hid _ ⟨fun ve => A.cond ve (@hid _ ⟨A.call 16 [] b8 (@hid _ ⟨fun vf vg => A.unB vf (@hid _ ⟨fun vh vi => A.un0 vi (@hid _ ⟨b9 [(.b vh)] vg⟩)⟩)⟩)⟩) (@hid _ ⟨b9 [(.b false)] b8⟩)⟩)⟩) (@hid _ ⟨b9 [(.b false)] b8⟩)⟩)⟩) (@hid _ ⟨b9 [(.b false)] b8⟩)⟩)⟩) (@hid _ ⟨b9 [(.b false)] b8⟩)⟩)⟩)⟩)⟩)⟩)⟩)⟩)⟩)⟩)⟩)⟩)⟩)⟩)⟩)⟩)⟩)⟩)⟩)⟩)⟩)⟩)⟩)⟩)⟩)⟩)⟩) (@hid _ ⟨A.call 28 [(.i J), (.i O), (.v Q)] d8 (@hid _ ⟨fun vj e5 => A.unI vj (@hid _ ⟨fun c0 vk => A.un0 vk (@hid _ ⟨A.cmp .eql c0 0 (@hid _ ⟨fun vl => A.cond vl (@hid _ ⟨A.call 16 [] e5 (@hid _ ⟨fun vm vn => A.unB vm (@hid _ ⟨fun vo vp => A.un0 vp (@hid _ ⟨K [(.b vo)] vn⟩)⟩)⟩)⟩) (@hid _ ⟨A.call 19 [(.i J), (.i O), (.v Q), (.i n12), (.i V)] e5 (@hid _ ⟨fun vq vr => A.unV vq (@hid _ ⟨fun wv vt => A.unI vt (@hid _ ⟨fun vu vw => A.un0 vw (@hid _ ⟨A.call 20 [(.i J), (.i O), (.v Q), (.i n12), (.i V)] vr (@hid _ ⟨fun vx vy => A.unI vx (@hid _ ⟨fun ww vz => A.unI vz (@hid _ ⟨fun vA vB => A.un0 vB (@hid _ ⟨A.call 21 [(.i J), (.i O), (.v Q), (.i n12), (.i V)] vy (@hid _ ⟨fun vC vD => A.unB vC (@hid _ ⟨fun wx vE => A.unI vE (@hid _ ⟨fun vF vG => A.un0 vG (@hid _ ⟨A.call 22 [(.i J), (.i O), (.v Q), (.i n12), (.i V)] vD (@hid _ ⟨fun vH c1 => A.unV vH (@hid _ ⟨fun wy vI => A.unI vI (@hid _ ⟨fun vJ vK => A.un0 vK (@hid _ ⟨A.join (@hid _ ⟨fun vL vM => A.unB vL (@hid _ ⟨fun vN vO => A.un0 vO (@hid _ ⟨K [(.b vN)] vM⟩)⟩)⟩) (@hid _ ⟨fun d0 => A.cmp .eql vu c0 (@hid _ ⟨fun vP => A.cond vP (@hid _ ⟨A.cmp .eql vA c0 (@hid _ ⟨fun vQ => A.cond vQ (@hid _ ⟨A.cmp .eql vF c0 (@hid _ ⟨fun vR => A.cond vR (@hid _ ⟨A.cmp .eql vJ c0 (@hid _ ⟨fun vS => A.cond vS (@hid _ ⟨A.call 16 [] c1 (@hid _ ⟨fun vT vU => A.unB vT (@hid _ ⟨fun vV vW => A.un0 vW (@hid _ ⟨d0 [(.b vV)] vU⟩)⟩)⟩)⟩) (@hid _ ⟨d0 [(.b false)] c1⟩)⟩)⟩) (@hid _ ⟨d0 [(.b false)] c1⟩)⟩)⟩) (@hid _ ⟨d0 [(.b false)] c1⟩)⟩)⟩) (@hid _ ⟨d0 [(.b false)] c1⟩)⟩)⟩)⟩)⟩)⟩)⟩)⟩)⟩)⟩)⟩)⟩)⟩)⟩)⟩)⟩)⟩)⟩)⟩)⟩)⟩)⟩)⟩)⟩)⟩)⟩)⟩)⟩)⟩)⟩)⟩)⟩)⟩)⟩)⟩)⟩)⟩)⟩)⟩)⟩)⟩)⟩)⟩)⟩)⟩)⟩)⟩)⟩)⟩)⟩)⟩)⟩)⟩)⟩)⟩)⟩)
theorem g7 : (fun A : Alg Prop (HL) => p7 A) = fun A => f7 A := by kernel_rfl
theorem h7 (ls : List Lf) (H : HL) (K : List Lf → HL → Prop) : p7 P1 ls H K = av P1 (xc 7) ac drN n7 ls H K :=
 congrFun (congrFun (congrFun ((congrFun g7 P1).trans (congrFun (congrFun (congrFun e7 Prop) (HL)) P1)) ls) H) K
theorem x7 {ls : List Lf} {H : HL} {K : List Lf → HL → Prop} (hls : ca ls) (h : p7 P1 ls H K) : ∃ rs H', aJ cc ac 7 ls (absH ab H) rs (absH ab H') ∧ K rs H' :=
 gt i7 hls (h7 ls H K ▸ h)
/-- crimp/corners.All -/
def p11 (A : Alg Prop (HL)) (ls : List Lf) (h : HL) (K : List Lf → HL → Prop) : Prop := A.unI ls (@hid _ ⟨fun J O => A.unI O (@hid _ ⟨fun Q V => A.un0 V (@hid _ ⟨A.call 31 [(.i J), (.i Q)] h (@hid _ ⟨fun a0 h11 => A.unV a0 (@hid _ ⟨fun a1 a2 => A.unI a2 (@hid _ ⟨fun a3 a4 => A.un0 a4 (@hid _ ⟨K [(.v a1), (.i a3)] h11⟩)⟩)⟩)⟩)⟩)⟩)⟩)
theorem g11 : (fun A : Alg Prop (HL) => p11 A) = fun A => f11 A := by kernel_rfl
theorem h11 (ls : List Lf) (H : HL) (K : List Lf → HL → Prop) : p11 P1 ls H K = av P1 (xc 11) ac drN n11 ls H K :=
 congrFun (congrFun (congrFun ((congrFun g11 P1).trans (congrFun (congrFun (congrFun e11 Prop) (HL)) P1)) ls) H) K
theorem u11 {ls : List Lf} {H : HL} {K : List Lf → HL → Prop} (hls : aX ls = true) (h : p11 P1 ls H K) : ∃ rs H', aJ cc ac 11 ls (absH ab H) rs (absH ab H') ∧ K rs H' :=
 fj i11 hls (h11 ls H K ▸ h)
/-- crimp/corners.Around -/
def p12 (A : Alg Prop (HL)) (ls : List Lf) (h : HL) (K : List Lf → HL → Prop) : Prop := A.unI ls (@hid _ ⟨fun O a2 => A.unI a2 (@hid _ ⟨fun Q a3 => A.unI a3 (@hid _ ⟨fun V a4 => A.unI a4 (@hid _ ⟨fun n12 a5 => A.un0 a5 (@hid _ ⟨A.call 32 [(.i O), (.i Q), (.i V), (.i n12)] h (@hid _ ⟨fun a6 a0 => A.unI a6 (@hid _ ⟨fun n16 a7 => A.un0 a7 (@hid _ ⟨A.cmp .neq n16 0 (@hid _ ⟨fun a8 => A.cond a8 (@hid _ ⟨K [(.v (.slice none 0 0)), (.i n16)] a0⟩) (@hid _ ⟨A.new (.cells [(.slice none 0 0)] 1 true) a0 (@hid _ ⟨fun a1 h20 => A.call 33 [(.i O), (.i Q), (.i V), (.i n12)] h20 (@hid _ ⟨fun a9 h22 => A.unV a9 (@hid _ ⟨fun b0 b1 => A.un0 b1 (@hid _ ⟨A.rfun 192 b0 [(.pointer (some ⟨a1, 0, none⟩))] h22 (@hid _ ⟨fun b2 J => A.pend b2 (@hid _ ⟨A.peek (.lg cc 1 (.pointer (some ⟨a1, 0, none⟩))) J (@hid _ ⟨fun b3 => A.ucV b3 (@hid _ ⟨fun x28 b4 => A.chk x28 (@hid _ ⟨A.uc0 b4 (@hid _ ⟨A.call 34 [(.v x28)] J (@hid _ ⟨fun b5 h31 => A.unV b5 (@hid _ ⟨fun b6 b7 => A.un0 b7 (@hid _ ⟨K [(.v b6), (.i 0)] h31⟩)⟩)⟩)⟩)⟩)⟩)⟩)⟩) (@hid _ ⟨K [(.v (.slice none 0 0)), (.i 0)] J⟩) []⟩)⟩)⟩)⟩)⟩)⟩)⟩)⟩)⟩)⟩)⟩)⟩)⟩)⟩)⟩)
theorem g12 : (fun A : Alg Prop (HL) => p12 A) = fun A => f12 A := by kernel_rfl
theorem h12 (ls : List Lf) (H : HL) (K : List Lf → HL → Prop) : p12 P1 ls H K = av P1 (xc 12) ac drN n12 ls H K :=
 congrFun (congrFun (congrFun ((congrFun g12 P1).trans (congrFun (congrFun (congrFun e12 Prop) (HL)) P1)) ls) H) K
theorem u12 {ls : List Lf} {H : HL} {K : List Lf → HL → Prop} (hls : aX ls = true) (h : p12 P1 ls H K) : ∃ rs H', aJ cc ac 12 ls (absH ab H) rs (absH ab H') ∧ K rs H' :=
 fj i12 hls (h12 ls H K ▸ h)
/-- crimp/corners.Creases -/
def p19 (A : Alg Prop (HL)) (ls : List Lf) (h : HL) (K : List Lf → HL → Prop) : Prop := A.unI ls (@hid _ ⟨fun a9 b0 => A.unI b0 (@hid _ ⟨fun b1 b2 => A.unV b2 (@hid _ ⟨fun b3 b4 => A.unI b4 (@hid _ ⟨fun n12 b5 => A.unI b5 (@hid _ ⟨fun V b6 => A.un0 b6 (@hid _ ⟨A.new (.cells [(.int .i64 a9), (.int .i64 b1), b3] 3 true) h (@hid _ ⟨fun J a0 => A.peek (.lg cc 3 (.pointer (some ⟨J, 0, none⟩))) a0 (@hid _ ⟨fun b7 => A.ucI .i64 b7 (@hid _ ⟨fun n19 b8 => A.ucI .i64 b8 (@hid _ ⟨fun n21 b9 => A.ucV b9 (@hid _ ⟨fun a1 c0 => A.chk a1 (@hid _ ⟨A.uc0 c0 (@hid _ ⟨A.call 40 [(.i n19), (.i n21), (.v a1)] a0 (@hid _ ⟨fun c1 O => A.unI c1 (@hid _ ⟨fun n27 d0 => A.un0 d0 (@hid _ ⟨A.cmp .neq n27 0 (@hid _ ⟨fun d1 => A.cond d1 (@hid _ ⟨K [(.v (.slice none 0 0)), (.i n27)] O⟩) (@hid _ ⟨A.opt (fdP 0 (.pointer (some ⟨J, 0, none⟩))) (@hid _ ⟨fun a2 => A.chk a2 (@hid _ ⟨A.peek (.lg cc 2 a2) O (@hid _ ⟨fun d2 => A.ucI .i64 d2 (@hid _ ⟨fun n32 d3 => A.ucI .i64 d3 (@hid _ ⟨fun n34 d4 => A.uc0 d4 (@hid _ ⟨A.call 32 [(.i n32), (.i n34), (.i n12), (.i V)] O (@hid _ ⟨fun d5 a3 => A.unI d5 (@hid _ ⟨fun n38 d6 => A.un0 d6 (@hid _ ⟨A.cmp .neq n38 0 (@hid _ ⟨fun d7 => A.cond d7 (@hid _ ⟨K [(.v (.slice none 0 0)), (.i n38)] a3⟩) (@hid _ ⟨A.new (.cells [(.slice none 0 0)] 1 true) a3 (@hid _ ⟨fun Q a4 => A.opt (fdP 0 (.pointer (some ⟨J, 0, none⟩))) (@hid _ ⟨fun a5 => A.chk a5 (@hid _ ⟨A.peek (.lg cc 2 a5) a4 (@hid _ ⟨fun d8 => A.ucI .i64 d8 (@hid _ ⟨fun d9 e0 => A.ucI .i64 e0 (@hid _ ⟨fun n47 e1 => A.uc0 e1 (@hid _ ⟨A.call 33 [(.i d9), (.i n47), (.i n12), (.i V)] a4 (@hid _ ⟨fun e2 e3 => A.unV e2 (@hid _ ⟨fun e4 e5 => A.un0 e5 (@hid _ ⟨A.rfun 304 e4 [(.pointer (some ⟨J, 0, none⟩)), (.pointer (some ⟨Q, 0, none⟩))] e3 (@hid _ ⟨fun e6 h54 => A.pend e6 (@hid _ ⟨A.peek (.lg cc 1 (.pointer (some ⟨Q, 0, none⟩))) h54 (@hid _ ⟨fun e8 => A.ucV e8 (@hid _ ⟨fun a6 e9 => A.chk a6 (@hid _ ⟨A.uc0 e9 (@hid _ ⟨A.call 42 [(.v a6), (.v (.func (.func 43) ⟨[]⟩ ⟨[]⟩))] h54 (@hid _ ⟨fun f0 a7 => A.un0 f0 (@hid _ ⟨A.peek (.lg cc 1 (.pointer (some ⟨Q, 0, none⟩))) a7 (@hid _ ⟨fun f1 => A.ucV f1 (@hid _ ⟨fun a8 f2 => A.chk a8 (@hid _ ⟨A.uc0 f2 (@hid _ ⟨A.call 44 [(.v a8)] a7 (@hid _ ⟨fun f3 f4 => A.unV f3 (@hid _ ⟨fun f5 f6 => A.un0 f6 (@hid _ ⟨K [(.v f5), (.i 0)] f4⟩)⟩)⟩)⟩)⟩)⟩)⟩)⟩)⟩)⟩)⟩)⟩)⟩)⟩) (@hid _ ⟨K [(.v (.slice none 0 0)), (.i 0)] h54⟩) []⟩)⟩)⟩)⟩)⟩)⟩)⟩)⟩)⟩)⟩)⟩)⟩)⟩)⟩)⟩)⟩)⟩)⟩)⟩)⟩)⟩)⟩)⟩)⟩)⟩)⟩)⟩)⟩)⟩)⟩)⟩)⟩)⟩)⟩)⟩)⟩)⟩)⟩)⟩)⟩)
theorem g19 : (fun A : Alg Prop (HL) => p19 A) = fun A => f19 A := by kernel_rfl
theorem h19 (ls : List Lf) (H : HL) (K : List Lf → HL → Prop) : p19 P1 ls H K = av P1 (xc 19) ac drN n19 ls H K :=
 congrFun (congrFun (congrFun ((congrFun g19 P1).trans (congrFun (congrFun (congrFun e19 Prop) (HL)) P1)) ls) H) K
theorem x19 {ls : List Lf} {H : HL} {K : List Lf → HL → Prop} (hls : ca ls) (h : p19 P1 ls H K) : ∃ rs H', aJ cc ac 19 ls (absH ab H) rs (absH ab H') ∧ K rs H' :=
 gt i19 hls (h19 ls H K ▸ h)
/-- crimp/corners.Degree -/
def p20 (A : Alg Prop (HL)) (ls : List Lf) (h : HL) (K : List Lf → HL → Prop) : Prop := A.unI ls (@hid _ ⟨fun J O => A.unI O (@hid _ ⟨fun Q V => A.unV V (@hid _ ⟨fun a0 a1 => A.unI a1 (@hid _ ⟨fun n12 a2 => A.unI a2 (@hid _ ⟨fun a3 a4 => A.un0 a4 (@hid _ ⟨A.call 19 [(.i J), (.i Q), (.v a0), (.i n12), (.i a3)] h (@hid _ ⟨fun a5 a6 => A.unV a5 (@hid _ ⟨fun a7 a8 => A.unI a8 (@hid _ ⟨fun n20 a9 => A.un0 a9 (@hid _ ⟨A.opt (lenS a7) (@hid _ ⟨fun x22 => K [(.i x22), (.i n20)] a6⟩)⟩)⟩)⟩)⟩)⟩)⟩)⟩)⟩)⟩)⟩)
theorem g20 : (fun A : Alg Prop (HL) => p20 A) = fun A => f20 A := by kernel_rfl
theorem h20 (ls : List Lf) (H : HL) (K : List Lf → HL → Prop) : p20 P1 ls H K = av P1 (xc 20) ac drN n20 ls H K :=
 congrFun (congrFun (congrFun ((congrFun g20 P1).trans (congrFun (congrFun (congrFun e20 Prop) (HL)) P1)) ls) H) K
theorem x20 {ls : List Lf} {H : HL} {K : List Lf → HL → Prop} (hls : ca ls) (h : p20 P1 ls H K) : ∃ rs H', aJ cc ac 20 ls (absH ab H) rs (absH ab H') ∧ K rs H' :=
 gt i20 hls (h20 ls H K ▸ h)
/-- crimp/corners.Straight -/
def p21 (A : Alg Prop (HL)) (ls : List Lf) (h : HL) (K : List Lf → HL → Prop) : Prop := A.unI ls (@hid _ ⟨fun a3 a4 => A.unI a4 (@hid _ ⟨fun a5 a6 => A.unV a6 (@hid _ ⟨fun a7 a8 => A.unI a8 (@hid _ ⟨fun n12 a9 => A.unI a9 (@hid _ ⟨fun b0 b1 => A.un0 b1 (@hid _ ⟨A.call 19 [(.i a3), (.i a5), (.v a7), (.i n12), (.i b0)] h (@hid _ ⟨fun b2 J => A.unV b2 (@hid _ ⟨fun O b3 => A.unI b3 (@hid _ ⟨fun n20 b4 => A.un0 b4 (@hid _ ⟨A.join (@hid _ ⟨fun b5 b6 => A.unB b5 (@hid _ ⟨fun b7 b8 => A.unI b8 (@hid _ ⟨fun b9 c0 => A.un0 c0 (@hid _ ⟨K [(.b b7), (.i b9)] b6⟩)⟩)⟩)⟩) (@hid _ ⟨fun Q => A.opt (lenS O) (@hid _ ⟨fun c1 => A.cmp .eql c1 2 (@hid _ ⟨fun d0 => A.cond d0 (@hid _ ⟨A.opt (idS 2 O 0) (@hid _ ⟨fun d1 => A.opt (fdP 1 d1) (@hid _ ⟨fun V => A.chk V (@hid _ ⟨A.peek (.lg cc 1 V) J (@hid _ ⟨fun d2 => A.ucI .u8 d2 (@hid _ ⟨fun n34 d3 => A.uc0 d3 (@hid _ ⟨A.opt (idS 2 O 1) (@hid _ ⟨fun d4 => A.opt (fdP 1 d4) (@hid _ ⟨fun a0 => A.chk a0 (@hid _ ⟨A.peek (.lg cc 1 a0) J (@hid _ ⟨fun d5 => A.ucI .u8 d5 (@hid _ ⟨fun n39 d6 => A.uc0 d6 (@hid _ ⟨A.cmp .eql n34 n39 (@hid _ ⟨fun d7 => A.cond d7 (@hid _ ⟨A.opt (idS 2 O 1) (@hid _ ⟨fun d8 => A.opt (fdP 0 d8) (@hid _ ⟨fun a1 => A.chk a1 (@hid _ ⟨A.peek (.lg cc 1 a1) J (@hid _ ⟨fun d9 => A.ucI .i64 d9 (@hid _ ⟨fun e0 e1 => A.uc0 e1 (@hid _ ⟨A.opt (idS 2 O 0) (@hid _ ⟨fun e2 => A.opt (fdP 0 e2) (@hid _ ⟨fun a2 => A.chk a2 (@hid _ ⟨A.peek (.lg cc 1 a2) J (@hid _ ⟨fun e3 => A.ucI .i64 e3 (@hid _ ⟨fun n50 e4 => A.uc0 e4 (@hid _ ⟨A.ari .sub .i64 e0 n50 (@hid _ ⟨fun n52 => A.cmp .eql n52 4 (@hid _ ⟨fun e5 => Q [(.b e5), (.i n20)] J⟩)⟩)⟩)⟩)⟩)⟩)⟩)⟩)⟩)⟩)⟩)⟩)⟩)⟩)⟩) (@hid _ ⟨Q [(.b false), (.i n20)] J⟩)⟩)⟩)⟩)⟩)⟩)⟩)⟩)⟩)⟩)⟩)⟩)⟩)⟩)⟩) (@hid _ ⟨Q [(.b false), (.i n20)] J⟩)⟩)⟩)⟩)⟩)⟩)⟩)⟩)⟩)⟩)⟩)⟩)⟩)⟩)
theorem g21 : (fun A : Alg Prop (HL) => p21 A) = fun A => f21 A := by kernel_rfl
theorem h21 (ls : List Lf) (H : HL) (K : List Lf → HL → Prop) : p21 P1 ls H K = av P1 (xc 21) ac drN n21 ls H K :=
 congrFun (congrFun (congrFun ((congrFun g21 P1).trans (congrFun (congrFun (congrFun e21 Prop) (HL)) P1)) ls) H) K
theorem x21 {ls : List Lf} {H : HL} {K : List Lf → HL → Prop} (hls : ca ls) (h : p21 P1 ls H K) : ∃ rs H', aJ cc ac 21 ls (absH ab H) rs (absH ab H') ∧ K rs H' :=
 gt i21 hls (h21 ls H K ▸ h)
/-- crimp/corners.Angles -/
def p22 (A : Alg Prop (HL)) (ls : List Lf) (h : HL) (K : List Lf → HL → Prop) : Prop := A.unI ls (@hid _ ⟨fun a4 a5 => A.unI a5 (@hid _ ⟨fun a6 a7 => A.unV a7 (@hid _ ⟨fun a8 a9 => A.unI a9 (@hid _ ⟨fun n12 b0 => A.unI b0 (@hid _ ⟨fun b1 b2 => A.un0 b2 (@hid _ ⟨A.call 19 [(.i a4), (.i a6), (.v a8), (.i n12), (.i b1)] h (@hid _ ⟨fun b3 a1 => A.unV b3 (@hid _ ⟨fun O b4 => A.unI b4 (@hid _ ⟨fun n20 b5 => A.un0 b5 (@hid _ ⟨A.cmp .neq n20 0 (@hid _ ⟨fun b6 => A.cond b6 (@hid _ ⟨K [(.v (.slice none 0 0)), (.i n20)] a1⟩) (@hid _ ⟨A.opt (lenS O) (@hid _ ⟨fun J => A.opt (mkOk J J) (@hid _ ⟨fun f1 => A.new (.cells (bX [(.int .i64 0)] (Int.toNat J)) 1 true) a1 (@hid _ ⟨fun Q b7 => A.opt (lenS O) (@hid _ ⟨fun b8 => A.loop (@hid _ ⟨fun b9 c0 V => A.unI c0 (@hid _ ⟨fun n31 c1 => A.un0 c1 (@hid _ ⟨A.cmp .lss n31 b8 (@hid _ ⟨fun d0 => A.cond d0 (@hid _ ⟨A.opt (idS 2 O n31) (@hid _ ⟨fun d1 => A.peek (.lg cc 2 d1) V (@hid _ ⟨fun d2 => A.ucI .i64 d2 (@hid _ ⟨fun d3 d4 => A.ucI .u8 d4 (@hid _ ⟨fun n38 d5 => A.uc0 d5 (@hid _ ⟨A.ari .add .i64 n31 1 (@hid _ ⟨fun n40 => A.opt (lenS O) (@hid _ ⟨fun d6 => A.ari .rem .i64 n40 d6 (@hid _ ⟨fun n42 => A.opt (idS 2 O n42) (@hid _ ⟨fun d7 => A.opt (fdP 0 d7) (@hid _ ⟨fun a2 => A.chk a2 (@hid _ ⟨A.peek (.lg cc 1 a2) V (@hid _ ⟨fun d8 => A.ucI .i64 d8 (@hid _ ⟨fun n46 d9 => A.uc0 d9 (@hid _ ⟨A.ari .sub .i64 n46 d3 (@hid _ ⟨fun e0 => A.ari .add .i64 e0 8 (@hid _ ⟨fun n49 => A.ari .rem .i64 n49 8 (@hid _ ⟨fun n50 => A.opt (idS 1 (.slice (some ⟨Q, 0, (some 11)⟩) (Int.toNat J) ((Int.toNat J) + 1)) n31) (@hid _ ⟨fun e1 => A.heap (.st e1 [(.int .i64 n50)]) V (@hid _ ⟨fun f2 a0 => A.opt (idS 1 (.slice (some ⟨Q, 0, (some 11)⟩) (Int.toNat J) ((Int.toNat J) + 1)) n31) (@hid _ ⟨fun e2 => A.peek (.lg cc 1 e2) a0 (@hid _ ⟨fun e3 => A.ucI .i64 e3 (@hid _ ⟨fun n56 e4 => A.uc0 e4 (@hid _ ⟨A.cmp .eql n56 0 (@hid _ ⟨fun e5 => A.join (@hid _ ⟨fun e6 e8 => A.un0 e6 (@hid _ ⟨A.ari .add .i64 n31 1 (@hid _ ⟨fun n61 => b9 [(.i n61)] e8⟩)⟩)⟩) (@hid _ ⟨fun a3 => A.cond e5 (@hid _ ⟨A.opt (idS 1 (.slice (some ⟨Q, 0, (some 11)⟩) (Int.toNat J) ((Int.toNat J) + 1)) n31) (@hid _ ⟨fun e9 => A.heap (.st e9 [(.int .i64 8)]) a0 (@hid _ ⟨fun f3 f0 => a3 [] f0⟩)⟩)⟩) (@hid _ ⟨a3 [] a0⟩)⟩)⟩)⟩)⟩)⟩)⟩)⟩)⟩)⟩)⟩)⟩)⟩)⟩)⟩)⟩)⟩)⟩)⟩)⟩)⟩)⟩)⟩)⟩)⟩)⟩)⟩) (@hid _ ⟨K [(.v (.slice (some ⟨Q, 0, (some 11)⟩) (Int.toNat J) ((Int.toNat J) + 1))), (.i 0)] V⟩)⟩)⟩)⟩)⟩) [(.i 0)] b7⟩)⟩)⟩)⟩)⟩)⟩)⟩)⟩)⟩)⟩)⟩)⟩)⟩)⟩)⟩)⟩)
theorem g22 : (fun A : Alg Prop (HL) => p22 A) = fun A => f22 A := by kernel_rfl
theorem h22 (ls : List Lf) (H : HL) (K : List Lf → HL → Prop) : p22 P1 ls H K = av P1 (xc 22) ac drN n22 ls H K :=
 congrFun (congrFun (congrFun ((congrFun g22 P1).trans (congrFun (congrFun (congrFun e22 Prop) (HL)) P1)) ls) H) K
theorem x22 {ls : List Lf} {H : HL} {K : List Lf → HL → Prop} (hls : ca ls) (h : p22 P1 ls H K) : ∃ rs H', aJ cc ac 22 ls (absH ab H) rs (absH ab H') ∧ K rs H' :=
 gt i22 hls (h22 ls H K ▸ h)
/-- crimp/crimpref05.Valid -/
def p27 (A : Alg Prop (HL)) (ls : List Lf) (h : HL) (K : List Lf → HL → Prop) : Prop := A.unI ls (@hid _ ⟨fun J Q => A.unI Q (@hid _ ⟨fun O V => A.un0 V (@hid _ ⟨A.cmp .lss J 1 (@hid _ ⟨fun a0 => A.cond a0 (@hid _ ⟨K [(.i 0)] h⟩) (@hid _ ⟨A.cmp .lss O 1 (@hid _ ⟨fun a1 => A.cond a1 (@hid _ ⟨K [(.i 0)] h⟩) (@hid _ ⟨A.cmp .gtr J 256 (@hid _ ⟨fun a2 => A.cond a2 (@hid _ ⟨K [(.i 0)] h⟩) (@hid _ ⟨A.cmp .gtr O 256 (@hid _ ⟨fun a3 => A.cond a3 (@hid _ ⟨K [(.i 0)] h⟩) (@hid _ ⟨A.ari .mul .i64 J O (@hid _ ⟨fun a4 => A.cmp .gtr a4 256 (@hid _ ⟨fun a5 => A.cond a5 (@hid _ ⟨K [(.i 0)] h⟩) (@hid _ ⟨K [(.i 1)] h⟩)⟩)⟩)⟩)⟩)⟩)⟩)⟩)⟩)⟩)⟩)⟩)⟩)⟩)
theorem g27 : (fun A : Alg Prop (HL) => p27 A) = fun A => f27 A := by kernel_rfl
theorem h27 (ls : List Lf) (H : HL) (K : List Lf → HL → Prop) : p27 P1 ls H K = av P1 (xc 27) ac drN n27 ls H K :=
 congrFun (congrFun (congrFun ((congrFun g27 P1).trans (congrFun (congrFun (congrFun e27 Prop) (HL)) P1)) ls) H) K
theorem u27 {ls : List Lf} {H : HL} {K : List Lf → HL → Prop} (hls : aX ls = true) (h : p27 P1 ls H K) : ∃ rs H', aJ cc ac 27 ls (absH ab H) rs (absH ab H') ∧ K rs H' :=
 fj i27 hls (h27 ls H K ▸ h)
theorem q27 {ls rs : List Lf} (hls : aX ls = true) (h : p27 P1 ls [] fun rs' _ => rs' = rs) : Cc 27 ls rs := by
 obtain ⟨_, _, h1, rfl⟩ := u27 hls h
 exact fQ eJ ce (sg := ⟨[.agg [.i .i64, .i .i64]], [li]⟩) rfl (by kernel_rfl) h1
/-- crimp/crimpref06.Check -/
def p28 (A : Alg Prop (HL)) (ls : List Lf) (h : HL) (K : List Lf → HL → Prop) : Prop := A.unI ls (@hid _ ⟨fun Q a9 => A.unI a9 (@hid _ ⟨fun V b0 => A.unV b0 (@hid _ ⟨fun J b1 => A.un0 b1 (@hid _ ⟨A.call 27 [(.i Q), (.i V)] h (@hid _ ⟨fun b2 a0 => A.unI b2 (@hid _ ⟨fun b3 b4 => A.un0 b4 (@hid _ ⟨A.cmp .eql b3 0 (@hid _ ⟨fun b5 => A.cond b5 (@hid _ ⟨K [(.i 1)] a0⟩) (@hid _ ⟨A.loop (@hid _ ⟨fun b6 b7 h19 => A.unI b7 (@hid _ ⟨fun n20 b8 => A.un0 b8 (@hid _ ⟨A.opt (lenS J) (@hid _ ⟨fun x22 => A.cmp .lss n20 x22 (@hid _ ⟨fun b9 => A.cond b9 (@hid _ ⟨A.opt (idS 3 J n20) (@hid _ ⟨fun c0 => A.opt (fdP 2 c0) (@hid _ ⟨fun a1 => A.chk a1 (@hid _ ⟨A.peek (.lg cc 1 a1) h19 (@hid _ ⟨fun c1 => A.ucI .u8 c1 (@hid _ ⟨fun n27 d0 => A.uc0 d0 (@hid _ ⟨A.cmp .lss n27 1 (@hid _ ⟨fun d1 => A.cond d1 (@hid _ ⟨K [(.i 1)] h19⟩) (@hid _ ⟨A.opt (idS 3 J n20) (@hid _ ⟨fun d2 => A.opt (fdP 2 d2) (@hid _ ⟨fun a2 => A.chk a2 (@hid _ ⟨A.peek (.lg cc 1 a2) h19 (@hid _ ⟨fun d3 => A.ucI .u8 d3 (@hid _ ⟨fun n33 d4 => A.uc0 d4 (@hid _ ⟨A.cmp .gtr n33 3 (@hid _ ⟨fun d5 => A.cond d5 (@hid _ ⟨K [(.i 1)] h19⟩) (@hid _ ⟨A.ari .add .i64 n20 1 (@hid _ ⟨fun d6 => b6 [(.i d6)] h19⟩)⟩)⟩)⟩)⟩)⟩)⟩)⟩)⟩)⟩)⟩)⟩)⟩)⟩)⟩)⟩)⟩)⟩) (@hid _ ⟨A.call 47 [(.i Q), (.i V)] h19 (@hid _ ⟨fun d7 d8 => A.unV d7 (@hid _ ⟨fun a3 d9 => A.un0 d9 (@hid _ ⟨A.loop (@hid _ ⟨fun e0 e1 a4 => A.unI e1 (@hid _ ⟨fun n44 e2 => A.unI e2 (@hid _ ⟨fun n46 e3 => A.unI e3 (@hid _ ⟨fun O e4 => A.un0 e4 (@hid _ ⟨A.opt (lenS J) (@hid _ ⟨fun e5 => A.cmp .lss O e5 (@hid _ ⟨fun e6 => A.cond e6 (@hid _ ⟨A.loop (@hid _ ⟨fun e8 e9 h54 => A.unI e9 (@hid _ ⟨fun n55 f0 => A.unI f0 (@hid _ ⟨fun n57 f1 => A.un0 f1 (@hid _ ⟨A.opt (lenS a3) (@hid _ ⟨fun f2 => A.cmp .lss n57 f2 (@hid _ ⟨fun f3 => A.cond f3 (@hid _ ⟨A.opt (idS 2 a3 n57) (@hid _ ⟨fun f4 => A.peek (.lg cc 2 f4) h54 (@hid _ ⟨fun f5 => A.ucI .i64 f5 (@hid _ ⟨fun n63 f6 => A.ucI .u8 f6 (@hid _ ⟨fun n65 f8 => A.uc0 f8 (@hid _ ⟨A.opt (idS 3 J O) (@hid _ ⟨fun f9 => A.opt (fdP 0 f9) (@hid _ ⟨fun a5 => A.chk a5 (@hid _ ⟨A.peek (.lg cc 1 a5) h54 (@hid _ ⟨fun g0 => A.ucI .i64 g0 (@hid _ ⟨fun n70 g1 => A.uc0 g1 (@hid _ ⟨A.opt (idS 3 J O) (@hid _ ⟨fun g2 => A.opt (fdP 1 g2) (@hid _ ⟨fun a6 => A.chk a6 (@hid _ ⟨A.peek (.lg cc 1 a6) h54 (@hid _ ⟨fun g3 => A.ucI .u8 g3 (@hid _ ⟨fun n75 g4 => A.uc0 g4 (@hid _ ⟨A.eqs [((.i n63), (.i n70)), ((.i n65), (.i n75))] (@hid _ ⟨fun g5 => A.join (@hid _ ⟨fun g6 h79 => A.unI g6 (@hid _ ⟨fun n80 g8 => A.un0 g8 (@hid _ ⟨A.ari .add .i64 n57 1 (@hid _ ⟨fun n82 => e8 [(.i n80), (.i n82)] h79⟩)⟩)⟩)⟩) (@hid _ ⟨fun a7 => A.cond g5 (@hid _ ⟨a7 [(.i n57)] h54⟩) (@hid _ ⟨a7 [(.i n55)] h54⟩)⟩)⟩)⟩)⟩)⟩)⟩)⟩)⟩)⟩)⟩)⟩)⟩)⟩)⟩)⟩)⟩)⟩)⟩)⟩)⟩) (@hid _ ⟨A.cmp .lss n55 0 (@hid _ ⟨fun g9 => A.cond g9 (@hid _ ⟨K [(.i 7)] h54⟩) (@hid _ ⟨A.cmp .leq n55 n46 (@hid _ ⟨fun h0 => A.join (@hid _ ⟨fun h1 h2 => A.unI h1 (@hid _ ⟨fun n88 h3 => A.un0 h3 (@hid _ ⟨A.ari .add .i64 O 1 (@hid _ ⟨fun n90 => e0 [(.i n88), (.i n55), (.i n90)] h2⟩)⟩)⟩)⟩) (@hid _ ⟨fun a8 => A.cond h0 (@hid _ ⟨a8 [(.i 6)] h54⟩) (@hid _ ⟨a8 [(.i n44)] h54⟩)⟩)⟩)⟩)⟩)⟩)⟩)⟩)⟩)⟩)⟩)⟩) [(.i (-1)), (.i 0)] a4⟩) (@hid _ ⟨K [(.i n44)] a4⟩)⟩)⟩)⟩)⟩)⟩)⟩)⟩) [(.i 0), (.i (-1)), (.i 0)] d8⟩)⟩)⟩)⟩)⟩)⟩)⟩)⟩)⟩) [(.i 0)] a0⟩)⟩)⟩)⟩)⟩)⟩)⟩)⟩)⟩)
theorem g28 : (fun A : Alg Prop (HL) => p28 A) = fun A => f28 A := by kernel_rfl
theorem h28 (ls : List Lf) (H : HL) (K : List Lf → HL → Prop) : p28 P1 ls H K = av P1 (xc 28) ac drN n28 ls H K :=
 congrFun (congrFun (congrFun ((congrFun g28 P1).trans (congrFun (congrFun (congrFun e28 Prop) (HL)) P1)) ls) H) K
theorem x28 {ls : List Lf} {H : HL} {K : List Lf → HL → Prop} (hls : ca ls) (h : p28 P1 ls H K) : ∃ rs H', aJ cc ac 28 ls (absH ab H) rs (absH ab H') ∧ K rs H' :=
 gt i28 hls (h28 ls H K ▸ h)
/-- crimp/sheets.Points -/
def p31 (A : Alg Prop (HL)) (ls : List Lf) (h : HL) (K : List Lf → HL → Prop) : Prop := A.unI ls (@hid _ ⟨fun V a5 => A.unI a5 (@hid _ ⟨fun a0 a6 => A.un0 a6 (@hid _ ⟨A.call 56 [(.i V), (.i a0)] h (@hid _ ⟨fun a7 h11 => A.unI a7 (@hid _ ⟨fun n12 a8 => A.un0 a8 (@hid _ ⟨A.cmp .neq n12 0 (@hid _ ⟨fun a9 => A.cond a9 (@hid _ ⟨K [(.v (.slice none 0 0)), (.i n12)] h11⟩) (@hid _ ⟨A.loop (@hid _ ⟨fun b0 b1 a1 => A.unV b1 (@hid _ ⟨fun a2 b2 => A.unI b2 (@hid _ ⟨fun n20 b3 => A.un0 b3 (@hid _ ⟨A.ari .mul .i64 2 a0 (@hid _ ⟨fun n22 => A.cmp .lss n20 n22 (@hid _ ⟨fun b4 => A.cond b4 (@hid _ ⟨A.loop (@hid _ ⟨fun b5 b6 O => A.unV b6 (@hid _ ⟨fun Q b7 => A.unI b7 (@hid _ ⟨fun J b8 => A.un0 b8 (@hid _ ⟨A.ari .mul .i64 2 V (@hid _ ⟨fun n31 => A.cmp .lss J n31 (@hid _ ⟨fun b9 => A.cond b9 (@hid _ ⟨A.ari .rem .i64 J 2 (@hid _ ⟨fun n33 => A.ari .rem .i64 n20 2 (@hid _ ⟨fun n34 => A.cmp .eql n33 n34 (@hid _ ⟨fun c0 => A.join (@hid _ ⟨fun c1 d0 => A.unV c1 (@hid _ ⟨fun d1 d2 => A.un0 d2 (@hid _ ⟨A.ari .add .i64 J 1 (@hid _ ⟨fun n40 => b5 [(.v d1), (.i n40)] d0⟩)⟩)⟩)⟩) (@hid _ ⟨fun a3 => A.cond c0 (@hid _ ⟨A.new (.cells [(.int .i64 J), (.int .i64 n20)] 2 true) O (@hid _ ⟨fun d3 d4 => A.heap (.ap cc 2 16 Q (.slice (some ⟨d3, 0, (some 12)⟩) 1 2)) d4 (@hid _ ⟨fun d5 d6 => A.ucV d5 (@hid _ ⟨fun a4 d7 => A.chk a4 (@hid _ ⟨A.uc0 d7 (@hid _ ⟨a3 [(.v a4)] d6⟩)⟩)⟩)⟩)⟩)⟩) (@hid _ ⟨a3 [(.v Q)] O⟩)⟩)⟩)⟩)⟩)⟩) (@hid _ ⟨A.ari .add .i64 n20 1 (@hid _ ⟨fun d8 => b0 [(.v Q), (.i d8)] O⟩)⟩)⟩)⟩)⟩)⟩)⟩)⟩) [(.v a2), (.i 1)] a1⟩) (@hid _ ⟨A.call 57 [(.v a2)] a1 (@hid _ ⟨fun d9 e0 => A.unV d9 (@hid _ ⟨fun e1 e2 => A.un0 e2 (@hid _ ⟨K [(.v e1), (.i 0)] e0⟩)⟩)⟩)⟩)⟩)⟩)⟩)⟩)⟩)⟩) [(.v (.slice none 0 0)), (.i 1)] h11⟩)⟩)⟩)⟩)⟩)⟩)⟩)⟩)
theorem g31 : (fun A : Alg Prop (HL) => p31 A) = fun A => f31 A := by kernel_rfl
theorem h31 (ls : List Lf) (H : HL) (K : List Lf → HL → Prop) : p31 P1 ls H K = av P1 (xc 31) ac drN n31 ls H K :=
 congrFun (congrFun (congrFun ((congrFun g31 P1).trans (congrFun (congrFun (congrFun e31 Prop) (HL)) P1)) ls) H) K
theorem u31 {ls : List Lf} {H : HL} {K : List Lf → HL → Prop} (hls : aX ls = true) (h : p31 P1 ls H K) : ∃ rs H', aJ cc ac 31 ls (absH ab H) rs (absH ab H') ∧ K rs H' :=
 fj i31 hls (h31 ls H K ▸ h)
/-- crimp/corners.corner -/
def p32 (A : Alg Prop (HL)) (ls : List Lf) (h : HL) (K : List Lf → HL → Prop) : Prop := A.unI ls (@hid _ ⟨fun Q a0 => A.unI a0 (@hid _ ⟨fun V a1 => A.unI a1 (@hid _ ⟨fun O a2 => A.unI a2 (@hid _ ⟨fun n12 a3 => A.un0 a3 (@hid _ ⟨A.call 56 [(.i Q), (.i V)] h (@hid _ ⟨fun a4 J => A.unI a4 (@hid _ ⟨fun n16 a5 => A.un0 a5 (@hid _ ⟨A.cmp .neq n16 0 (@hid _ ⟨fun a6 => A.cond a6 (@hid _ ⟨K [(.i n16)] J⟩) (@hid _ ⟨A.cmp .leq O 0 (@hid _ ⟨fun a7 => A.cond a7 (@hid _ ⟨K [(.i 7)] J⟩) (@hid _ ⟨A.cmp .leq n12 0 (@hid _ ⟨fun a8 => A.cond a8 (@hid _ ⟨K [(.i 7)] J⟩) (@hid _ ⟨A.ari .mul .i64 2 Q (@hid _ ⟨fun n21 => A.cmp .geq O n21 (@hid _ ⟨fun a9 => A.cond a9 (@hid _ ⟨K [(.i 7)] J⟩) (@hid _ ⟨A.ari .mul .i64 2 V (@hid _ ⟨fun b0 => A.cmp .geq n12 b0 (@hid _ ⟨fun b1 => A.cond b1 (@hid _ ⟨K [(.i 7)] J⟩) (@hid _ ⟨A.ari .rem .i64 O 2 (@hid _ ⟨fun b2 => A.ari .rem .i64 n12 2 (@hid _ ⟨fun b3 => A.cmp .neq b2 b3 (@hid _ ⟨fun b4 => A.cond b4 (@hid _ ⟨K [(.i 7)] J⟩) (@hid _ ⟨K [(.i 0)] J⟩)⟩)⟩)⟩)⟩)⟩)⟩)⟩)⟩)⟩)⟩)⟩)⟩)⟩)⟩)⟩)⟩)⟩)⟩)⟩)⟩)⟩)⟩)⟩)
theorem g32 : (fun A : Alg Prop (HL) => p32 A) = fun A => f32 A := by kernel_rfl
theorem h32 (ls : List Lf) (H : HL) (K : List Lf → HL → Prop) : p32 P1 ls H K = av P1 (xc 32) ac drN n32 ls H K :=
 congrFun (congrFun (congrFun ((congrFun g32 P1).trans (congrFun (congrFun (congrFun e32 Prop) (HL)) P1)) ls) H) K
theorem u32 {ls : List Lf} {H : HL} {K : List Lf → HL → Prop} (hls : aX ls = true) (h : p32 P1 ls H K) : ∃ rs H', aJ cc ac 32 ls (absH ab H) rs (absH ab H') ∧ K rs H' :=
 fj i32 hls (h32 ls H K ▸ h)
theorem q32 {ls rs : List Lf} (hls : aX ls = true) (h : p32 P1 ls [] fun rs' _ => rs' = rs) : Cc 32 ls rs := by
 obtain ⟨_, _, h1, rfl⟩ := u32 hls h
 exact fQ eJ ce (sg := ⟨[.agg [.i .i64, .i .i64], .agg [.i .i64, .i .i64]], [li]⟩) rfl (by kernel_rfl) h1
/-- crimp/patterns.Check -/
def p40 (A : Alg Prop (HL)) (ls : List Lf) (h : HL) (K : List Lf → HL → Prop) : Prop := A.unI ls (@hid _ ⟨fun V a9 => A.unI a9 (@hid _ ⟨fun a0 b0 => A.unV b0 (@hid _ ⟨fun J b1 => A.un0 b1 (@hid _ ⟨A.call 56 [(.i V), (.i a0)] h (@hid _ ⟨fun b2 a1 => A.unI b2 (@hid _ ⟨fun a2 b3 => A.un0 b3 (@hid _ ⟨A.cmp .neq a2 0 (@hid _ ⟨fun b4 => A.cond b4 (@hid _ ⟨K [(.i a2)] a1⟩) (@hid _ ⟨A.call 71 [(.v J), (.v (.func (.func 72) ⟨[]⟩ ⟨[]⟩))] a1 (@hid _ ⟨fun b5 a3 => A.unB b5 (@hid _ ⟨fun b6 b7 => A.un0 b7 (@hid _ ⟨A.cond b6 (@hid _ ⟨K [(.i 1)] a3⟩) (@hid _ ⟨A.opt (lenS J) (@hid _ ⟨fun x21 => A.loop (@hid _ ⟨fun b8 b9 O => A.unI b9 (@hid _ ⟨fun Q c0 => A.un0 c0 (@hid _ ⟨A.cmp .lss Q x21 (@hid _ ⟨fun c1 => A.cond c1 (@hid _ ⟨A.opt (idS 3 J Q) (@hid _ ⟨fun x28 => A.peek (.lg cc 3 x28) O (@hid _ ⟨fun d0 => A.ucI .i64 d0 (@hid _ ⟨fun a4 d1 => A.ucI .u8 d1 (@hid _ ⟨fun n32 d2 => A.ucI .u8 d2 (@hid _ ⟨fun n34 d3 => A.uc0 d3 (@hid _ ⟨A.call 51 [(.i V), (.i a0), (.i a4), (.i n32)] O (@hid _ ⟨fun d4 a5 => A.unI d4 (@hid _ ⟨fun n38 d5 => A.unI d5 (@hid _ ⟨fun n40 d6 => A.unI d6 (@hid _ ⟨fun n42 d7 => A.un0 d7 (@hid _ ⟨A.cmp .neq n42 0 (@hid _ ⟨fun d8 => A.cond d8 (@hid _ ⟨K [(.i 7)] a5⟩) (@hid _ ⟨A.call 55 [(.i a4), (.i n32), (.i n34)] a5 (@hid _ ⟨fun d9 a6 => A.unI d9 (@hid _ ⟨fun n47 e0 => A.unI e0 (@hid _ ⟨fun n49 e1 => A.un0 e1 (@hid _ ⟨A.eqs [((.i n38), (.i n47)), ((.i n40), (.i n49))] (@hid _ ⟨fun e2 => A.cond (!e2) (@hid _ ⟨K [(.i 7)] a6⟩) (@hid _ ⟨A.ari .add .i64 Q 1 (@hid _ ⟨fun n52 => b8 [(.i n52)] a6⟩)⟩)⟩)⟩)⟩)⟩)⟩)⟩)⟩)⟩)⟩)⟩)⟩)⟩)⟩)⟩)⟩)⟩)⟩)⟩)⟩) (@hid _ ⟨A.loop (@hid _ ⟨fun e3 e4 h55 => A.unI e4 (@hid _ ⟨fun n56 e5 => A.un0 e5 (@hid _ ⟨A.opt (lenS J) (@hid _ ⟨fun e6 => A.cmp .lss n56 e6 (@hid _ ⟨fun e8 => A.cond e8 (@hid _ ⟨A.ari .sub .i64 n56 1 (@hid _ ⟨fun n60 => A.opt (idS 3 J n60) (@hid _ ⟨fun e9 => A.peek (.lg cc 3 e9) h55 (@hid _ ⟨fun f0 => A.ucI .i64 f0 (@hid _ ⟨fun n63 f1 => A.ucI .u8 f1 (@hid _ ⟨fun n65 f2 => A.ucI .u8 f2 (@hid _ ⟨fun n67 f3 => A.uc0 f3 (@hid _ ⟨A.call 55 [(.i n63), (.i n65), (.i n67)] h55 (@hid _ ⟨fun f4 a7 => A.unI f4 (@hid _ ⟨fun n71 f5 => A.unI f5 (@hid _ ⟨fun n73 f6 => A.un0 f6 (@hid _ ⟨A.opt (idS 3 J n56) (@hid _ ⟨fun f8 => A.peek (.lg cc 3 f8) a7 (@hid _ ⟨fun f9 => A.ucI .i64 f9 (@hid _ ⟨fun n77 g0 => A.ucI .u8 g0 (@hid _ ⟨fun n79 g1 => A.ucI .u8 g1 (@hid _ ⟨fun n81 g2 => A.uc0 g2 (@hid _ ⟨A.call 55 [(.i n77), (.i n79), (.i n81)] a7 (@hid _ ⟨fun g3 g4 => A.unI g3 (@hid _ ⟨fun n85 g5 => A.unI g5 (@hid _ ⟨fun n87 g6 => A.un0 g6 (@hid _ ⟨A.call 54 [(.i n71), (.i n73), (.i n85), (.i n87)] g4 (@hid _ ⟨fun g8 a8 => A.unI g8 (@hid _ ⟨fun n91 g9 => A.un0 g9 (@hid _ ⟨A.cmp .geq n91 0 (@hid _ ⟨fun h0 => A.cond h0 (@hid _ ⟨K [(.i 6)] a8⟩) (@hid _ ⟨A.ari .add .i64 n56 1 (@hid _ ⟨fun n94 => e3 [(.i n94)] a8⟩)⟩)⟩)⟩)⟩)⟩)⟩)⟩)⟩)⟩)⟩)⟩)⟩)⟩)⟩)⟩)⟩)⟩)⟩)⟩)⟩)⟩)⟩)⟩)⟩)⟩)⟩)⟩) (@hid _ ⟨K [(.i 0)] h55⟩)⟩)⟩)⟩)⟩)⟩) [(.i 1)] O⟩)⟩)⟩)⟩)⟩) [(.i 0)] a3⟩)⟩)⟩)⟩)⟩)⟩)⟩)⟩)⟩)⟩)⟩)⟩)⟩)⟩)
theorem g40 : (fun A : Alg Prop (HL) => p40 A) = fun A => f40 A := by kernel_rfl
theorem h40 (ls : List Lf) (H : HL) (K : List Lf → HL → Prop) : p40 P1 ls H K = av P1 (xc 40) ac drN n40 ls H K :=
 congrFun (congrFun (congrFun ((congrFun g40 P1).trans (congrFun (congrFun (congrFun e40 Prop) (HL)) P1)) ls) H) K
theorem x40 {ls : List Lf} {H : HL} {K : List Lf → HL → Prop} (hls : ca ls) (h : p40 P1 ls H K) : ∃ rs H', aJ cc ac 40 ls (absH ab H) rs (absH ab H') ∧ K rs H' :=
 gt i40 hls (h40 ls H K ▸ h)
/-- crimp/sheets.Cell -/
def p49 (A : Alg Prop (HL)) (ls : List Lf) (h : HL) (K : List Lf → HL → Prop) : Prop := A.unI ls (@hid _ ⟨fun J a2 => A.unI a2 (@hid _ ⟨fun O a3 => A.unI a3 (@hid _ ⟨fun Q a4 => A.un0 a4 (@hid _ ⟨A.call 56 [(.i J), (.i O)] h (@hid _ ⟨fun a5 V => A.unI a5 (@hid _ ⟨fun a0 a6 => A.un0 a6 (@hid _ ⟨A.cmp .neq a0 0 (@hid _ ⟨fun a7 => A.cond a7 (@hid _ ⟨K [(.i 0), (.i 0), (.i 0), (.i a0)] V⟩) (@hid _ ⟨A.call 77 [(.i J), (.i O), (.i Q)] V (@hid _ ⟨fun a8 a1 => A.unB a8 (@hid _ ⟨fun a9 b0 => A.un0 b0 (@hid _ ⟨A.cond (!a9) (@hid _ ⟨K [(.i 0), (.i 0), (.i 0), (.i 7)] a1⟩) (@hid _ ⟨A.call 78 [(.i J), (.i O), (.i Q)] a1 (@hid _ ⟨fun b1 h22 => A.unI b1 (@hid _ ⟨fun b2 b3 => A.unI b3 (@hid _ ⟨fun b4 b5 => A.unI b5 (@hid _ ⟨fun n27 b6 => A.un0 b6 (@hid _ ⟨K [(.i b2), (.i b4), (.i n27), (.i 0)] h22⟩)⟩)⟩)⟩)⟩)⟩)⟩)⟩)⟩)⟩)⟩)⟩)⟩)⟩)⟩)⟩)⟩)⟩)
theorem g49 : (fun A : Alg Prop (HL) => p49 A) = fun A => f49 A := by kernel_rfl
theorem h49 (ls : List Lf) (H : HL) (K : List Lf → HL → Prop) : p49 P1 ls H K = av P1 (xc 49) ac drN n49 ls H K :=
 congrFun (congrFun (congrFun ((congrFun g49 P1).trans (congrFun (congrFun (congrFun e49 Prop) (HL)) P1)) ls) H) K
theorem u49 {ls : List Lf} {H : HL} {K : List Lf → HL → Prop} (hls : aX ls = true) (h : p49 P1 ls H K) : ∃ rs H', aJ cc ac 49 ls (absH ab H) rs (absH ab H') ∧ K rs H' :=
 fj i49 hls (h49 ls H K ▸ h)
theorem q49 {ls rs : List Lf} (hls : aX ls = true) (h : p49 P1 ls [] fun rs' _ => rs' = rs) : Cc 49 ls rs := by
 obtain ⟨_, _, h1, rfl⟩ := u49 hls h
 exact fQ eJ ce (sg := ⟨[.agg [.i .i64, .i .i64], li], [.agg [.i .i64, .i .i64, .i .u8], li]⟩) rfl (by kernel_rfl) h1
/-- crimp/sheets.Name -/
def p51 (A : Alg Prop (HL)) (ls : List Lf) (h : HL) (K : List Lf → HL → Prop) : Prop := A.unI ls (@hid _ ⟨fun Q V => A.unI V (@hid _ ⟨fun a0 a1 => A.unI a1 (@hid _ ⟨fun J a2 => A.unI a2 (@hid _ ⟨fun n12 a3 => A.un0 a3 (@hid _ ⟨A.call 80 [(.i Q), (.i a0), (.i J), (.i n12)] h (@hid _ ⟨fun a4 O => A.unI a4 (@hid _ ⟨fun n16 a5 => A.unI a5 (@hid _ ⟨fun n18 a6 => A.un0 a6 (@hid _ ⟨A.cmp .neq n18 0 (@hid _ ⟨fun a7 => A.cond a7 (@hid _ ⟨K [(.i 0), (.i 0), (.i n18)] O⟩) (@hid _ ⟨A.cmp .lss n16 J (@hid _ ⟨fun a8 => A.sel a8 n16 J (@hid _ ⟨fun n22 => K [(.i n22), (.i n12), (.i 0)] O⟩)⟩)⟩)⟩)⟩)⟩)⟩)⟩)⟩)⟩)⟩)⟩)⟩)
theorem g51 : (fun A : Alg Prop (HL) => p51 A) = fun A => f51 A := by kernel_rfl
theorem h51 (ls : List Lf) (H : HL) (K : List Lf → HL → Prop) : p51 P1 ls H K = av P1 (xc 51) ac drN n51 ls H K :=
 congrFun (congrFun (congrFun ((congrFun g51 P1).trans (congrFun (congrFun (congrFun e51 Prop) (HL)) P1)) ls) H) K
theorem u51 {ls : List Lf} {H : HL} {K : List Lf → HL → Prop} (hls : aX ls = true) (h : p51 P1 ls H K) : ∃ rs H', aJ cc ac 51 ls (absH ab H) rs (absH ab H') ∧ K rs H' :=
 fj i51 hls (h51 ls H K ▸ h)
theorem q51 {ls rs : List Lf} (hls : aX ls = true) (h : p51 P1 ls [] fun rs' _ => rs' = rs) : Cc 51 ls rs := by
 obtain ⟨_, _, h1, rfl⟩ := u51 hls h
 exact fQ eJ ce (sg := ⟨[.agg [.i .i64, .i .i64], li, .leaf (.i .u8)], [.agg [.i .i64, .i .u8], li]⟩) rfl (by kernel_rfl) h1
/-- crimp/patterns.order -/
def p54 (A : Alg Prop (HL)) (ls : List Lf) (h : HL) (K : List Lf → HL → Prop) : Prop := A.unI ls (@hid _ ⟨fun J Q => A.unI Q (@hid _ ⟨fun V a0 => A.unI a0 (@hid _ ⟨fun O a1 => A.unI a1 (@hid _ ⟨fun n12 a2 => A.un0 a2 (@hid _ ⟨A.cmp .neq J O (@hid _ ⟨fun a3 => A.cond a3 (@hid _ ⟨A.ari .sub .i64 J O (@hid _ ⟨fun n15 => K [(.i n15)] h⟩)⟩) (@hid _ ⟨A.conv .i64 V (@hid _ ⟨fun n16 => A.conv .i64 n12 (@hid _ ⟨fun a4 => A.ari .sub .i64 n16 a4 (@hid _ ⟨fun n18 => K [(.i n18)] h⟩)⟩)⟩)⟩)⟩)⟩)⟩)⟩)⟩)⟩)
theorem g54 : (fun A : Alg Prop (HL) => p54 A) = fun A => f54 A := by kernel_rfl
theorem h54 (ls : List Lf) (H : HL) (K : List Lf → HL → Prop) : p54 P1 ls H K = av P1 (xc 54) ac drN n54 ls H K :=
 congrFun (congrFun (congrFun ((congrFun g54 P1).trans (congrFun (congrFun (congrFun e54 Prop) (HL)) P1)) ls) H) K
theorem u54 {ls : List Lf} {H : HL} {K : List Lf → HL → Prop} (hls : aX ls = true) (h : p54 P1 ls H K) : ∃ rs H', aJ cc ac 54 ls (absH ab H) rs (absH ab H') ∧ K rs H' :=
 fj i54 hls (h54 ls H K ▸ h)
theorem q54 {ls rs : List Lf} (hls : aX ls = true) (h : p54 P1 ls [] fun rs' _ => rs' = rs) : Cc 54 ls rs := by
 obtain ⟨_, _, h1, rfl⟩ := u54 hls h
 exact fQ eJ ce (sg := ⟨[.agg [.i .i64, .i .u8], .agg [.i .i64, .i .u8]], [li]⟩) rfl (by kernel_rfl) h1
/-- (crimp/patterns.Crease).unit -/
def p55 (A : Alg Prop (HL)) (ls : List Lf) (h : HL) (K : List Lf → HL → Prop) : Prop := A.unI ls (@hid _ ⟨fun J O => A.unI O (@hid _ ⟨fun Q V => A.unI V (@hid _ ⟨fun a1 a0 => A.un0 a0 (@hid _ ⟨K [(.i J), (.i Q)] h⟩)⟩)⟩)⟩)
theorem g55 : (fun A : Alg Prop (HL) => p55 A) = fun A => f55 A := by kernel_rfl
theorem h55 (ls : List Lf) (H : HL) (K : List Lf → HL → Prop) : p55 P1 ls H K = av P1 (xc 55) ac drN n55 ls H K :=
 congrFun (congrFun (congrFun ((congrFun g55 P1).trans (congrFun (congrFun (congrFun e55 Prop) (HL)) P1)) ls) H) K
theorem u55 {ls : List Lf} {H : HL} {K : List Lf → HL → Prop} (hls : aX ls = true) (h : p55 P1 ls H K) : ∃ rs H', aJ cc ac 55 ls (absH ab H) rs (absH ab H') ∧ K rs H' :=
 fj i55 hls (h55 ls H K ▸ h)
theorem q55 {ls rs : List Lf} (hls : aX ls = true) (h : p55 P1 ls [] fun rs' _ => rs' = rs) : Cc 55 ls rs := by
 obtain ⟨_, _, h1, rfl⟩ := u55 hls h
 exact fQ eJ ce (sg := ⟨[.agg [.i .i64, .i .u8, .i .u8]], [.agg [.i .i64, .i .u8]]⟩) rfl (by kernel_rfl) h1
/-- crimp/sheets.Check -/
def p56 (A : Alg Prop (HL)) (ls : List Lf) (h : HL) (K : List Lf → HL → Prop) : Prop := A.unI ls (@hid _ ⟨fun J Q => A.unI Q (@hid _ ⟨fun O V => A.un0 V (@hid _ ⟨A.cmp .lss J 1 (@hid _ ⟨fun a0 => A.cond a0 (@hid _ ⟨K [(.i 1)] h⟩) (@hid _ ⟨A.cmp .lss O 1 (@hid _ ⟨fun a1 => A.cond a1 (@hid _ ⟨K [(.i 1)] h⟩) (@hid _ ⟨A.cmp .gtr J 256 (@hid _ ⟨fun a2 => A.cond a2 (@hid _ ⟨K [(.i 1)] h⟩) (@hid _ ⟨A.cmp .gtr O 256 (@hid _ ⟨fun a3 => A.cond a3 (@hid _ ⟨K [(.i 1)] h⟩) (@hid _ ⟨A.ari .mul .i64 J O (@hid _ ⟨fun a4 => A.cmp .gtr a4 256 (@hid _ ⟨fun a5 => A.cond a5 (@hid _ ⟨K [(.i 1)] h⟩) (@hid _ ⟨K [(.i 0)] h⟩)⟩)⟩)⟩)⟩)⟩)⟩)⟩)⟩)⟩)⟩)⟩)⟩)⟩)
theorem g56 : (fun A : Alg Prop (HL) => p56 A) = fun A => f56 A := by kernel_rfl
theorem h56 (ls : List Lf) (H : HL) (K : List Lf → HL → Prop) : p56 P1 ls H K = av P1 (xc 56) ac drN n56 ls H K :=
 congrFun (congrFun (congrFun ((congrFun g56 P1).trans (congrFun (congrFun (congrFun e56 Prop) (HL)) P1)) ls) H) K
theorem u56 {ls : List Lf} {H : HL} {K : List Lf → HL → Prop} (hls : aX ls = true) (h : p56 P1 ls H K) : ∃ rs H', aJ cc ac 56 ls (absH ab H) rs (absH ab H') ∧ K rs H' :=
 fj i56 hls (h56 ls H K ▸ h)
theorem q56 {ls rs : List Lf} (hls : aX ls = true) (h : p56 P1 ls [] fun rs' _ => rs' = rs) : Cc 56 ls rs := by
 obtain ⟨_, _, h1, rfl⟩ := u56 hls h
 exact fQ eJ ce (sg := ⟨[.agg [.i .i64, .i .i64]], [li]⟩) rfl (by kernel_rfl) h1
/-- crimp/cells.Neighbour -/
def p62 (A : Alg Prop (HL)) (ls : List Lf) (h : HL) (K : List Lf → HL → Prop) : Prop := A.unI ls (@hid _ ⟨fun Q a2 => A.unI a2 (@hid _ ⟨fun V a3 => A.unI a3 (@hid _ ⟨fun J a4 => A.unI a4 (@hid _ ⟨fun n12 a5 => A.un0 a5 (@hid _ ⟨A.call 79 [(.i Q), (.i V), (.i J)] h (@hid _ ⟨fun a6 O => A.unI a6 (@hid _ ⟨fun n16 a7 => A.un0 a7 (@hid _ ⟨A.cmp .neq n16 0 (@hid _ ⟨fun a8 => A.cond a8 (@hid _ ⟨K [(.i 0), (.i 0), (.i 0), (.i 1)] O⟩) (@hid _ ⟨A.cmp .gtr n12 2 (@hid _ ⟨fun a9 => A.cond a9 (@hid _ ⟨K [(.i 0), (.i 0), (.i 0), (.i 1)] O⟩) (@hid _ ⟨A.opt (inB 4 J) (@hid _ ⟨fun x20 => A.opt (inB 3 n12) (@hid _ ⟨fun x21 => A.opt (mw gl2 4 [(J, 17), (n12, 3)] 3) (@hid _ ⟨fun x22 => A.ucI .i64 x22 (@hid _ ⟨fun b0 b1 => A.ucI .i64 b1 (@hid _ ⟨fun b2 b3 => A.ucI .u8 b3 (@hid _ ⟨fun n27 b4 => A.uc0 b4 (@hid _ ⟨A.ari .add .i64 b0 Q (@hid _ ⟨fun a0 => A.ari .add .i64 b2 V (@hid _ ⟨fun a1 => A.call 79 [(.i a0), (.i a1), (.i n27)] O (@hid _ ⟨fun b5 h32 => A.unI b5 (@hid _ ⟨fun n33 b6 => A.un0 b6 (@hid _ ⟨A.cmp .neq n33 0 (@hid _ ⟨fun b7 => A.cond b7 (@hid _ ⟨K [(.i 0), (.i 0), (.i 0), (.i 3)] h32⟩) (@hid _ ⟨K [(.i a0), (.i a1), (.i n27), (.i 0)] h32⟩)⟩)⟩)⟩)⟩)⟩)⟩)⟩)⟩)⟩)⟩)⟩)⟩)⟩)⟩)⟩)⟩)⟩)⟩)⟩)⟩)⟩)⟩)⟩)⟩)⟩)
theorem g62 : (fun A : Alg Prop (HL) => p62 A) = fun A => f62 A := by kernel_rfl
theorem h62 (ls : List Lf) (H : HL) (K : List Lf → HL → Prop) : p62 P1 ls H K = av P1 (xc 62) ac drN n62 ls H K :=
 congrFun (congrFun (congrFun ((congrFun g62 P1).trans (congrFun (congrFun (congrFun e62 Prop) (HL)) P1)) ls) H) K
theorem u62 {ls : List Lf} {H : HL} {K : List Lf → HL → Prop} (hls : aX ls = true) (h : p62 P1 ls H K) : ∃ rs H', aJ cc ac 62 ls (absH ab H) rs (absH ab H') ∧ K rs H' :=
 fj i62 hls (h62 ls H K ▸ h)
theorem q62 {ls rs : List Lf} (hls : aX ls = true) (h : p62 P1 ls [] fun rs' _ => rs' = rs) : Cc 62 ls rs := by
 obtain ⟨_, _, h1, rfl⟩ := u62 hls h
 exact fQ eJ ce (sg := ⟨[.agg [.i .i64, .i .i64, .i .u8], .leaf (.i .u8)], [.agg [.i .i64, .i .i64, .i .u8], li]⟩) rfl (by kernel_rfl) h1
/-- slices.ContainsFunc[[]crimp/patterns.Crease,crimp/patterns.Crease] -/
def p71 (A : Alg Prop (HL)) (ls : List Lf) (h : HL) (K : List Lf → HL → Prop) : Prop := A.unV ls (@hid _ ⟨fun J O => A.unV O (@hid _ ⟨fun Q V => A.un0 V (@hid _ ⟨A.call 93 [(.v J), (.v Q)] h (@hid _ ⟨fun a0 h11 => A.unI a0 (@hid _ ⟨fun n12 a1 => A.un0 a1 (@hid _ ⟨A.cmp .geq n12 0 (@hid _ ⟨fun a2 => K [(.b a2)] h11⟩)⟩)⟩)⟩)⟩)⟩)⟩)
theorem g71 : (fun A : Alg Prop (HL) => p71 A) = fun A => f71 A := by kernel_rfl
theorem h71 (ls : List Lf) (H : HL) (K : List Lf → HL → Prop) : p71 P1 ls H K = av P1 (xc 71) ac drN n71 ls H K :=
 congrFun (congrFun (congrFun ((congrFun g71 P1).trans (congrFun (congrFun (congrFun e71 Prop) (HL)) P1)) ls) H) K
theorem x71 {ls : List Lf} {H : HL} {K : List Lf → HL → Prop} (hls : ca ls) (h : p71 P1 ls H K) : ∃ rs H', aJ cc ac 71 ls (absH ab H) rs (absH ab H') ∧ K rs H' :=
 gt i71 hls (h71 ls H K ▸ h)
/-- crimp/patterns.Check$1 -/
def p72 (A : Alg Prop (HL)) (ls : List Lf) (h : HL) (K : List Lf → HL → Prop) : Prop := A.unI ls (@hid _ ⟨fun a4 J => A.unI J (@hid _ ⟨fun a5 O => A.unI O (@hid _ ⟨fun Q V => A.un0 V (@hid _ ⟨A.call 73 [(.i Q)] h (@hid _ ⟨fun a0 a1 => A.unB a0 (@hid _ ⟨fun a2 a3 => A.un0 a3 (@hid _ ⟨K [(.b (!a2))] a1⟩)⟩)⟩)⟩)⟩)⟩)⟩)
theorem g72 : (fun A : Alg Prop (HL) => p72 A) = fun A => f72 A := by kernel_rfl
theorem h72 (ls : List Lf) (H : HL) (K : List Lf → HL → Prop) : p72 P1 ls H K = av P1 (xc 72) ac drN n72 ls H K :=
 congrFun (congrFun (congrFun ((congrFun g72 P1).trans (congrFun (congrFun (congrFun e72 Prop) (HL)) P1)) ls) H) K
theorem u72 {ls : List Lf} {H : HL} {K : List Lf → HL → Prop} (hls : aX ls = true) (h : p72 P1 ls H K) : ∃ rs H', aJ cc ac 72 ls (absH ab H) rs (absH ab H') ∧ K rs H' :=
 fj i72 hls (h72 ls H K ▸ h)
theorem q72 {ls rs : List Lf} (hls : aX ls = true) (h : p72 P1 ls [] fun rs' _ => rs' = rs) : Cc 72 ls rs := by
 obtain ⟨_, _, h1, rfl⟩ := u72 hls h
 exact fQ eJ ce (sg := ⟨[.agg [.i .i64, .i .u8, .i .u8]], [lb]⟩) rfl (by kernel_rfl) h1
/-- crimp/patterns.isKind -/
def p73 (A : Alg Prop (HL)) (ls : List Lf) (h : HL) (K : List Lf → HL → Prop) : Prop := A.unI ls (@hid _ ⟨fun J Q => A.un0 Q (@hid _ ⟨A.join (@hid _ ⟨fun V a0 => A.unB V (@hid _ ⟨fun a1 a2 => A.un0 a2 (@hid _ ⟨K [(.b a1)] a0⟩)⟩)⟩) (@hid _ ⟨fun O => A.cmp .geq J 1 (@hid _ ⟨fun a3 => A.cond a3 (@hid _ ⟨A.cmp .leq J 3 (@hid _ ⟨fun a4 => O [(.b a4)] h⟩)⟩) (@hid _ ⟨O [(.b false)] h⟩)⟩)⟩)⟩)⟩)
theorem g73 : (fun A : Alg Prop (HL) => p73 A) = fun A => f73 A := by kernel_rfl
theorem h73 (ls : List Lf) (H : HL) (K : List Lf → HL → Prop) : p73 P1 ls H K = av P1 (xc 73) ac drN n73 ls H K :=
 congrFun (congrFun (congrFun ((congrFun g73 P1).trans (congrFun (congrFun (congrFun e73 Prop) (HL)) P1)) ls) H) K
theorem u73 {ls : List Lf} {H : HL} {K : List Lf → HL → Prop} (hls : aX ls = true) (h : p73 P1 ls H K) : ∃ rs H', aJ cc ac 73 ls (absH ab H) rs (absH ab H') ∧ K rs H' :=
 fj i73 hls (h73 ls H K ▸ h)
theorem q73 {ls rs : List Lf} (hls : aX ls = true) (h : p73 P1 ls [] fun rs' _ => rs' = rs) : Cc 73 ls rs := by
 obtain ⟨_, _, h1, rfl⟩ := u73 hls h
 exact fQ eJ ce (sg := ⟨[.leaf (.i .u8)], [lb]⟩) rfl (by kernel_rfl) h1
/-- (crimp/sheets.Sheet).has -/
def p77 (A : Alg Prop (HL)) (ls : List Lf) (h : HL) (K : List Lf → HL → Prop) : Prop := A.unI ls (@hid _ ⟨fun Q V => A.unI V (@hid _ ⟨fun a0 a1 => A.unI a1 (@hid _ ⟨fun J a2 => A.un0 a2 (@hid _ ⟨A.join (@hid _ ⟨fun a3 a4 => A.unB a3 (@hid _ ⟨fun a5 a6 => A.un0 a6 (@hid _ ⟨K [(.b a5)] a4⟩)⟩)⟩) (@hid _ ⟨fun O => A.cmp .geq J 0 (@hid _ ⟨fun a7 => A.cond a7 (@hid _ ⟨A.ari .mul .i64 4 Q (@hid _ ⟨fun n18 => A.ari .mul .i64 n18 a0 (@hid _ ⟨fun n19 => A.cmp .lss J n19 (@hid _ ⟨fun a8 => O [(.b a8)] h⟩)⟩)⟩)⟩) (@hid _ ⟨O [(.b false)] h⟩)⟩)⟩)⟩)⟩)⟩)⟩)
theorem g77 : (fun A : Alg Prop (HL) => p77 A) = fun A => f77 A := by kernel_rfl
theorem h77 (ls : List Lf) (H : HL) (K : List Lf → HL → Prop) : p77 P1 ls H K = av P1 (xc 77) ac drN n77 ls H K :=
 congrFun (congrFun (congrFun ((congrFun g77 P1).trans (congrFun (congrFun (congrFun e77 Prop) (HL)) P1)) ls) H) K
theorem u77 {ls : List Lf} {H : HL} {K : List Lf → HL → Prop} (hls : aX ls = true) (h : p77 P1 ls H K) : ∃ rs H', aJ cc ac 77 ls (absH ab H) rs (absH ab H') ∧ K rs H' :=
 fj i77 hls (h77 ls H K ▸ h)
theorem q77 {ls rs : List Lf} (hls : aX ls = true) (h : p77 P1 ls [] fun rs' _ => rs' = rs) : Cc 77 ls rs := by
 obtain ⟨_, _, h1, rfl⟩ := u77 hls h
 exact fQ eJ ce (sg := ⟨[.agg [.i .i64, .i .i64], li], [lb]⟩) rfl (by kernel_rfl) h1
/-- crimp/cells.Check -/
def p79 (A : Alg Prop (HL)) (ls : List Lf) (h : HL) (K : List Lf → HL → Prop) : Prop := A.unI ls (@hid _ ⟨fun J Q => A.unI Q (@hid _ ⟨fun O V => A.unI V (@hid _ ⟨fun a0 a1 => A.un0 a1 (@hid _ ⟨A.cmp .lss J (-4096) (@hid _ ⟨fun a2 => A.cond a2 (@hid _ ⟨K [(.i 1)] h⟩) (@hid _ ⟨A.cmp .gtr J 4096 (@hid _ ⟨fun a3 => A.cond a3 (@hid _ ⟨K [(.i 1)] h⟩) (@hid _ ⟨A.cmp .lss O (-4096) (@hid _ ⟨fun a4 => A.cond a4 (@hid _ ⟨K [(.i 1)] h⟩) (@hid _ ⟨A.cmp .gtr O 4096 (@hid _ ⟨fun a5 => A.cond a5 (@hid _ ⟨K [(.i 1)] h⟩) (@hid _ ⟨A.cmp .gtr a0 3 (@hid _ ⟨fun a6 => A.cond a6 (@hid _ ⟨K [(.i 1)] h⟩) (@hid _ ⟨K [(.i 0)] h⟩)⟩)⟩)⟩)⟩)⟩)⟩)⟩)⟩)⟩)⟩)⟩)⟩)⟩)
theorem g79 : (fun A : Alg Prop (HL) => p79 A) = fun A => f79 A := by kernel_rfl
theorem h79 (ls : List Lf) (H : HL) (K : List Lf → HL → Prop) : p79 P1 ls H K = av P1 (xc 79) ac drN n79 ls H K :=
 congrFun (congrFun (congrFun ((congrFun g79 P1).trans (congrFun (congrFun (congrFun e79 Prop) (HL)) P1)) ls) H) K
theorem u79 {ls : List Lf} {H : HL} {K : List Lf → HL → Prop} (hls : aX ls = true) (h : p79 P1 ls H K) : ∃ rs H', aJ cc ac 79 ls (absH ab H) rs (absH ab H') ∧ K rs H' :=
 fj i79 hls (h79 ls H K ▸ h)
theorem q79 {ls rs : List Lf} (hls : aX ls = true) (h : p79 P1 ls [] fun rs' _ => rs' = rs) : Cc 79 ls rs := by
 obtain ⟨_, _, h1, rfl⟩ := u79 hls h
 exact fQ eJ ce (sg := ⟨[.agg [.i .i64, .i .i64, .i .u8]], [li]⟩) rfl (by kernel_rfl) h1
/-- crimp/sheets.Neighbour -/
def p80 (A : Alg Prop (HL)) (ls : List Lf) (h : HL) (K : List Lf → HL → Prop) : Prop := A.unI ls (@hid _ ⟨fun J a0 => A.unI a0 (@hid _ ⟨fun O a1 => A.unI a1 (@hid _ ⟨fun a2 a3 => A.unI a3 (@hid _ ⟨fun n12 a4 => A.un0 a4 (@hid _ ⟨A.call 49 [(.i J), (.i O), (.i a2)] h (@hid _ ⟨fun a5 Q => A.unI a5 (@hid _ ⟨fun n16 a6 => A.unI a6 (@hid _ ⟨fun n18 a7 => A.unI a7 (@hid _ ⟨fun n20 a8 => A.unI a8 (@hid _ ⟨fun n22 a9 => A.un0 a9 (@hid _ ⟨A.cmp .neq n22 0 (@hid _ ⟨fun b0 => A.cond b0 (@hid _ ⟨K [(.i 0), (.i n22)] Q⟩) (@hid _ ⟨A.call 62 [(.i n16), (.i n18), (.i n20), (.i n12)] Q (@hid _ ⟨fun b1 V => A.unI b1 (@hid _ ⟨fun n27 b2 => A.unI b2 (@hid _ ⟨fun b3 b4 => A.unI b4 (@hid _ ⟨fun n31 b5 => A.unI b5 (@hid _ ⟨fun n33 b6 => A.un0 b6 (@hid _ ⟨A.cmp .neq n33 0 (@hid _ ⟨fun b7 => A.cond b7 (@hid _ ⟨K [(.i 0), (.i 1)] V⟩) (@hid _ ⟨A.call 50 [(.i J), (.i O), (.i n27), (.i b3), (.i n31)] V (@hid _ ⟨fun b8 b9 => A.unI b8 (@hid _ ⟨fun n38 c0 => A.unI c0 (@hid _ ⟨fun n40 c1 => A.un0 c1 (@hid _ ⟨K [(.i n38), (.i n40)] b9⟩)⟩)⟩)⟩)⟩)⟩)⟩)⟩)⟩)⟩)⟩)⟩)⟩)⟩)⟩)⟩)⟩)⟩)⟩)⟩)⟩)⟩)⟩)⟩)⟩)
theorem g80 : (fun A : Alg Prop (HL) => p80 A) = fun A => f80 A := by kernel_rfl
theorem h80 (ls : List Lf) (H : HL) (K : List Lf → HL → Prop) : p80 P1 ls H K = av P1 (xc 80) ac drN n80 ls H K :=
 congrFun (congrFun (congrFun ((congrFun g80 P1).trans (congrFun (congrFun (congrFun e80 Prop) (HL)) P1)) ls) H) K
theorem u80 {ls : List Lf} {H : HL} {K : List Lf → HL → Prop} (hls : aX ls = true) (h : p80 P1 ls H K) : ∃ rs H', aJ cc ac 80 ls (absH ab H) rs (absH ab H') ∧ K rs H' :=
 fj i80 hls (h80 ls H K ▸ h)
theorem q80 {ls rs : List Lf} (hls : aX ls = true) (h : p80 P1 ls [] fun rs' _ => rs' = rs) : Cc 80 ls rs := by
 obtain ⟨_, _, h1, rfl⟩ := u80 hls h
 exact fQ eJ ce (sg := ⟨[.agg [.i .i64, .i .i64], li, .leaf (.i .u8)], [li, li]⟩) rfl (by kernel_rfl) h1
/-- slices.IndexFunc[[]crimp/patterns.Crease,crimp/patterns.Crease] -/
def p93 (A : Alg Prop (HL)) (ls : List Lf) (h : HL) (K : List Lf → HL → Prop) : Prop := A.unV ls (@hid _ ⟨fun Q a0 => A.unV a0 (@hid _ ⟨fun a1 a2 => A.un0 a2 (@hid _ ⟨A.opt (lenS Q) (@hid _ ⟨fun a3 => A.loop (@hid _ ⟨fun a4 a5 O => A.unI a5 (@hid _ ⟨fun J a6 => A.un0 a6 (@hid _ ⟨A.cmp .lss J a3 (@hid _ ⟨fun a7 => A.cond a7 (@hid _ ⟨A.opt (idS 3 Q J) (@hid _ ⟨fun a8 => A.peek (.lg cc 3 a8) O (@hid _ ⟨fun a9 => A.ucI .i64 a9 (@hid _ ⟨fun n19 b0 => A.ucI .u8 b0 (@hid _ ⟨fun n21 b1 => A.ucI .u8 b1 (@hid _ ⟨fun b2 b3 => A.uc0 b3 (@hid _ ⟨A.callv a1 [(.agg ⟨[(.int .i64 n19), (.int .u8 n21), (.int .u8 b2)]⟩)] [(.leaf .b)] O (@hid _ ⟨fun b4 V => A.unB b4 (@hid _ ⟨fun b5 b6 => A.un0 b6 (@hid _ ⟨A.cond b5 (@hid _ ⟨K [(.i J)] V⟩) (@hid _ ⟨A.ari .add .i64 J 1 (@hid _ ⟨fun b7 => a4 [(.i b7)] V⟩)⟩)⟩)⟩)⟩)⟩)⟩)⟩)⟩)⟩)⟩)⟩) (@hid _ ⟨K [(.i (-1))] O⟩)⟩)⟩)⟩)⟩) [(.i 0)] h⟩)⟩)⟩)⟩)
theorem g93 : (fun A : Alg Prop (HL) => p93 A) = fun A => f93 A := by kernel_rfl
theorem h93 (ls : List Lf) (H : HL) (K : List Lf → HL → Prop) : p93 P1 ls H K = av P1 (xc 93) ac drN n93 ls H K :=
 congrFun (congrFun (congrFun ((congrFun g93 P1).trans (congrFun (congrFun (congrFun e93 Prop) (HL)) P1)) ls) H) K
theorem x93 {ls : List Lf} {H : HL} {K : List Lf → HL → Prop} (hls : ca ls) (h : p93 P1 ls H K) : ∃ rs H', aJ cc ac 93 ls (absH ab H) rs (absH ab H') ∧ K rs H' :=
 gt i93 hls (h93 ls H K ▸ h)
end Go.Am

/-
 SLICES IN THE HEAP: what lies behind them, how they are read and lengthened.
-/
set_option maxRecDepth 100000
namespace Go.Am
namespace Sx
theorem iN {vs : List Value} {off n : Nat} {cs : List Value} : cut vs off n = some cs ↔ off + n ≤ vs.length ∧ (vs.drop off).take n = cs := by
 unfold cut
 split
 ·rename_i h; simp [h]
 ·rename_i h; simp [h]
theorem cut_len {vs : List Value} {off n : Nat} {cs : List Value} (h : cut vs off n = some cs) : cs.length = n := by
 obtain ⟨h1, rfl⟩ := iN.1 h
 rw [List.length_take, List.length_drop]; omega
theorem cut_cut {vs : List Value} {off n : Nat} {cs : List Value} (h : cut vs off n = some cs) {o k : Nat} (hk : o + k ≤ n) : cut vs (off + o) k = some ((cs.drop o).take k) := by
 obtain ⟨h1, rfl⟩ := iN.1 h
 refine iN.2 ⟨by omega, ?_⟩
 rw [List.drop_take, List.drop_drop, List.take_take, Nat.min_eq_left (by omega)]
theorem cut_all {vs : List Value} {n : Nat} (h : vs.length = n) : cut vs 0 n = some vs := iN.2 ⟨by omega, by rw [List.drop_zero, List.take_of_length_le (by omega)]⟩
def Pre (h0 h : HL) : Prop := ∃ G, h = h0 ++ G
theorem Pre.refl (h : HL) : Pre h h := ⟨[], by simp⟩
theorem Pre.trans {a b c : HL} (h : Pre a b) (k : Pre b c) : Pre a c := by
 obtain ⟨G, rfl⟩ := h
 obtain ⟨G', rfl⟩ := k
 exact ⟨G ++ G', by simp⟩
theorem Pre.app {a b : HL} (h : Pre a b) (G : HL) : Pre a (b ++ G) := h.trans ⟨G, rfl⟩
theorem Pre.len {a b : HL} (h : Pre a b) : a.length ≤ b.length := by obtain ⟨G, rfl⟩ := h; simp
theorem Pre.get {a b : HL} (h : Pre a b) {i : Nat} {o : HO} (hi : a[i]? = some o) : b[i]? = some o := by
 obtain ⟨G, rfl⟩ := h
 have : i < a.length := by
  rcases Nat.lt_or_ge i a.length with h | h
  ·exact h
  ·rw [List.getElem?_eq_none h] at hi; cases hi
 rw [List.getElem?_append_left this]; exact hi
theorem Pre.set {a b : HL} (h : Pre a b) {i : Nat} (hi : a.length ≤ i) (o : HO) : Pre a (b.set i o) := by
 obtain ⟨G, rfl⟩ := h
 rw [List.set_append_right _ _ hi]
 exact ⟨_, rfl⟩
def Ptr (h : HL) (p : Value) (cs : List Value) : Prop := ∃ id o vs e rw, p = .pointer (some ⟨id, o, none⟩) ∧ h[id]? = some (.o (.cells vs e rw)) ∧ cut vs o cs.length = some cs
def SlC (h : HL) (v : Value) (e n : Nat) (cs : List Value) : Prop :=
 cs.length = n * e ∧ ((v = .slice none 0 0 ∧ n = 0) ∨ ∃ id off cx vs rw, v = .slice (some ⟨id, off, tag e⟩) n cx ∧ h[id]? = some (.o (.cells vs e rw)) ∧ cut vs off (n * e) = some cs)
def LsH {α : Type} (h : HL) (v : Value) (e : Nat) (enc : α → List Value) (l : List α) : Prop := (∀ a ∈ l, (enc a).length = e) ∧ SlC h v e l.length (l.flatMap enc)
def Mk (n0 : Nat) (h : HL) (v : Value) (e n : Nat) (cs : List Value) : Prop :=
 cs.length = n * e ∧ ((v = .slice none 0 0 ∧ n = 0) ∨ ∃ id, n0 ≤ id ∧ v = .slice (some ⟨id, 0, tag e⟩) n 0 ∧ h[id]? = some (.o (.cells cs e true)))
def MkL {α : Type} (n0 : Nat) (h : HL) (v : Value) (e : Nat) (enc : α → List Value) (l : List α) : Prop := (∀ a ∈ l, (enc a).length = e) ∧ Mk n0 h v e l.length (l.flatMap enc)
noncomputable def blk : Value → Option Nat
 | .slice (some a) _ _ => some a.block
 | _ => none
theorem Ptr.keep {h h' : HL} {p : Value} {cs : List Value} (hp : Ptr h p cs) (hk : ∀ (j : Nat) o, h[j]? = some o → h'[j]? = some o) : Ptr h' p cs := by
 obtain ⟨id, o, vs, e, rw', h1, h2, h3⟩ := hp
 exact ⟨id, o, vs, e, rw', h1, hk _ _ h2, h3⟩
theorem SlC.keep {h h' : HL} {v : Value} {e n : Nat} {cs : List Value} (hs : SlC h v e n cs) (hk : ∀ (j : Nat) o, h[j]? = some o → blk v = some j → h'[j]? = some o) : SlC h' v e n cs := by
 obtain ⟨h0, h1 | ⟨id, off, cx, vs, rw', rfl, h2, h3⟩⟩ := hs
 ·exact ⟨h0, .inl h1⟩
 ·exact ⟨h0, .inr ⟨id, off, cx, vs, rw', rfl, hk _ _ h2 rfl, h3⟩⟩
theorem SlC.pre {h h' : HL} {v : Value} {e n : Nat} {cs : List Value} (hs : SlC h v e n cs) (hp : Pre h h') : SlC h' v e n cs := hs.keep fun _ _ h _ => hp.get h
theorem LsH.keep {α : Type} {h h' : HL} {v : Value} {e : Nat} {enc : α → List Value} {l : List α} (hs : LsH h v e enc l) (hk : ∀ (j : Nat) o, h[j]? = some o → blk v = some j → h'[j]? = some o) : LsH h' v e enc l := ⟨hs.1, hs.2.keep hk⟩
theorem LsH.pre {α : Type} {h h' : HL} {v : Value} {e : Nat} {enc : α → List Value} {l : List α} (hs : LsH h v e enc l) (hp : Pre h h') : LsH h' v e enc l := ⟨hs.1, hs.2.pre hp⟩
theorem SlC.len {h : HL} {v : Value} {e n : Nat} {cs : List Value} (hs : SlC h v e n cs) : lenS v = some (.ofNat n) := by
 obtain ⟨_, ⟨rfl, rfl⟩ | ⟨id, off, cx, vs, rw', rfl, _⟩⟩ := hs <;> rfl
theorem LsH.len {α : Type} {h : HL} {v : Value} {e : Nat} {enc : α → List Value} {l : List α} (hs : LsH h v e enc l) : lenS v = some (.ofNat l.length) := hs.2.len
theorem Mk.sl {n0 : Nat} {h : HL} {v : Value} {e n : Nat} {cs : List Value} (hs : Mk n0 h v e n cs) : SlC h v e n cs := by
 obtain ⟨h0, h1 | ⟨id, _, rfl, h2⟩⟩ := hs
 ·exact ⟨h0, .inl h1⟩
 ·exact ⟨h0, .inr ⟨id, 0, 0, cs, true, rfl, h2, cut_all h0⟩⟩
theorem MkL.ls {α : Type} {n0 : Nat} {h : HL} {v : Value} {e : Nat} {enc : α → List Value} {l : List α} (hs : MkL n0 h v e enc l) : LsH h v e enc l := ⟨hs.1, hs.2.sl⟩
theorem Mk.nil (n0 : Nat) (h : HL) (e : Nat) : Mk n0 h (.slice none 0 0) e 0 [] := ⟨by simp, .inl ⟨rfl, rfl⟩⟩
theorem MkL.nil {α : Type} (n0 : Nat) (h : HL) (e : Nat) (enc : α → List Value) : MkL n0 h (.slice none 0 0) e enc [] := ⟨by simp, Mk.nil n0 h e⟩
theorem LsH.nil {α : Type} (h : HL) (e : Nat) (enc : α → List Value) : LsH h (.slice none 0 0) e enc [] := (MkL.nil 0 h e enc).ls
theorem Mk.keep {n0 : Nat} {h h' : HL} {v : Value} {e n : Nat} {cs : List Value} (hs : Mk n0 h v e n cs) (hk : ∀ (j : Nat) o, h[j]? = some o → blk v = some j → h'[j]? = some o) : Mk n0 h' v e n cs := by
 obtain ⟨h0, h1 | ⟨id, h1, rfl, h2⟩⟩ := hs
 ·exact ⟨h0, .inl h1⟩
 ·exact ⟨h0, .inr ⟨id, h1, rfl, hk _ _ h2 rfl⟩⟩
theorem Mk.pre {n0 : Nat} {h h' : HL} {v : Value} {e n : Nat} {cs : List Value} (hs : Mk n0 h v e n cs) (hp : Pre h h') : Mk n0 h' v e n cs := hs.keep fun _ _ h _ => hp.get h
theorem MkL.keep {α : Type} {n0 : Nat} {h h' : HL} {v : Value} {e : Nat} {enc : α → List Value} {l : List α} (hs : MkL n0 h v e enc l) (hk : ∀ (j : Nat) o, h[j]? = some o → blk v = some j → h'[j]? = some o) : MkL n0 h' v e enc l := ⟨hs.1, hs.2.keep hk⟩
theorem MkL.pre {α : Type} {n0 : Nat} {h h' : HL} {v : Value} {e : Nat} {enc : α → List Value} {l : List α} (hs : MkL n0 h v e enc l) (hp : Pre h h') : MkL n0 h' v e enc l := ⟨hs.1, hs.2.pre hp⟩
theorem kW {α : Type} {e : Nat} {enc : α → List Value} : ∀ {l : List α}, (∀ a ∈ l, (enc a).length = e) → ∀ {i : Nat} {a : α}, l[i]? = some a → ((l.flatMap enc).drop (i * e)).take e = enc a
 | b :: l, h, 0, a, hi => by
  simp only [List.getElem?_cons_zero, Option.some.injEq] at hi
  subst hi
  have := h b List.mem_cons_self
  rw [Nat.zero_mul, List.drop_zero, List.flatMap_cons, List.take_append_of_le_length (by omega), List.take_of_length_le (by omega)]
 | b :: l, h, i + 1, a, hi => by
  simp only [List.getElem?_cons_succ] at hi
  have hb := h b List.mem_cons_self
  have := kW (fun b hb => h b (List.mem_cons_of_mem _ hb)) hi
  rw [List.flatMap_cons, Nat.add_mul, Nat.one_mul, ← this]
  have e1 : i * e + e = (enc b).length + i * e := by omega
  rw [e1, List.drop_append, List.drop_of_length_le (by omega), List.nil_append, Nat.add_sub_cancel_left]
 | [], _, _, _, hi => by simp at hi
theorem SlC.at {h : HL} {v : Value} {e n : Nat} {cs : List Value} (hs : SlC h v e n cs) {i : Nat} (hi : i < n) : ∃ p, idS e v (.ofNat i) = some p ∧ Ptr h p ((cs.drop (i * e)).take e) := by
 obtain ⟨h0, ⟨rfl, rfl⟩ | ⟨id, off, cx, vs, rw', rfl, h2, h3⟩⟩ := hs
 ·omega
 ·have hle : i * e + e ≤ n * e := by
   have := Nat.mul_le_mul_right e (show i + 1 ≤ n by omega)
   rw [Nat.add_mul, Nat.one_mul] at this; exact this
  refine ⟨.pointer (some ⟨id, off + i * e, none⟩), ?_, id, off + i * e, vs, e, rw', rfl, h2, ?_⟩
  ·rw [idS_eq]
   have hh : 0 ≤ Int.ofNat i ∧ Int.ofNat i < (n : Int) := ⟨Int.natCast_nonneg i, by show (i : Int) < n; omega⟩
   simp only [if_pos hh]
   have : ¬ (tag e = some 1) := by simp [tag]
   simp only [if_neg this]
   rfl
  ·have hc := cut_cut h3 hle
   have hl := cut_len hc
   rw [hl]; exact hc
theorem LsH.at {α : Type} {h : HL} {v : Value} {e : Nat} {enc : α → List Value} {l : List α} (hs : LsH h v e enc l) {i : Nat} {a : α} (hi : l[i]? = some a) : ∃ p, idS e v (.ofNat i) = some p ∧ Ptr h p (enc a) := by
 have hlt : i < l.length := by
  rcases Nat.lt_or_ge i l.length with h | h
  ·exact h
  ·rw [List.getElem?_eq_none h] at hi; cases hi
 obtain ⟨p, h1, h2⟩ := hs.2.at hlt
 rw [kW hs.1 hi] at h2
 exact ⟨p, h1, h2⟩
theorem Ptr.fd {h : HL} {p : Value} {cs : List Value} (hp : Ptr h p cs) (o k : Nat) (hk : o + k ≤ cs.length) : ∃ p', fdP o p = some p' ∧ Ptr h p' ((cs.drop o).take k) := by
 obtain ⟨id, o', vs, e, rw', rfl, h2, h3⟩ := hp
 refine ⟨_, rfl, id, o' + o, vs, e, rw', rfl, h2, ?_⟩
 have hc := cut_cut h3 hk
 rw [cut_len hc]; exact hc
section
variable [Val] [Kno]
theorem qv {T : Nat → Site} {h : HL} {i : Nat} {o : HObj} (hi : h[i]? = some (.o o)) : getH T h i = some o := by
 unfold getH; rw [hi]; rfl
theorem Ptr.ld {T : Nat → Site} {h : HL} {p : Value} {cs : List Value} (hp : Ptr h p cs) {n : Nat} (hn : cs.length = n) : (Pk.ld n p).run (getH T h) = some cs := by
 obtain ⟨id, o, vs, e, rw', rfl, h2, h3⟩ := hp
 subst hn
 show (match (none : Option Nat) with | none => (eH (getH T h) id).bind fun vs => cut vs o cs.length | some _ => none) = _
 unfold eH
 rw [qv h2]
 exact h3
theorem Ptr.lg {C : Cfg} {T : Nat → Site} {h : HL} {p : Value} {cs : List Value} (hp : Ptr h p cs) {n : Nat} (hn : cs.length = n) : (Pk.lg C n p).run (getH T h) = some cs := by
 obtain ⟨id, o, vs, e, rw', rfl, h2, h3⟩ := hp
 subst hn
 show (eH (getH T h) id).bind (fun vs => cut vs o cs.length) = _
 unfold eH
 rw [qv h2]
 exact h3
variable {C : Cfg} {Sg : FuncId → Option Sig} {T : Nat → Site}
end
end Sx
end Go.Am

/-
 RULES FOR LOOPS AND SLICES.
-/
set_option maxRecDepth 100000
namespace Go.Am
namespace Sx
theorem Ptr.good {h : HL} {p : Value} {cs : List Value} (hp : Ptr h p cs) : bP p = true := by
 obtain ⟨id, o, vs, e, rw', rfl, _⟩ := hp
 simp [bP, noLoc, bw, cE, bW, bp, aM]
theorem SlC.good {h : HL} {v : Value} {e n : Nat} {cs : List Value} (hs : SlC h v e n cs) : bP v = true := by
 obtain ⟨_, ⟨rfl, _⟩ | ⟨id, off, cx, vs, rw', rfl, _⟩⟩ := hs
 ·rfl
 ·simp [bP, noLoc, bw, cE, bW, bp, aM, tag]
theorem LsH.good {α : Type} {h : HL} {v : Value} {e : Nat} {enc : α → List Value} {l : List α} (hs : LsH h v e enc l) : bP v = true := hs.2.good
section
variable [Val] [Kno] {C : Cfg} {Sg : FuncId → Option Sig} {T : Nat → Site}
theorem hidL {F : (List Lf → HL → Prop) → List Lf → HL → Prop} {s : List Lf → HL → Prop} {l : List Lf} {h : HL} (hf : F s l h) : @hid _ ⟨F⟩ s l h := hf
theorem py {σ : Type} {F : (List Lf → HL → Prop) → List Lf → HL → Prop} (n : Nat) (S : Nat → σ → List Lf) (HP : Nat → σ → HL) (Inv : Nat → σ → Prop) {j0 : Nat} {s0 : σ} {ls : List Lf} {h : HL} (hls : ls = S j0 s0) (hh : h = HP j0 s0) (hj : j0 ≤ n) (hi : Inv j0 s0)
  (step : ∀ j s, j ≤ n → Inv j s → ∀ self : List Lf → HL → Prop, (∀ s', j < n → Inv (j + 1) s' → self (S (j + 1) s') (HP (j + 1) s')) → F self (S j s) (HP j s)) : (PH C Sg T).loop (@hid _ ⟨F⟩) ls h := by
 subst hls hh
 refine rj (m := n - j0) (fun m ls h => ∃ j s, ls = S j s ∧ h = HP j s ∧ j ≤ n ∧ m = n - j ∧ Inv j s) ⟨j0, s0, rfl, rfl, hj, rfl, hi⟩ ?_
 rintro m ls h ⟨j, s, rfl, rfl, hj, rfl, hi⟩ self hself
 exact hidL (step j s hj hi self fun s' hlt hi' => hself (n - (j + 1)) _ _ (by omega) ⟨j + 1, s', rfl, rfl, by omega, rfl, hi'⟩)
theorem mE {F : (List Lf → HL → Prop) → List Lf → HL → Prop} (n : Nat) (Inv : Nat → Prop) {j0 : Nat} {h : HL} {ls : List Lf} (hls : ls = [.i (Int.ofNat j0)]) (hj : j0 ≤ n) (hi : Inv j0)
  (step : ∀ j, j ≤ n → Inv j → ∀ self : List Lf → HL → Prop, (j < n → Inv (j + 1) → self [.i (Int.ofNat j + 1)] h) → F self [.i (Int.ofNat j)] h) : (PH C Sg T).loop (@hid _ ⟨F⟩) ls h :=
 py (σ := Unit) n (fun j _ => [.i (Int.ofNat j)]) (fun _ _ => h) (fun j _ => Inv j) (s0 := ()) hls rfl hj hi fun j _ hj hi self hs => step j hj hi self (fun a b => hs () a b)
theorem pz {α : Type} {h : HL} {v : Value} {e : Nat} {enc : α → List Value} {l : List α} {K : Int → Prop} (hs : LsH h v e enc l) (hk : K (Int.ofNat l.length)) : (PH C Sg T).opt (lenS v) (@hid _ ⟨K⟩) := gS hs.len hk
theorem r_get {α : Type} {h : HL} {v : Value} {e : Nat} {enc : α → List Value} {l : List α} {i : Nat} {a : α} {n : Int} {K : List Value → Prop} (hs : LsH h v e enc l) (hn : n = Int.ofNat i) (hi : l[i]? = some a) (hk : K (enc a)) :
  (PH C Sg T).opt (idS e v n) (@hid _ ⟨fun x => (PH C Sg T).peek (.lg C e x) h (@hid _ ⟨K⟩)⟩) := by
 subst hn
 obtain ⟨p, h1, h2⟩ := hs.at hi
 exact gS h1 (lL (h2.lg (hs.1 a (List.mem_of_getElem? hi))) hk)
theorem r_fld {α : Type} {h : HL} {v : Value} {e : Nat} {enc : α → List Value} {l : List α} {i : Nat} {a : α} {n : Int} {o k : Nat} {cs : List Value} {K : List Value → Prop} (hs : LsH h v e enc l) (hn : n = Int.ofNat i) (hi : l[i]? = some a) (hcs : cs = ((enc a).drop o).take k) (hok : o + k ≤ e) (hk : K cs) :
  (PH C Sg T).opt (idS e v n) (@hid _ ⟨fun x => (PH C Sg T).opt (fdP o x) (@hid _ ⟨fun y => (PH C Sg T).chk y (@hid _ ⟨(PH C Sg T).peek (.lg C k y) h (@hid _ ⟨K⟩)⟩)⟩)⟩) := by
 subst hn hcs
 obtain ⟨p, h1, h2⟩ := hs.at hi
 have he := hs.1 a (List.mem_of_getElem? hi)
 have hok : o + k ≤ (enc a).length := by omega
 have hlen : (((enc a).drop o).take k).length = k := by rw [List.length_take, List.length_drop]; omega
 obtain ⟨q, h3, h4⟩ := h2.fd o k hok
 refine gS h1 (gS h3 ?_)
 show bP q = true ∧ _
 exact ⟨h4.good, lL (h4.lg hlen) hk⟩
end
end Sx
end Go.Am

/-
 CREASES: the tests of patterns, told of lists: kinds.
-/
set_option maxRecDepth 100000
set_option maxHeartbeats 4000000
namespace Go.Am
open Sx Go.Proofs
abbrev Crs := Int × Int × Int
def encC (c : Crs) : List Value := [.int .i64 c.1, .int .u8 c.2.1, .int .u8 c.2.2]
def okC (c : Crs) : Prop := -9223372036854775808 ≤ c.1 ∧ c.1 ≤ 9223372036854775807 ∧ 0 ≤ c.2.1 ∧ c.2.1 ≤ 255 ∧ 0 ≤ c.2.2 ∧ c.2.2 ≤ 255
def isK (c : Crs) : Bool := decide (1 ≤ c.2.2) && decide (c.2.2 ≤ 3)
theorem isKind_c (k : Int) : Cc 73 [.i k] [.b (decide (1 ≤ k) && decide (k ≤ 3))] := by
 refine q73 rfl ?_; unfold p73
 by_cases h1 : 1 ≤ k
 ·by_cases h2 : k ≤ 3
  ·simp (disch := omega) only [↓qxs, ↓qxc, ↓qxa]; simp [h1, h2]
  ·simp (disch := omega) only [↓qxs, ↓qxc, ↓qxa]; simp [h1, h2]
 ·simp (disch := omega) only [↓qxs, ↓qxc, ↓qxa]; simp [h1]
theorem chk1_c (c : Crs) : Cc 72 [.i c.1, .i c.2.1, .i c.2.2] [.b (!isK c)] := by
 refine q72 rfl ?_; unfold p72
 simp (disch := omega) only [↓qxs, ↓qxc, ↓qxa]
 refine br (isKind_c c.2.2) ?_
 simp (disch := omega) only [↓qxs, ↓qxc, ↓qxa]
 simp [isK]
abbrev clo1 : Value := .func (.func 72) ⟨[]⟩ ⟨[]⟩
theorem good1 : bP clo1 = true := rfl
theorem index_c {h : HL} {x : Value} {l : List Crs} (hl : LsH h x 3 encC l) (hn : l.length ≤ 4294967296) : ∃ n : Int, aJ cc ac 93 [.v x, .v clo1] (absH ab h) [.i n] (absH ab h) ∧ (0 ≤ n ↔ ∃ c ∈ l, isK c = false) := by
 obtain ⟨rs, h', h1, n, rfl, rfl, h2⟩ := x93 (K := fun rs h' => ∃ n : Int, rs = [.i n] ∧ h' = h ∧ (0 ≤ n ↔ ∃ c ∈ l, isK c = false)) (H := h) (glsV hl.good (glsV good1 gls0)) (by
  unfold p93
  simp (disch := omega) only [↓qxs, ↓qxc, ↓qxa]
  refine pz hl ?_
  refine mE l.length (fun j => ∀ i, i < j → ∀ c, l[i]? = some c → isK c = true) rfl (Nat.zero_le _) (fun i hi => absurd hi (Nat.not_lt_zero _)) ?_
  intro j hj hi self hself
  simp (disch := omega) only [↓qxs, ↓qxc, ↓qxa]
  by_cases hlt : j < l.length
  ·have e1 : Int.ofNat j < Int.ofNat l.length := by show (j : Int) < l.length; omega
   rw [p_lss_t e1]
   simp (disch := omega) only [↓qxs, ↓qxc, ↓qxa]
   obtain ⟨c, hc⟩ : ∃ c, l[j]? = some c := ⟨_, List.getElem?_eq_getElem hlt⟩
   refine r_get hl rfl hc ?_
   unfold encC
   simp (disch := omega) only [↓qxs, ↓qxc, ↓qxa]
   refine p_callv (callv_ct (chk1_c c _) rfl [.agg [.i .i64 c.1, .i .u8 c.2.1, .i .u8 c.2.2]] rfl rfl) ?_
   simp (disch := omega) only [↓qxs, ↓qxc, ↓qxa]
   cases hk : isK c with
   | true =>
    show P1.cond false _ _
    simp (disch := omega) only [↓qxs, ↓qxc, ↓qxa]
    rw [p_add (by show -9223372036854775808 ≤ (j : Int) + 1; omega) (by show (j : Int) + 1 ≤ 9223372036854775807; omega)]
    refine hself hlt fun i hi' c' hc' => ?_
    rcases Nat.lt_or_ge i j with h | h
    ·exact hi i h c' hc'
    ·obtain rfl : i = j := by omega
     rw [hc] at hc'; cases hc'; exact hk
   | false =>
    show P1.cond true _ _
    simp (disch := omega) only [↓qxs, ↓qxc, ↓qxa]
    exact ⟨_, rfl, by trivial, fun _ => ⟨c, List.mem_of_getElem? hc, hk⟩, fun _ => Int.natCast_nonneg j⟩
  ·have e1 : Int.ofNat l.length ≤ Int.ofNat j := by show (l.length : Int) ≤ j; omega
   rw [p_lss_f e1]
   simp (disch := omega) only [↓qxs, ↓qxc, ↓qxa]
   refine ⟨_, rfl, by trivial, fun h => by omega, fun ⟨c, hc, hk⟩ => ?_⟩
   obtain ⟨i, hi'⟩ := List.getElem?_of_mem hc
   have hlt' : i < l.length := by
    rcases Nat.lt_or_ge i l.length with h | h
    ·exact h
    ·rw [List.getElem?_eq_none h] at hi'; cases hi'
   rw [hi i (by omega) c hi'] at hk
   cases hk)
 exact ⟨n, h1, h2⟩
theorem qT {h : HL} {x : Value} {l : List Crs} (hl : LsH h x 3 encC l) (hn : l.length ≤ 4294967296) : aJ cc ac 71 [.v x, .v clo1] (absH ab h) [.b (!l.all isK)] (absH ab h) := by
 obtain ⟨n, h1, h2⟩ := index_c hl hn
 obtain ⟨rs, h', h3, rfl, rfl⟩ := x71 (K := fun rs h' => rs = [.b (!l.all isK)] ∧ h' = h) (H := h) (glsV hl.good (glsV good1 gls0)) (by
  unfold p71
  simp (disch := omega) only [↓qxs, ↓qxc, ↓qxa]
  refine bz h1 ?_
  simp (disch := omega) only [↓qxs, ↓qxc, ↓qxa]
  cases hb : l.all isK with
  | true =>
   have : ¬ 0 ≤ n := fun h => by
    obtain ⟨c, hc, hk⟩ := h2.1 h
    rw [List.all_eq_true.1 hb c hc] at hk; cases hk
   simp (disch := omega) only [↓qxs, ↓qxc, ↓qxa]
   exact ⟨by trivial, by trivial⟩
  | false =>
   have : 0 ≤ n := h2.2 (by
    obtain ⟨c, hc, hk⟩ := List.all_eq_false.1 hb
    exact ⟨c, hc, by simpa using hk⟩)
   simp (disch := omega) only [↓qxs, ↓qxc, ↓qxa]
   exact ⟨by trivial, by trivial⟩)
 exact h3
end Go.Am

/-
 CALLS THAT MAKE BLOCKS: what a run over some blocks alone answers and makes, holds whatever else there is: the new blocks come behind.
-/
namespace Go.Am
namespace Sx
section
variable [Val]
noncomputable def mY : HObj → HObj
 | .cells vs e true => if vs.all flat then .cells vs e true else .dead
 | _ => .dead
theorem pt {o : HObj} (h : (mY o).alive = true) : ∃ vs e, o = .cells vs e true ∧ vs.all flat = true ∧ mY o = .cells vs e true := by
 match o, h with
 | .cells vs e true, h =>
  unfold mY at h
  by_cases hf : vs.all flat = true
  ·exact ⟨vs, e, rfl, hf, by show (if vs.all flat = true then HObj.cells vs e true else .dead) = _; rw [if_pos hf]⟩
  ·simp only [if_neg hf] at h; cases h
 | .cells _ _ false, h => cases h
 | .map .., h => cases h
 | .loop .., h => cases h
 | .siter .., h => cases h
 | .dead, h => cases h
noncomputable def jf (n0 n : Nat) (σ : Nat → Nat) : Nat → Nat := fun j => if j < n0 then σ j else n + (j - n0)
theorem vr_ren' {n : Nat} {τ : Nat → Nat} {mu' mu'' : HMap} (hmu : ∀ j, j < n → mu'' (τ j) = mu' j) {v c : Value} (hv : OkV n v) (h : VR noL mu' v c) : VR noL mu'' (renV τ v) c := by
 rcases hv with ⟨h1, h2⟩ | ⟨j, off, len, cx, e, hj, rfl⟩
 ·rw [h2, cw h1 h]
  exact .of_flat h1
 ·show VR noL mu'' (.slice (some ⟨τ j, off, tag e⟩) len cx) c
  generalize ht : tag e = t at h ⊢
  cases h with
  | hslice q1 q2 q3 q4 => exact .hslice ((hmu j hj).trans q1) q2 q3 q4
  | hslice0 q1 => exact .hslice0 q1
  | gslice _ => simp [tag] at ht
  | gslice0 => simp [tag] at ht
  | scalar q => simp [scalar] at q
theorem vr_sl' {n : Nat} {τ : Nat → Nat} {mu' mu'' : HMap} (hmu : ∀ j, j < n → mu'' (τ j) = mu' j) {l : SL} {c : Value} (hl : OkL n l.lf) (h : VR noL mu' l.val c) : VR noL mu'' (iu τ l).val c := by
 cases l with
 | v x => exact vr_ren' hmu hl h
 | i k m =>
  have hf : flat (Value.int k m) = true := rfl
  have h : VR noL mu' (.int k m) c := h
  rw [cw hf h]; exact .of_flat hf
 | b t =>
  have hf : flat (Value.bool t) = true := rfl
  have h : VR noL mu' (.bool t) c := h
  rw [cw hf h]; exact .of_flat hf
 | l t =>
  have hf : flat (Value.bool t) = true := rfl
  have h : VR noL mu' (.bool t) c := h
  rw [cw hf h]; exact .of_flat hf
theorem vr_s0' {n : Nat} {τ : Nat → Nat} {mu' mu'' : HMap} (hmu : ∀ j, j < n → mu'' (τ j) = mu' j) {x : S0} {c : Value} (hx : ∀ l ∈ x.cells, OkL n l.lf) (h : VR noL mu' x.val c) : VR noL mu'' (renS τ x).val c := by
 cases x with
 | leaf l => exact vr_sl' hmu (hx l (by simp [S0.cells])) h
 | agg cs =>
  have h : VR noL mu' (.agg ⟨cs.map SL.val⟩) c := h
  generalize ha : (⟨cs.map SL.val⟩ : Array Value) = a at h
  cases h with
  | scalar q => simp [scalar] at q
  | agg hs h =>
   subst ha
   refine .agg (by simpa using hs) fun i x y hx' hy => ?_
   have hi : ((cs.map (iu τ)).map SL.val)[i]? = some x := by simpa using hx'
   rw [List.getElem?_map, List.getElem?_map] at hi
   cases e : cs[i]? with
   | none => rw [e] at hi; cases hi
   | some l =>
    rw [e] at hi
    cases hi
    exact vr_sl' hmu (hx l (List.mem_of_getElem? e)) (h i _ y (by simp [e]) hy)
theorem vr_pack' {n : Nat} {τ : Nat → Nat} {mu' mu'' : HMap} (hmu : ∀ j, j < n → mu'' (τ j) = mu' j) {xs : List S0} {c : Value} (hx : ∀ x ∈ xs, ∀ l ∈ x.cells, OkL n l.lf) (h : VR noL mu' (dH (am xs)) c) : VR noL mu'' (dH (am (xs.map (renS τ)))) c := by
 match xs, hx, h with
 | [], _, h =>
  have h : VR noL mu' undef c := h
  have hf : flat undef = true := rfl
  rw [cw hf h]
  exact .of_flat hf
 | [x], hx, h => exact vr_s0' hmu (hx x List.mem_cons_self) h
 | x :: y :: l, hx, h =>
  have h : VR noL mu' (.tuple ⟨am (x :: y :: l)⟩) c := h
  show VR noL mu'' (.tuple ⟨am ((x :: y :: l).map (renS τ))⟩) c
  generalize ha : (⟨am (x :: y :: l)⟩ : Array Value) = a at h
  have hsz : a.size = l.length + 2 := by subst ha; simp [am]
  cases h with
  | scalar q => simp [scalar] at q
  | poison _ => exact absurd hsz (by simp)
  | sym _ => exact absurd hsz (by simp)
  | tuple hn hs h =>
   subst ha
   refine .tuple (by simp [am]) (by simpa [am] using hs) fun i x' y' hx' hy => ?_
   have hi : (am ((x :: y :: l).map (renS τ)))[i]? = some x' := by simpa using hx'
   unfold am at hi
   rw [List.getElem?_map, List.getElem?_map] at hi
   cases e : (x :: y :: l)[i]? with
   | none => rw [e] at hi; cases hi
   | some s =>
    rw [e] at hi
    cases hi
    exact vr_s0' hmu (hx s (List.mem_of_getElem? e)) (h i _ y' (by
     show (⟨(x :: y :: l).map S0.val⟩ : Array Value)[i]? = _
     rw [List.getElem?_toArray, List.getElem?_map, e]; rfl) hy)
theorem objR_some {mu : HMap} {p : Pl} {x : Option Obj} {o : HObj} (ha : o.alive = true) (h : objR mu p x o) : ∃ y, x = some y := by
 cases o with
 | cells vs e rw => obtain ⟨_, _, _, c, e, fr, h, _⟩ := h; exact ⟨_, h⟩
 | map es c => obtain ⟨es', h, _⟩ := h; exact ⟨_, h⟩
 | loop r => obtain ⟨L, h, _⟩ := h; exact ⟨_, h⟩
 | siter s p => exact ⟨_, h⟩
 | dead => cases ha
theorem frame_al {C : Cfg} (hG : ∀ g vs, C.G g = some vs → vs.all flat = true) {f : FuncId} {args0 args : List Value} {r0 r : Value} {H0 H' H : List HObj} (σ : Nat → Nat) (h : dw C f args0 H0 r0 H')
  (h0 : ∀ (j : Nat) (o : HObj), H0[j]? = some o → ∃ vs e rw, o = .cells vs e false ∧ vs.all flat = true ∧ H[σ j]? = some (.cells vs e rw))
  (ha : ∀ (mu mu0 : HMap) (cs : List Value), (∀ j, j < H0.length → mu0 j = mu (σ j)) → VRs noL mu args cs → VRs noL mu0 args0 cs)
  (hr : ∀ (mu' mu'' : HMap) (c : Value), (∀ j, j < H'.length → mu'' (jf H0.length H.length σ j) = mu' j) → VR noL mu' r0 c → VR noL mu'' r c) : dw C f args H r (H ++ (H'.drop H0.length).map mY) := by
 intro base mu w args' hb hargs hW
 let mu0 : HMap := fun j => if j < H0.length then mu (σ j) else none
 have hno : ∀ b, ¬ Own mu0 H0 b := by
  rintro b ⟨id, o, p, h1, h2, _⟩
  obtain ⟨vs, e, rw', rfl, _⟩ := h0 id o h1
  cases h2
 have hmu : ∀ (id : Nat) (o : HObj), H0[id]? = some o → mu0 id = mu (σ id) := by
  intro id o h1
  have : id < H0.length := by
   rcases Nat.lt_or_ge id H0.length with h | h
   ·exact h
   ·rw [List.getElem?_eq_none h] at h1; cases h1
  simp only [mu0, if_pos this]
 have hobj : ∀ (id : Nat) (o : HObj), H0[id]? = some o → ∃ p, mu0 id = some p ∧ objR mu0 p w.heap[p.b]? o := by
  intro id o h1
  obtain ⟨vs, e, rw', rfl, hf, hH⟩ := h0 id o h1
  obtain ⟨p, h3, h4⟩ := hW.obj (σ id) _ hH rfl
  obtain ⟨g1, g2, g3, c, e', fr, g4, g5, g6, g7⟩ := h4
  refine ⟨p, by rw [hmu id _ h1]; exact h3, g1, g2, g3, c, e', fr, g4, g5, fun e => by (cases e), fun i v hv => ?_⟩
  obtain ⟨v', q1, q2⟩ := g7 i v hv
  have h2 : flat v = true := List.all_eq_true.1 hf v (List.mem_of_getElem? hv)
  refine ⟨v', q1, ?_⟩
  rw [cw h2 q2]
  exact .of_flat h2
 have hin : ∀ (p : Pl) (o : HObj) (m : HMap), o.alive = true → objR m p w.heap[p.b]? o → p.b < w.heap.size := by
  intro p o m ha h
  obtain ⟨y, hy⟩ := objR_some ha h
  rcases Nat.lt_or_ge p.b w.heap.size with h | h
  ·exact h
  ·rw [Array.getElem?_eq_none h] at hy; cases hy
 have hW0 : WR C w.heap.size mu0 H0 w := by
  refine ⟨fun id o h1 _ => hobj id o h1, fun i j oi oj pi pj h1 h2 h3 => ?_, fun i o p h1 h2 => ?_, fun i o p h1 ha' _ h2 => ?_, fun id h1 => ?_, fun g vs hg => ?_⟩
  ·obtain ⟨vs, e, rw', rfl, _⟩ := h0 i oi h1
   cases h3
  ·obtain ⟨vs, e, rw', rfl, _⟩ := h0 i o h1
   cases h2
  ·obtain ⟨p', h3, h4⟩ := hobj i o h1
   rw [h2] at h3
   cases h3
   exact hin _ _ _ ha' h4
  ·simp only [mu0, if_neg (Nat.not_lt.2 h1)]
  ·obtain ⟨h1, h2, c, e, fr, h3, h4⟩ := hW.glob g vs hg
   exact ⟨by omega, h2, c, e, fr, h3, mb (hG g vs hg) h4⟩
 have hargs0 : VRs noL mu0 args0 args'.toList := ha mu mu0 _ (fun j hj => by simp only [mu0, if_pos hj]) hargs
 obtain ⟨v, mu', w', a1, a2, a3, a4, a5⟩ := h w.heap.size mu0 w args' (Nat.le_refl _) hargs0 hW0
 have hkeep : ∀ (b : Nat) x, w.heap[b]? = some x → w'.heap[b]? = some x := by
  intro b x hx
  have hlt : b < w.heap.size := by
   rcases Nat.lt_or_ge b w.heap.size with h | h
   ·exact h
   ·rw [Array.getElem?_eq_none h] at hx; cases hx
  rw [a3.keep b hlt (hno b)]; exact hx
 let mu2 : HMap := fun id => if id < H.length then mu id else mu' (H0.length + (id - H.length))
 have hold : ∀ id, id < H.length → mu2 id = mu id := fun id hi => by simp only [mu2, if_pos hi]
 have hnew : ∀ k, mu2 (H.length + k) = mu' (H0.length + k) := fun k => by
  simp only [mu2, if_neg (Nat.not_lt.2 (Nat.le_add_right H.length k)), Nat.add_sub_cancel_left]
 have hlen := a3.len
 have hmono : ∀ i p, mu i = some p → mu2 i = some p := by
  intro i p hp
  rw [hold i]; exact hp
  rcases Nat.lt_or_ge i H.length with h | h
  ·exact h
  ·rw [hW.dom i h] at hp; cases hp
 have hbeh : ∀ (id : Nat) (o : HObj), (H ++ (H'.drop H0.length).map mY)[id]? = some o → ¬ id < H.length → o.alive = true →
   ∃ k vs e, id = H.length + k ∧ H'[H0.length + k]? = some (.cells vs e true) ∧ vs.all flat = true ∧ o = .cells vs e true := by
  intro id o ho hid hal
  rw [List.getElem?_append_right (by omega), List.getElem?_map, List.getElem?_drop] at ho
  obtain ⟨o', h1, rfl⟩ := Option.map_eq_some_iff.1 ho
  obtain ⟨vs, e, rfl, hf, e2⟩ := pt hal
  exact ⟨id - H.length, vs, e, by omega, h1, hf, e2⟩
 refine ⟨v, mu2, w', ?_, ?_, ?_, a4, a5⟩
 ·refine hr mu' mu2 v (fun j hj => ?_) a1
  unfold jf
  by_cases hj0 : j < H0.length
  ·rw [if_pos hj0]
   obtain ⟨vs, e, rw', _, _, hH⟩ := h0 j _ (List.getElem?_eq_getElem hj0)
   have : σ j < H.length := by
    rcases Nat.lt_or_ge (σ j) H.length with h | h
    ·exact h
    ·rw [List.getElem?_eq_none h] at hH; cases hH
   rw [hold _ this, a3.same j hj0]
   simp only [mu0, if_pos hj0]
  ·rw [if_neg hj0, hnew, show H0.length + (j - H0.length) = j by omega]
 ·refine ⟨fun id o h1 h2 => ?_, fun i j oi oj pi pj h1 h2 h3 h4 h5 h6 h7 => ?_, fun i o p h1 h2 h3 => ?_, fun i o p h1 h2 h3 h4 => ?_, fun id h1 => ?_, fun g vs hg => ?_⟩
  ·by_cases hid : id < H.length
   ·rw [List.getElem?_append_left hid] at h1
    obtain ⟨p, h3, h4⟩ := hW.obj id o h1 h2
    exact ⟨p, hmono _ _ h3, (oa (hkeep p.b) h4).mono hmono⟩
   ·obtain ⟨k, vs, e, rfl, h3, hf, rfl⟩ := hbeh id o h1 hid h2
    obtain ⟨p, h4, g1, g2, g3, c, e', fr, g4, g5, g6, g7⟩ := a2.obj _ _ h3 rfl
    refine ⟨p, by rw [hnew]; exact h4, g1, g2, g3, c, e', fr, g4, g5, g6, fun i v hv => ?_⟩
    obtain ⟨v', q1, q2⟩ := g7 i v hv
    have hfv : flat v = true := List.all_eq_true.1 hf v (List.mem_of_getElem? hv)
    refine ⟨v', q1, ?_⟩
    rw [cw hfv q2]
    exact .of_flat hfv
  ·by_cases hi : i < H.length
   ·rw [List.getElem?_append_left hi] at h1
    rw [hold i hi] at h6
    by_cases hj : j < H.length
    ·rw [List.getElem?_append_left hj] at h2
     rw [hold j hj] at h7
     exact hW.inj i j oi oj pi pj h1 h2 h3 h4 h5 h6 h7
    ·obtain ⟨k, vs, e, rfl, q1, hf, rfl⟩ := hbeh j oj h2 hj h4
     rw [hnew] at h7
     have hb2 := a2.own _ _ _ q1 rfl h7
     obtain ⟨p, h8, h9⟩ := hW.obj i oi h1 (bg h3)
     rw [h6] at h8; cases h8
     have := hin _ _ _ (bg h3) h9
     omega
   ·obtain ⟨k, vs, e, rfl, q1, hf, rfl⟩ := hbeh i oi h1 hi (bg h3)
    rw [hnew] at h6
    have hb2 := a2.own _ _ _ q1 rfl h6
    by_cases hj : j < H.length
    ·rw [List.getElem?_append_left hj] at h2
     rw [hold j hj] at h7
     obtain ⟨p, h8, h9⟩ := hW.obj j oj h2 h4
     rw [h7] at h8; cases h8
     have := hin _ _ _ h4 h9
     omega
    ·obtain ⟨k2, vs2, e2, rfl, q2, hf2, rfl⟩ := hbeh j oj h2 hj h4
     rw [hnew] at h7
     exact a2.inj _ _ _ _ _ _ q1 q2 rfl rfl (by omega) h6 h7
  ·by_cases hi : i < H.length
   ·rw [List.getElem?_append_left hi] at h1
    rw [hold i hi] at h3
    exact hW.own i o p h1 h2 h3
   ·obtain ⟨k, vs, e, rfl, q1, hf, rfl⟩ := hbeh i o h1 hi (bg h2)
    rw [hnew] at h3
    have := a2.own _ _ _ q1 rfl h3
    omega
  ·by_cases hi : i < H.length
   ·rw [List.getElem?_append_left hi] at h1
    rw [hold i hi] at h4
    exact hW.ro i o p h1 h2 h3 h4
   ·obtain ⟨k, vs, e, rfl, q1, hf, rfl⟩ := hbeh i o h1 hi h2
    cases h3
  ·rw [List.length_append, List.length_map, List.length_drop] at h1
   have : ¬ id < H.length := by omega
   simp only [mu2, if_neg this]
   exact a2.dom _ (by omega)
  ·obtain ⟨h1, h2, c, e, fr, h3, h4⟩ := hW.glob g vs hg
   exact ⟨h1, h2, c, e, fr, hkeep _ _ h3, mb (hG g vs hg) h4⟩
 ·refine ⟨by simp, fun id hid => hold id hid, a3.size, fun b hb _ => a3.keep b hb (hno b), fun b hb => ?_, a3.os, a3.tape, a3.output⟩
  obtain ⟨id, o, p, q1, q2, q3, rfl⟩ := hb
  by_cases hid : id < H.length
  ·rw [List.getElem?_append_left hid] at q1
   rw [hold id hid] at q3
   exact .inr ⟨id, o, p, q1, q2, q3, rfl⟩
  ·obtain ⟨k, vs, e, rfl, q4, hf, rfl⟩ := hbeh id o q1 hid (bg q2)
   rw [hnew] at q3
   exact .inl (a2.own _ _ _ q4 rfl q3)
theorem call_al {C : Cfg} {N : FuncId → Option Nat} {Sg : FuncId → Option Sig} (hm : C.P.follows .mixedOrders = true) (hG : ∀ g vs, C.G g = some vs → vs.all flat = true) {g : FuncId} (hn : N g = none) {ls0 rs : List Lf} {H0 H' H : List HObj} (σ : Nat → Nat)
  (h : let _ : Kno := KnoC C N; aJ C Sg g ls0 H0 rs H')
  (h0 : ∀ (j : Nat) (o : HObj), H0[j]? = some o → ∃ vs e rw, o = .cells vs e false ∧ vs.all flat = true ∧ H[σ j]? = some (.cells vs e rw))
  (hl : ∀ l ∈ ls0, OkL H0.length l) (hrl : ∀ l ∈ rs, OkL H'.length l) : let _ : Kno := KnoC C N; aJ C Sg g (ls0.map (renL σ)) H (rs.map (renL (jf H0.length H.length σ))) (H ++ (H'.drop H0.length).map mY) := by
 let _ : Kno := KnoC C N
 obtain ⟨sg, xs, ys, c1, c2, c3, c4⟩ := h
 have hx : ∀ x ∈ xs, ∀ l ∈ x.cells, OkL H0.length l.lf := fun x hx l hl' => hl _ (by rw [← c2.2.1]; exact nF hx hl')
 have hy : ∀ x ∈ ys, ∀ l ∈ x.cells, OkL H'.length l.lf := fun x hx l hl' => hrl _ (by rw [← c3.2.1]; exact nF hx hl')
 have gd : ∀ (τ : Nat → Nat) (zs : List S0), (∀ x ∈ zs, x.good) → ∀ x ∈ zs.map (renS τ), x.good := by
  intro τ zs hz x hx'
  obtain ⟨y, hy, rfl⟩ := List.mem_map.1 hx'
  intro l hl'
  rw [nL] at hl'
  obtain ⟨l', hl'', rfl⟩ := List.mem_map.1 hl'
  exact good_ren (hz y hy l' hl'')
 refine ⟨sg, xs.map (renS σ), ys.map (renS (jf H0.length H.length σ)), c1, ⟨by rw [iU]; exact c2.1, by rw [jB, c2.2.1], gd _ _ c2.2.2⟩, ⟨by rw [iU]; exact c3.1, by rw [jB, c3.2.1], gd _ _ c3.2.2⟩, ⟨0, ?_⟩⟩
 exact .inr ⟨hn, frame_al hG σ (jT hm c4) h0 (fun mu mu0 cs hmu h => vrs_ren hmu hx h) fun mu' mu'' c hmu h => vr_pack' hmu hy h⟩
end
end Sx
end Go.Am

/-
 WHAT RUNS OVER AN EMPTY HEAP TELL: answers, and lists that are made.
-/
set_option maxRecDepth 100000
namespace Go.Am
open Sx Go.Proofs
theorem known_val {g n : Nat} {ls rs : List Lf} {sg : Sig} (hs : ac g = some sg) (hp : sg.plain = true) (hg : aX ls = true) (h : runF n (.f g) ls .empty tell = some rs) : ∀ H, aJ cc ac g ls H rs H := by
 obtain ⟨rs', h', a1, a2⟩ := (mT n).f g ls .empty tell rs (da hg) h
 rw [tell_eq] at a2
 cases a2
 exact ql g sg ls _ _ hs hp a1
noncomputable def isAns (rs' : List Lf) : Option (List Lf) → Bool := fun o => @Option.rec _ (fun _ => Bool) false (fun rs => eqLs rs rs') o
theorem jP {g n : Nat} {ls rs : List Lf} {sg : Sig} (hs : ac g = some sg) (hp : sg.plain = true) (hg : aX ls = true) (h : isAns rs (runF n (.f g) ls .empty tell) = true) : ∀ H, aJ cc ac g ls H rs H := by
 cases e : runF n (.f g) ls .empty tell with
 | none => rw [e] at h; cases h
 | some rs' =>
  rw [e] at h
  have h : eqLs rs' rs = true := h
  rw [fa h] at e
  exact known_val hs hp hg e
noncomputable def eqCell (a b : Value) : Bool := match a, b with
 | .int k n, .int k' n' => ew k k' && eqZK n n'
 | .bool t, .bool t' => eqBK t t'
 | _, _ => false
theorem eqCell_ok {a b : Value} (h : eqCell a b = true) : a = b ∧ flat b = true := by
 unfold eqCell at h
 split at h
 ·simp only [Bool.and_eq_true] at h
  have h2 := h.2
  rw [mK, beq_iff_eq] at h2
  rw [df h.1, h2]
  exact ⟨rfl, rfl⟩
 ·rename_i a b
  cases a <;> cases b <;> first | exact ⟨rfl, rfl⟩ | cases h
 ·cases h
noncomputable def mi (c : Tr Value) : List Value → Nat → Bool
 | [], _ => true
 | v :: l, i => eqCell ((bt i).get nilV c) v && mi c l (i + 1)
theorem ll {c : Tr Value} : ∀ {l : List Value} {i : Nat}, mi c l i = true → (∀ j (h : j < l.length), (bt (i + j)).get nilV c = l[j]) ∧ l.all flat = true
 | [], i, _ => ⟨fun j h => by simp at h, rfl⟩
 | v :: l, i, h => by
  simp only [mi, Bool.and_eq_true] at h
  obtain ⟨h1, h2⟩ := eqCell_ok h.1
  obtain ⟨h3, h4⟩ := ll h.2
  refine ⟨fun j hj => ?_, by simp [h2, h4]⟩
  cases j with
  | zero => exact h1
  | succ j =>
   have := h3 j (by simpa using hj)
   rw [show i + (j + 1) = i + 1 + j by omega]
   simpa using this
noncomputable def isSl (h : HTr) (x : Value) (e n : Nat) (cells : List Value) : Bool := match x with
 | .slice none 0 0 => Nat.beq n 0 && Nat.beq cells.length 0
 | .slice (some a) len _ => Nat.beq len n && Nat.beq a.off 0 && Nat.beq cells.length (n * e) && tagB a.spot e && (match h.at a.block with
  | some (.t m e' true c) => Nat.beq m (n * e) && Nat.beq e' e && mi c cells 0
  | _ => false)
 | _ => false
theorem isSl_ok {h : HTr} {x : Value} {e n : Nat} {cells : List Value} (hx : isSl h x e n cells = true) : cells.length = n * e ∧ cells.all flat = true ∧ ((x = .slice none 0 0 ∧ n = 0) ∨ ∃ id cx, x = .slice (some ⟨id, 0, tag e⟩) n cx ∧ id < h.n ∧ (toL h)[id]? = some (.o (.cells cells e true))) := by
 unfold isSl at hx
 split at hx
 ·simp only [Bool.and_eq_true] at hx
  have h1 := Nat.eq_of_beq_eq_true hx.1
  have h2 := Nat.eq_of_beq_eq_true hx.2
  subst h1
  rw [List.length_eq_zero_iff] at h2
  subst h2
  exact ⟨by simp, rfl, .inl ⟨rfl, rfl⟩⟩
 ·rename_i a len cx
  simp only [Bool.and_eq_true] at hx
  obtain ⟨⟨⟨⟨h1, h2⟩, h3⟩, h4⟩, h5⟩ := hx
  have h1 := Nat.eq_of_beq_eq_true h1
  have h2 := Nat.eq_of_beq_eq_true h2
  have h3 := Nat.eq_of_beq_eq_true h3
  have h4 := iO.1 h4
  subst h1
  split at h5
  ·rename_i m e' c hat
   simp only [Bool.and_eq_true] at h5
   obtain ⟨⟨g1, g2⟩, g3⟩ := h5
   have g1 := Nat.eq_of_beq_eq_true g1
   have g2 := Nat.eq_of_beq_eq_true g2
   subst g1 g2
   obtain ⟨g4, g5⟩ := ll g3
   have ha : a = ⟨a.block, 0, tag e'⟩ := by cases a; simp_all
   have hc : bG c (len * e') = cells := by
    apply List.ext_getElem
    ·rw [aP, h3]
    ·intro i hi hi'
     have := cL c (i := i) (n := len * e') (by rw [aP] at hi; exact hi)
     rw [List.getElem?_eq_getElem hi] at this
     have := Option.some.inj this
     rw [this, ← g4 i hi', Nat.zero_add]
   refine ⟨h3, g5, .inr ⟨a.block, cx, by rw [ha], ?_, ?_⟩⟩
   ·unfold HTr.at at hat
    split at hat
    ·rename_i hb; rw [Nat.blt_eq] at hb; exact hb
    ·cases hat
   ·rw [fA, hat]
    show some (HO.o (.cells (bG c (len * e')) e' true)) = _
    rw [hc]
  ·cases h5
 ·cases hx
theorem qj (T : Nat → Site) (h G : HL) : absH T (h ++ G) = absH T h ++ absH T G := by simp [absH]
theorem absH_o (T : Nat → Site) (l : List HObj) : absH T (l.map HO.o) = l := by
 induction l with
 | nil => rfl
 | cons a l ih => show absO T (.o a) :: absH T (l.map HO.o) = _; rw [ih]; rfl
theorem made {g n : Nat} {ls rest : List Lf} {e m : Nat} {cells : List Value} (hg : aX ls = true) (hno : neuN g = none) (hl : ls.all (fun l => match l with | .v _ => false | _ => true) = true) (hr : rest.all (fun l => match l with | .v _ => false | _ => true) = true)
  (h : runF n (.f g) ls .empty (fun rs h => match rs with
   | .v x :: r => ans (eqLs r rest && isSl h x e m cells)
   | _ => none) = yes) (H : HL) : ∃ x G, aJ cc ac g ls (absH ab H) (.v x :: rest) (absH ab (H ++ G)) ∧ SlC (H ++ G) x e m cells := by
 obtain ⟨rs, h', a1, a2⟩ := (mT n).f g ls .empty _ [] (da hg) h
 split at a2
 ·rename_i x r
  have a2 := ans_yes a2
  simp only [Bool.and_eq_true] at a2
  obtain ⟨a2, a3⟩ := a2
  have a2 := fa a2
  subst a2
  obtain ⟨b1, b2, b3⟩ := isSl_ok a3
  have plainR : ∀ (l : List Lf) (σ : Nat → Nat), l.all (fun l => match l with | .v _ => false | _ => true) = true → l.map (renL σ) = l := by
   intro l σ hl
   induction l with
   | nil => rfl
   | cons a l ih =>
    simp only [List.all_cons, Bool.and_eq_true] at hl
    rw [List.map_cons, ih hl.2]
    cases a <;> first | rfl | (simp at hl)
  have plainOk : ∀ (l : List Lf) (n : Nat), l.all (fun l => match l with | .v _ => false | _ => true) = true → ∀ a ∈ l, OkL n a := by
   intro l n hl a ha
   have := List.all_eq_true.1 hl a ha
   cases a <;> first | trivial | cases this
  have e0 : absH ab (toL HTr.empty) = [] := rfl
  rw [e0] at a1
  have key := call_al (N := neuN) eJ ce hno (H := absH ab H) id a1 (fun j o hj => by simp at hj) (plainOk ls _ hl) (fun l hl' => by
   rcases List.mem_cons.1 hl' with rfl | hl'
   ·rcases b3 with ⟨rfl, _⟩ | ⟨id, cx, rfl, hid, _⟩
    ·exact .inl ⟨rfl, fun _ => rfl⟩
    ·exact .inr ⟨id, 0, m, cx, e, by rw [dR, dF]; exact hid, rfl⟩
   ·exact plainOk _ _ hr l hl')
  rw [plainR ls id hl, List.map_cons, plainR _ _ hr, List.length_nil, List.drop_zero] at key
  refine ⟨renV (jf 0 (absH ab H).length id) x, ((absH ab (toL h')).map mY).map .o, ?_, b1, ?_⟩
  ·rw [qj, absH_o]; exact key
  ·rcases b3 with ⟨rfl, hm⟩ | ⟨id', cx, rfl, hid, hb⟩
   ·exact .inl ⟨rfl, hm⟩
   ·refine .inr ⟨_, 0, cx, cells, true, rfl, ?_, Sx.cut_all b1⟩
    unfold jf
    rw [if_neg (Nat.not_lt_zero _), Nat.sub_zero, dR, List.getElem?_append_right (by omega), Nat.add_sub_cancel_left, List.getElem?_map, List.getElem?_map]
    have : (absH ab (toL h'))[id']? = some (.cells cells e true) := by
     unfold absH
     rw [List.getElem?_map, hb]; rfl
    rw [this]
    show some (HO.o (if cells.all flat = true then HObj.cells cells e true else .dead)) = _
    rw [if_pos b2]
 ·cases a2
end Go.Am

/-
 UNITS: tables by the kernel: names, cells, the list of units.
-/
set_option maxRecDepth 100000
namespace Go.Am
open Sx Go.Proofs
def nbr (w v c e : Nat) : Option Nat :=
 match e, c % 4 with
 | 0, 0 => if 0 < c / 4 / w then some (c + 2 - 4 * w) else none
 | 0, 1 => if c / 4 % w + 1 < w then some (c + 6) else none
 | 0, 2 => if c / 4 / w + 1 < v then some (c + 4 * w - 2) else none
 | 0, _ => if 0 < c / 4 % w then some (c - 6) else none
 | 1, 0 => some (c + 1)
 | 1, 1 => some (c - 1)
 | 1, 2 => some (c + 1)
 | 1, _ => some (c - 1)
 | 2, 0 => some (c + 3)
 | 2, 1 => some (c + 1)
 | 2, 2 => some (c - 1)
 | 2, _ => some (c - 3)
 | _, _ => none
def nameN (w v c e : Nat) : List Lf := match nbr w v c e with
 | some n => [.i (.ofNat (min c n)), .i (.ofNat e), .i 0]
 | none => [.i 0, .i 0, .i 7]
def cellN (w c : Nat) : List Lf := [.i (.ofNat (c / 4 % w)), .i (.ofNat (c / 4 / w)), .i (.ofNat (c % 4)), .i 0]
noncomputable def tabName (w v : Nat) : Bool := (List.range (4 * w * v)).all fun c => (List.range 3).all fun e => isAns (nameN w v c e) (runF 60 (.f 51) [.i (.ofNat w), .i (.ofNat v), .i (.ofNat c), .i (.ofNat e)] .empty tell)
noncomputable def tabCell (w v : Nat) : Bool := (List.range (4 * w * v)).all fun c => isAns (cellN w c) (runF 60 (.f 49) [.i (.ofNat w), .i (.ofNat v), .i (.ofNat c)] .empty tell)
def dh (w v : Nat) : List (Nat × Nat) := (List.range (4 * w * v)).flatMap fun c => (List.range 3).filterMap fun e => match nbr w v c e with
 | some n => if c < n then some (c, e) else none
 | none => none
def encU (u : Nat × Nat) : List Value := [.int .i64 (.ofNat u.1), .int .u8 (.ofNat u.2)]
noncomputable def mB (w v : Nat) : Bool := match runF 60 (.f 47) [.i (.ofNat w), .i (.ofNat v)] .empty (fun rs h => match rs with
   | .v x :: r => ans (eqLs r [] && isSl h x 2 (dh w v).length ((dh w v).flatMap encU))
   | _ => none) with
 | some [] => true
 | _ => false
def ltN (a b : Nat × Nat) : Bool := Nat.blt a.1 b.1 || (Nat.beq a.1 b.1 && Nat.blt a.2 b.2)
def ascN : List (Nat × Nat) → Bool
 | a :: b :: l => ltN a b && ascN (b :: l)
 | _ => true
noncomputable def tab5 (w v : Nat) : Bool := tabName w v && (tabCell w v && (mB w v && (ascN (dh w v) && Nat.ble (dh w v).length 1000)))
theorem pW : ∀ w v : Nat, 1 ≤ w → w ≤ 5 → 1 ≤ v → v ≤ 5 → tab5 w v = true := by
 have key : ((List.range 5).all fun w => (List.range 5).all fun v => tab5 (w + 1) (v + 1)) = true := by kernel_rfl
 intro w v h1 h2 h3 h4
 have h5 := List.all_eq_true.1 key (w - 1) (List.mem_range.2 (by omega))
 have h6 := List.all_eq_true.1 h5 (v - 1) (List.mem_range.2 (by omega))
 have e1 : w - 1 + 1 = w := by omega
 have e2 : v - 1 + 1 = v := by omega
 rw [e1, e2] at h6
 exact h6
end Go.Am

/-
 UNITS AND CREASES: names at whatever cell and edge; the test of patterns, told of lists.
-/
set_option maxRecDepth 100000
set_option maxHeartbeats 4000000
namespace Go.Am
open Sx Go.Proofs
theorem nbr_ne {w v c e n : Nat} (hw : 1 ≤ w) (h : nbr w v c e = some n) : n ≠ c := by
 have hx : c / 4 % w ≤ c / 4 := Nat.mod_le _ _
 have hy : c / 4 / w ≤ c / 4 := Nat.div_le_self _ _
 have hq : c % 4 = 0 ∨ c % 4 = 1 ∨ c % 4 = 2 ∨ c % 4 = 3 := by omega
 rcases e with _ | _ | _ | e <;> rcases hq with h1 | h1 | h1 | h1 <;> simp only [nbr, h1] at h <;>
  first
  |(split at h <;> first | (simp only [Option.some.injEq] at h; omega) | (cases h; done))
  |(simp only [Option.some.injEq] at h; omega)
  |(cases h; done)
theorem mM {w v : Nat} (h : tab5 w v = true) : tabName w v = true ∧ tabCell w v = true ∧ mB w v = true ∧ ascN (dh w v) = true ∧ (dh w v).length ≤ 1000 := by
 unfold tab5 at h
 simp only [Bool.and_eq_true, Nat.ble_eq] at h
 exact h
theorem nameIn {w v : Nat} (ht : tab5 w v = true) {c e : Nat} (hc : c < 4 * w * v) (he : e < 3) : Cc 51 [.i (.ofNat w), .i (.ofNat v), .i (.ofNat c), .i (.ofNat e)] (nameN w v c e) := by
 have h1 := List.all_eq_true.1 (mM ht).1 c (List.mem_range.2 hc)
 exact jP (n := 60) rfl (by kernel_rfl) rfl (List.all_eq_true.1 h1 e (List.mem_range.2 he))
theorem cellIn {w v : Nat} (ht : tab5 w v = true) {c : Nat} (hc : c < 4 * w * v) : Cc 49 [.i (.ofNat w), .i (.ofNat v), .i (.ofNat c)] (cellN w c) :=
 jP (n := 60) rfl (by kernel_rfl) rfl (List.all_eq_true.1 (mM ht).2.1 c (List.mem_range.2 hc))
def valS (w v : Int) : Prop := 1 ≤ w ∧ 1 ≤ v ∧ w ≤ 256 ∧ v ≤ 256 ∧ w * v ≤ 256
instance (w v : Int) : Decidable (valS w v) := by unfold valS; infer_instance
theorem qk {w v a b : Int} (h : 0 ≤ w ∧ w ≤ a ∧ 0 ≤ v ∧ v ≤ b) : 0 ≤ w * v ∧ w * v ≤ a * b :=
 ⟨Int.mul_nonneg h.1 h.2.2.1, Int.mul_le_mul h.2.1 h.2.2.2 h.2.2.1 (by omega)⟩
theorem shCheck (w v : Int) : Cc 56 [.i w, .i v] [.i (if valS w v then 0 else 1)] := by
 refine q56 rfl ?_; unfold p56
 by_cases h1 : 1 ≤ w
 ·by_cases h2 : 1 ≤ v
  ·by_cases h3 : w ≤ 256
   ·by_cases h4 : v ≤ 256
    ·have hm := qk (w := w) (v := v) (a := 256) (b := 256) (by omega)
     by_cases h5 : w * v ≤ 256
     ·simp (disch := omega) only [↓qxs, ↓qxc, ↓qxa]; simp [valS, h1, h2, h3, h4, h5]
     ·simp (disch := omega) only [↓qxs, ↓qxc, ↓qxa]; simp [valS, h5]
    ·simp (disch := omega) only [↓qxs, ↓qxc, ↓qxa]; simp [valS, h4]
   ·simp (disch := omega) only [↓qxs, ↓qxc, ↓qxa]; simp [valS, h3]
  ·simp (disch := omega) only [↓qxs, ↓qxc, ↓qxa]; simp [valS, h2]
 ·simp (disch := omega) only [↓qxs, ↓qxc, ↓qxa]; simp [valS, h1]
theorem gW {w v : Int} (h : valS w v) : Cc 56 [.i w, .i v] [.i 0] := by
 have := shCheck w v; rw [if_pos h] at this; exact this
theorem gK {w v : Int} (h : ¬ valS w v) : Cc 56 [.i w, .i v] [.i 1] := by
 have := shCheck w v; rw [if_neg h] at this; exact this
def smS (w v : Int) : Prop := 1 ≤ w ∧ w ≤ 5 ∧ 1 ≤ v ∧ v ≤ 5
theorem my {w v : Int} (h : smS w v) : valS w v := by
 unfold smS at h; have := qk (w := w) (v := v) (a := 5) (b := 5) (by omega); unfold valS; omega
theorem sm4 {w v : Int} (h : smS w v) : 4 ≤ 4 * w * v ∧ 4 * w * v ≤ 100 := by
 unfold smS at h
 have h1 := qk (w := 4 * w) (v := v) (a := 20) (b := 5) (by omega)
 have h2 : 4 * w ≤ 4 * w * v := by
  have := Int.mul_le_mul_of_nonneg_left h.2.2.1 (show 0 ≤ 4 * w by omega)
  rw [Int.mul_one] at this; exact this
 omega
theorem has_c {w v : Int} (h : smS w v) (c : Int) : Cc 77 [.i w, .i v, .i c] [.b (decide (0 ≤ c) && decide (c < 4 * w * v))] := by
 have h4 := sm4 h
 unfold smS at h
 refine q77 rfl ?_; unfold p77
 by_cases h1 : 0 ≤ c
 ·by_cases h2 : c < 4 * w * v
  ·simp (disch := omega) only [↓qxs, ↓qxc, ↓qxa]; simp [h1, h2]
  ·simp (disch := omega) only [↓qxs, ↓qxc, ↓qxa]; simp [h1, h2]
 ·simp (disch := omega) only [↓qxs, ↓qxc, ↓qxa]; simp [h1]
theorem rB {w v c : Int} (h : smS w v) (hc : ¬ (0 ≤ c ∧ c < 4 * w * v)) : Cc 49 [.i w, .i v, .i c] [.i 0, .i 0, .i 0, .i 7] := by
 refine q49 rfl ?_; unfold p49
 simp (disch := omega) only [↓qxs, ↓qxc, ↓qxa]
 refine br (gW (my h)) ?_
 simp (disch := omega) only [↓qxs, ↓qxc, ↓qxa]
 have e : (decide (0 ≤ c) && decide (c < 4 * w * v)) = false := by simp; omega
 refine br (e ▸ has_c h c) ?_
 simp (disch := omega) only [↓qxs, ↓qxc, ↓qxa, Bool.not_false]
theorem oF {w v c e : Int} (h : smS w v) (hc : ¬ (0 ≤ c ∧ c < 4 * w * v)) : Cc 80 [.i w, .i v, .i c, .i e] [.i 0, .i 7] := by
 refine q80 rfl ?_; unfold p80
 simp (disch := omega) only [↓qxs, ↓qxc, ↓qxa]
 refine br (rB h hc) ?_
 simp (disch := omega) only [↓qxs, ↓qxc, ↓qxa]
theorem qV {w v c e : Int} (h : smS w v) (hc : ¬ (0 ≤ c ∧ c < 4 * w * v)) : Cc 51 [.i w, .i v, .i c, .i e] [.i 0, .i 0, .i 7] := by
 refine q51 rfl ?_; unfold p51
 simp (disch := omega) only [↓qxs, ↓qxc, ↓qxa]
 refine br (oF h hc) ?_
 simp (disch := omega) only [↓qxs, ↓qxc, ↓qxa]
theorem oc {x y q : Int} (h : -4096 ≤ x ∧ x ≤ 4096 ∧ -4096 ≤ y ∧ y ≤ 4096 ∧ q ≤ 3) : Cc 79 [.i x, .i y, .i q] [.i 0] := by
 refine q79 rfl ?_; unfold p79
 simp (disch := omega) only [↓qxs, ↓qxc, ↓qxa]
theorem ku {x y q e : Int} (h : -4096 ≤ x ∧ x ≤ 4096 ∧ -4096 ≤ y ∧ y ≤ 4096 ∧ q ≤ 3) (he : 2 < e) : Cc 62 [.i x, .i y, .i q, .i e] [.i 0, .i 0, .i 0, .i 1] := by
 refine q62 rfl ?_; unfold p62
 simp (disch := omega) only [↓qxs, ↓qxc, ↓qxa]
 refine br (oc h) ?_
 simp (disch := omega) only [↓qxs, ↓qxc, ↓qxa]
theorem nJ {w v : Int} (h : smS w v) : ∃ a b : Nat, w = .ofNat a ∧ v = .ofNat b ∧ 1 ≤ a ∧ a ≤ 5 ∧ 1 ≤ b ∧ b ≤ 5 := by
 unfold smS at h
 obtain ⟨a, rfl⟩ := Int.eq_ofNat_of_zero_le (show 0 ≤ w by omega)
 obtain ⟨b, rfl⟩ := Int.eq_ofNat_of_zero_le (show 0 ≤ v by omega)
 exact ⟨a, b, rfl, rfl, by omega, by omega, by omega, by omega⟩
theorem lt_nat {a b c : Nat} (h : (c : Int) < 4 * (a : Int) * (b : Int)) : c < 4 * a * b := by
 have : (4 * (a : Int) * (b : Int)) = ((4 * a * b : Nat) : Int) := by simp
 rw [this] at h; omega
theorem nd {w v c e : Int} (h : smS w v) (hc : 0 ≤ c ∧ c < 4 * w * v) (he : 2 < e) : Cc 80 [.i w, .i v, .i c, .i e] [.i 0, .i 1] := by
 have h4 := sm4 h
 obtain ⟨a, b, rfl, rfl, ha⟩ := nJ h
 obtain ⟨k, rfl⟩ := Int.eq_ofNat_of_zero_le hc.1
 have hk : k < 4 * a * b := lt_nat hc.2
 have hk2 : 4 * a * b ≤ 100 := by
  have : (4 * (a : Int) * (b : Int)) = ((4 * a * b : Nat) : Int) := by simp
  have h5 := h4.2
  change 4 * (a : Int) * (b : Int) ≤ 100 at h5
  rw [this] at h5; omega
 refine q80 rfl ?_; unfold p80
 simp (disch := omega) only [↓qxs, ↓qxc, ↓qxa]
 refine br (cellIn (pW a b ha.1 ha.2.1 ha.2.2.1 ha.2.2.2) hk) ?_
 unfold cellN
 simp (disch := omega) only [↓qxs, ↓qxc, ↓qxa]
 have h1 : k / 4 % a ≤ k / 4 := Nat.mod_le _ _
 have h2 : k / 4 / a ≤ k / 4 := Nat.div_le_self _ _
 have h3 : (0 : Int) ≤ ((k / 4 / a : Nat) : Int) := Int.natCast_nonneg _
 have h5 : (0 : Int) ≤ ((k / 4 % a : Nat) : Int) := Int.natCast_nonneg _
 refine br (ku (x := Int.ofNat (k / 4 % a)) (y := Int.ofNat (k / 4 / a)) (q := Int.ofNat (k % 4)) (by simp only [Int.ofNat_eq_natCast]; omega) he) ?_
 simp (disch := omega) only [↓qxs, ↓qxc, ↓qxa]
theorem oN {w v c e : Int} (h : smS w v) (hc : 0 ≤ c ∧ c < 4 * w * v) (he : 2 < e) : Cc 51 [.i w, .i v, .i c, .i e] [.i 0, .i 0, .i 1] := by
 refine q51 rfl ?_; unfold p51
 simp (disch := omega) only [↓qxs, ↓qxc, ↓qxa]
 refine br (nd h hc he) ?_
 simp (disch := omega) only [↓qxs, ↓qxc, ↓qxa]
def isUn (w v c e : Int) : Bool := decide (0 ≤ c) && decide (c < 4 * w * v) && decide (e ≤ 2) && (match nbr w.toNat v.toNat c.toNat e.toNat with
 | some n => Nat.blt c.toNat n
 | none => false)
theorem name_c {w v c e : Int} (h : smS w v) (he : 0 ≤ e) : ∃ a b r : Int, Cc 51 [.i w, .i v, .i c, .i e] [.i a, .i b, .i r] ∧ (isUn w v c e = true ↔ r = 0 ∧ a = c ∧ b = e) := by
 by_cases hc : 0 ≤ c ∧ c < 4 * w * v
 ·by_cases h2 : e ≤ 2
  ·obtain ⟨a, b, rfl, rfl, ha⟩ := nJ h
   obtain ⟨k, rfl⟩ := Int.eq_ofNat_of_zero_le hc.1
   obtain ⟨j, rfl⟩ := Int.eq_ofNat_of_zero_le he
   have hk : k < 4 * a * b := lt_nat hc.2
   have hn := nameIn (pW a b ha.1 ha.2.1 ha.2.2.1 ha.2.2.2) hk (e := j) (by omega)
   unfold nameN at hn
   cases e : nbr a b k j with
   | none =>
    rw [e] at hn
    refine ⟨_, _, _, hn, ?_⟩
    have : isUn (.ofNat a) (.ofNat b) (k : Int) (j : Int) = false := by
     unfold isUn
     have e' : nbr (Int.ofNat a).toNat (Int.ofNat b).toNat (k : Int).toNat (j : Int).toNat = none := e
     rw [e']; simp
    rw [this]
    simp
   | some n =>
    rw [e] at hn
    refine ⟨_, _, _, hn, ?_⟩
    have hne := nbr_ne ha.1 e
    have e' : nbr (Int.ofNat a).toNat (Int.ofNat b).toNat (k : Int).toNat (j : Int).toNat = some n := e
    unfold isUn
    rw [e']
    simp only [Bool.and_eq_true, decide_eq_true_eq, Nat.blt_eq, Int.toNat_natCast]
    constructor
    ·rintro ⟨_, h3⟩
     exact ⟨by trivial, by show ((min k n : Nat) : Int) = k; omega, by trivial⟩
    ·rintro ⟨_, h3, _⟩
     have h3 : ((min k n : Nat) : Int) = k := h3
     exact ⟨⟨⟨hc.1, hc.2⟩, h2⟩, by omega⟩
  ·refine ⟨_, _, _, oN h hc (by omega), ?_⟩
   have : isUn w v c e = false := by unfold isUn; simp [h2]
   rw [this]; simp
 ·refine ⟨_, _, _, qV h hc, ?_⟩
  have : isUn w v c e = false := by
   unfold isUn
   have : (decide (0 ≤ c) && decide (c < 4 * w * v)) = false := by simp; omega
   rw [this]; simp
  rw [this]; simp
theorem lQ {w v c e : Int} (h : isUn w v c e = true) : 0 ≤ c ∧ c < 4 * w * v ∧ e ≤ 2 := by
 unfold isUn at h
 simp only [Bool.and_eq_true, decide_eq_true_eq] at h
 exact ⟨h.1.1.1, h.1.1.2, h.1.2⟩
end Go.Am

/-
 RULES FOR NUMBERS THAT COUNT.
-/
set_option maxRecDepth 100000
namespace Go.Am
namespace Sx
section
variable [Val] [Kno] {C : Cfg} {Sg : FuncId → Option Sig} {T : Nat → Site}
theorem oO {j : Nat} {K : Int → Prop} (h : j ≤ 4294967296) : (PH C Sg T).ari .add .i64 (Int.ofNat j) 1 (@hid _ ⟨K⟩) = K (Int.ofNat j + 1) :=
 p_add (by show -9223372036854775808 ≤ (j : Int) + 1; omega) (by show (j : Int) + 1 ≤ 9223372036854775807; omega)
theorem n_sub {j : Nat} {K : Int → Prop} (h1 : 1 ≤ j) (h : j ≤ 4294967296) : (PH C Sg T).ari .sub .i64 (Int.ofNat j) 1 (@hid _ ⟨K⟩) = K (Int.ofNat (j - 1)) := by
 rw [p_sub (by show -9223372036854775808 ≤ (j : Int) - 1; omega) (by show (j : Int) - 1 ≤ 9223372036854775807; omega)]
 congr 1
 show (j : Int) - 1 = ((j - 1 : Nat) : Int)
 omega
theorem jh {j n : Nat} {K : Bool → Prop} (h : j < n) : (PH C Sg T).cmp .lss (Int.ofNat j) (Int.ofNat n) (@hid _ ⟨K⟩) = K true := p_lss_t (by show (j : Int) < n; omega)
theorem jQ {j n : Nat} {K : Bool → Prop} (h : n ≤ j) : (PH C Sg T).cmp .lss (Int.ofNat j) (Int.ofNat n) (@hid _ ⟨K⟩) = K false := p_lss_f (by show (n : Int) ≤ j; omega)
end
theorem iT {α : Type} {l : List α} {i : Nat} {a : α} (h : l[i]? = some a) : i < l.length := by
 rcases Nat.lt_or_ge i l.length with h1 | h1
 ·exact h1
 ·rw [List.getElem?_eq_none h1] at h; cases h
theorem hZ {α : Type} {l : List α} {i : Nat} (h : i < l.length) : ∃ a, l[i]? = some a := ⟨_, List.getElem?_eq_getElem h⟩
end Sx
end Go.Am

/-
 THE TEST OF PATTERNS, told of lists.
-/
set_option maxRecDepth 100000
set_option maxHeartbeats 4000000
namespace Go.Am
open Sx Go.Proofs
def ltC (a b : Crs) : Bool := decide (a.1 < b.1) || (decide (a.1 = b.1) && decide (a.2.1 < b.2.1))
def ascC : List Crs → Bool
 | a :: b :: l => ltC a b && ascC (b :: l)
 | _ => true
theorem iR : ∀ {l : List Crs}, ascC l = true ↔ ∀ (i : Nat) a b, l[i]? = some a → l[i + 1]? = some b → ltC a b = true
 | [] => by simp [ascC]
 | [a] => by simp [ascC]
 | a :: b :: l => by
  simp only [ascC, Bool.and_eq_true]
  rw [iR (l := b :: l)]
  constructor
  ·rintro ⟨h1, h2⟩ i x y hx hy
   cases i with
   | zero =>
    simp only [List.getElem?_cons_zero, Option.some.injEq, List.getElem?_cons_succ] at hx hy
    subst hx hy; exact h1
   | succ i => exact h2 i x y (by simpa using hx) (by simpa using hy)
  ·intro h
   exact ⟨h 0 a b rfl rfl, fun i x y hx hy => h (i + 1) x y (by simpa using hx) (by simpa using hy)⟩
def unC (w v : Int) (c : Crs) : Bool := isUn w v c.1 c.2.1
def chkC (w v : Int) (l : List Crs) : Int := if l.all isK = false then 1 else if l.all (unC w v) = false then 7 else if ascC l = true then 0 else 6
theorem unit_c (c : Crs) : Cc 55 [.i c.1, .i c.2.1, .i c.2.2] [.i c.1, .i c.2.1] := by
 refine q55 rfl ?_; unfold p55
 simp (disch := omega) only [↓qxs, ↓qxc, ↓qxa]
theorem order_c {a b : Crs} (h : 0 ≤ a.1 ∧ a.1 ≤ 1000 ∧ 0 ≤ b.1 ∧ b.1 ≤ 1000 ∧ 0 ≤ a.2.1 ∧ a.2.1 ≤ 255 ∧ 0 ≤ b.2.1 ∧ b.2.1 ≤ 255) : ∃ d : Int, Cc 54 [.i a.1, .i a.2.1, .i b.1, .i b.2.1] [.i d] ∧ (d < 0 ↔ ltC a b = true) := by
 by_cases h1 : a.1 = b.1
 ·refine ⟨a.2.1 - b.2.1, ?_, by simp only [ltC, Bool.or_eq_true, Bool.and_eq_true, decide_eq_true_eq]; omega⟩
  refine q54 rfl ?_; unfold p54
  simp (disch := omega) only [↓qxs, ↓qxc, ↓qxa]
 ·refine ⟨a.1 - b.1, ?_, by simp only [ltC, Bool.or_eq_true, Bool.and_eq_true, decide_eq_true_eq]; omega⟩
  refine q54 rfl ?_; unfold p54
  simp (disch := omega) only [↓qxs, ↓qxc, ↓qxa]
theorem check_c {w v : Int} (hs : smS w v) {h : HL} {x : Value} {l : List Crs} (hl : LsH h x 3 encC l) (hk : ∀ c ∈ l, okC c) (hn : l.length ≤ 4294967296) :
  aJ cc ac 40 [.i w, .i v, .v x] (absH ab h) [.i (chkC w v l)] (absH ab h) := by
 obtain ⟨rs, h', h3, rfl, rfl⟩ := x40 (K := fun rs h' => rs = [.i (chkC w v l)] ∧ h' = h) (H := h) (glsI (glsI (glsV hl.good gls0))) (by
  unfold p40
  simp (disch := omega) only [↓qxs, ↓qxc, ↓qxa]
  refine br (gW (my hs)) ?_
  simp (disch := omega) only [↓qxs, ↓qxc, ↓qxa]
  refine bz (qT hl hn) ?_
  simp (disch := omega) only [↓qxs, ↓qxc, ↓qxa]
  cases hb : l.all isK with
  | false =>
   simp (disch := omega) only [↓qxs, ↓qxc, ↓qxa, Bool.not_false]
   exact ⟨by simp [chkC, hb], by trivial⟩
  | true =>
   simp (disch := omega) only [↓qxs, ↓qxc, ↓qxa, Bool.not_true]
   refine pz hl ?_
   refine mE l.length (fun j => ∀ i, i < j → ∀ c, l[i]? = some c → unC w v c = true) rfl (Nat.zero_le _) (fun i hi => absurd hi (Nat.not_lt_zero _)) ?_
   intro j hj hi self hself
   simp (disch := omega) only [↓qxs, ↓qxc, ↓qxa]
   by_cases hlt : j < l.length
   ·rw [jh hlt]
    simp (disch := omega) only [↓qxs, ↓qxc, ↓qxa]
    obtain ⟨c, hc⟩ := hZ hlt
    have hmem := List.mem_of_getElem? hc
    have hok := hk c hmem
    unfold okC at hok
    have bad : unC w v c = false → chkC w v l = 7 := fun hu => by
     have : l.all (unC w v) = false := List.all_eq_false.2 ⟨c, hmem, by simp [hu]⟩
     simp [chkC, hb, this]
    refine r_get hl rfl hc ?_
    unfold encC
    simp (disch := omega) only [↓qxs, ↓qxc, ↓qxa]
    obtain ⟨a, b, r, hnm, hiff⟩ := name_c (c := c.1) (e := c.2.1) hs (by omega)
    refine br hnm ?_
    simp (disch := omega) only [↓qxs, ↓qxc, ↓qxa]
    by_cases hr : r = 0
    ·subst hr
     simp (disch := omega) only [↓qxs, ↓qxc, ↓qxa]
     refine br (unit_c c) ?_
     simp (disch := omega) only [↓qxs, ↓qxc, ↓qxa]
     by_cases hab : a = c.1 ∧ b = c.2.1
     ·have hu : unC w v c = true := hiff.2 ⟨rfl, hab.1, hab.2⟩
      simp (disch := omega) only [↓qxs, ↓qxc, ↓qxa, Bool.not_true]
      rw [oO (by omega)]
      refine hself hlt fun i hi' c' hc' => ?_
      rcases Nat.lt_or_ge i j with h | h
      ·exact hi i h c' hc'
      ·obtain rfl : i = j := by omega
       rw [hc] at hc'; cases hc'; exact hu
     ·have hu : unC w v c = false := by
       rw [← Bool.not_eq_true]; intro hu
       have := hiff.1 hu
       exact hab ⟨this.2.1, this.2.2⟩
      rw [p_eqs2_f hab]
      simp (disch := omega) only [↓qxs, ↓qxc, ↓qxa, Bool.not_false]
      exact ⟨by rw [bad hu], by trivial⟩
    ·have hu : unC w v c = false := by
      rw [← Bool.not_eq_true]; intro hu
      exact hr (hiff.1 hu).1
     simp (disch := omega) only [↓qxs, ↓qxc, ↓qxa]
     exact ⟨by rw [bad hu], by trivial⟩
   ·obtain rfl : j = l.length := by omega
    rw [jQ (Nat.le_refl _)]
    simp (disch := omega) only [↓qxs, ↓qxc, ↓qxa]
    have hu : l.all (unC w v) = true := List.all_eq_true.2 fun c hc => by
     obtain ⟨i, hi'⟩ := List.getElem?_of_mem hc
     exact hi i (iT hi') c hi'
    refine mE (j0 := 1) (max 1 l.length) (fun j => 1 ≤ j ∧ ∀ (i : Nat) a b, i + 1 < j → l[i]? = some a → l[i + 1]? = some b → ltC a b = true) rfl (Nat.le_max_left _ _) ⟨Nat.le_refl _, fun i a b hi => by omega⟩ ?_
    intro j hj' ⟨h1, hi2⟩ self hself
    simp (disch := omega) only [↓qxs, ↓qxc, ↓qxa]
    refine pz hl ?_
    by_cases hlt : j < l.length
    ·rw [jh hlt]
     simp (disch := omega) only [↓qxs, ↓qxc, ↓qxa]
     rw [n_sub h1 (by omega)]
     obtain ⟨c, hc⟩ := hZ (l := l) (i := j - 1) (by omega)
     obtain ⟨d, hd⟩ := hZ hlt
     have hc1 := hk c (List.mem_of_getElem? hc)
     have hd1 := hk d (List.mem_of_getElem? hd)
     have hc2 := lQ (List.all_eq_true.1 hu c (List.mem_of_getElem? hc))
     have hd2 := lQ (List.all_eq_true.1 hu d (List.mem_of_getElem? hd))
     have h4 := sm4 hs
     unfold okC at hc1 hd1
     refine r_get hl rfl hc ?_
     unfold encC
     simp (disch := omega) only [↓qxs, ↓qxc, ↓qxa]
     refine br (unit_c c) ?_
     simp (disch := omega) only [↓qxs, ↓qxc, ↓qxa]
     refine r_get hl rfl hd ?_
     unfold encC
     simp (disch := omega) only [↓qxs, ↓qxc, ↓qxa]
     refine br (unit_c d) ?_
     simp (disch := omega) only [↓qxs, ↓qxc, ↓qxa]
     obtain ⟨o, ho, hoi⟩ := order_c (a := c) (b := d) (by omega)
     refine br ho ?_
     simp (disch := omega) only [↓qxs, ↓qxc, ↓qxa]
     by_cases hlo : o < 0
     ·simp (disch := omega) only [↓qxs, ↓qxc, ↓qxa]
      rw [oO (by omega)]
      refine hself (by omega) ⟨by omega, fun i a b hi' ha hb' => ?_⟩
      rcases Nat.lt_or_ge (i + 1) j with h | h
      ·exact hi2 i a b h ha hb'
      ·have e1 : i = j - 1 := by omega
       have e2 : i + 1 = j := by omega
       rw [e2, hd] at hb'
       rw [e1, hc] at ha
       cases ha; cases hb'
       exact hoi.1 hlo
     ·have hna : ascC l = false := by
       rw [← Bool.not_eq_true, iR]
       intro hall
       have := hall (j - 1) c d hc (by rw [show j - 1 + 1 = j by omega]; exact hd)
       exact hlo (hoi.2 this)
      simp (disch := omega) only [↓qxs, ↓qxc, ↓qxa]
      exact ⟨by simp [chkC, hb, hu, hna], by trivial⟩
    ·rw [jQ (by omega)]
     simp (disch := omega) only [↓qxs, ↓qxc, ↓qxa]
     have ha : ascC l = true := iR.2 fun i a b ha hb' => hi2 i a b (by have := iT hb'; omega) ha hb'
     exact ⟨by simp [chkC, hb, hu, ha], by trivial⟩)
 exact h3
end Go.Am

/-
 THE REFERENCE'S TEST OF PATTERNS, told of lists.
-/
set_option maxRecDepth 100000
set_option maxHeartbeats 4000000
namespace Go.Am
open Sx Go.Proofs
theorem chkC_1 {w v : Int} {l : List Crs} (h : l.all isK = false) : chkC w v l = 1 := by unfold chkC; rw [if_pos h]
theorem chkC_7 {w v : Int} {l : List Crs} (h : l.all isK = true) (h2 : l.all (unC w v) = false) : chkC w v l = 7 := by
 unfold chkC; rw [if_neg (by rw [h]; decide), if_pos h2]
theorem chkC_0 {w v : Int} {l : List Crs} (h : l.all isK = true) (h2 : l.all (unC w v) = true) (h3 : ascC l = true) : chkC w v l = 0 := by
 unfold chkC; rw [if_neg (by rw [h]; decide), if_neg (by rw [h2]; decide), if_pos h3]
theorem chkC_6 {w v : Int} {l : List Crs} (h : l.all isK = true) (h2 : l.all (unC w v) = true) (h3 : ascC l = false) : chkC w v l = 6 := by
 unfold chkC; rw [if_neg (by rw [h]; decide), if_neg (by rw [h2]; decide), if_neg (by rw [h3]; decide)]
theorem qa (w v : Int) : Cc 27 [.i w, .i v] [.i (if valS w v then 1 else 0)] := by
 refine q27 rfl ?_; unfold p27
 by_cases h1 : 1 ≤ w
 ·by_cases h2 : 1 ≤ v
  ·by_cases h3 : w ≤ 256
   ·by_cases h4 : v ≤ 256
    ·have hm := qk (w := w) (v := v) (a := 256) (b := 256) (by omega)
     by_cases h5 : w * v ≤ 256
     ·simp (disch := omega) only [↓qxs, ↓qxc, ↓qxa]; simp [valS, h1, h2, h3, h4, h5]
     ·simp (disch := omega) only [↓qxs, ↓qxc, ↓qxa]; simp [valS, h5]
    ·simp (disch := omega) only [↓qxs, ↓qxc, ↓qxa]; simp [valS, h4]
   ·simp (disch := omega) only [↓qxs, ↓qxc, ↓qxa]; simp [valS, h3]
  ·simp (disch := omega) only [↓qxs, ↓qxc, ↓qxa]; simp [valS, h2]
 ·simp (disch := omega) only [↓qxs, ↓qxc, ↓qxa]; simp [valS, h1]
theorem ei {w v : Int} (h : valS w v) : Cc 27 [.i w, .i v] [.i 1] := by
 have := qa w v; rw [if_pos h] at this; exact this
theorem eh {w v : Int} (h : ¬ valS w v) : Cc 27 [.i w, .i v] [.i 0] := by
 have := qa w v; rw [if_neg h] at this; exact this
theorem encU_len (u : Nat × Nat) : (encU u).length = 2 := rfl
theorem units_c {a b : Nat} (h1 : 1 ≤ a) (h2 : a ≤ 5) (h3 : 1 ≤ b) (h4 : b ≤ 5) (h : HL) : ∃ s G, aJ cc ac 47 [.i (.ofNat a), .i (.ofNat b)] (absH ab h) [.v s] (absH ab (h ++ G)) ∧ LsH (h ++ G) s 2 encU (dh a b) := by
 have ht := (mM (pW a b h1 h2 h3 h4)).2.2.1
 unfold mB at ht
 split at ht
 ·rename_i e
  obtain ⟨s, G, c1, c2⟩ := made (g := 47) (rest := []) rfl (by kernel_rfl) rfl rfl e h
  exact ⟨s, G, c1, fun u _ => encU_len u, c2⟩
 ·cases ht
theorem oZ {a b : Nat × Nat} : ltN a b = true ↔ a.1 < b.1 ∨ (a.1 = b.1 ∧ a.2 < b.2) := by
 unfold ltN
 rw [Bool.or_eq_true, Bool.and_eq_true, Nat.blt_eq, Nat.blt_eq, Nat.beq_eq]
theorem mD : ∀ {l : List (Nat × Nat)}, ascN l = true → ∀ {i j : Nat} {a b}, i < j → l[i]? = some a → l[j]? = some b → ltN a b = true
 | [], _, i, j, a, b, _, ha, _ => by simp at ha
 | [x], _, i, j, a, b, hij, ha, hb => by
  have := iT hb
  simp at this; omega
 | x :: y :: l, h, i, j, a, b, hij, ha, hb => by
  simp only [ascN, Bool.and_eq_true] at h
  obtain ⟨j, rfl⟩ : ∃ k, j = k + 1 := ⟨j - 1, by omega⟩
  have hb' : (y :: l)[j]? = some b := by simpa using hb
  cases i with
  | succ i => exact mD h.2 (i := i) (j := j) (by omega) (by simpa using ha) hb'
  | zero =>
   simp only [List.getElem?_cons_zero, Option.some.injEq] at ha
   subst ha
   cases j with
   | zero =>
    simp only [List.getElem?_cons_zero, Option.some.injEq] at hb'
    subst hb'; exact h.1
   | succ j =>
    have h5 := mD h.2 (i := 0) (j := j + 1) (by omega) rfl hb'
    have h6 := h.1
    rw [oZ] at h5 h6 ⊢
    omega
theorem mZ {a b c e : Nat} : (c, e) ∈ dh a b ↔ c < 4 * a * b ∧ e < 3 ∧ ∃ n, nbr a b c e = some n ∧ c < n := by
 unfold dh
 simp only [List.mem_flatMap, List.mem_range, List.mem_filterMap]
 constructor
 ·rintro ⟨c', h1, e', h2, h3⟩
  split at h3
  ·rename_i n hn
   split at h3
   ·rename_i hlt
    cases h3
    exact ⟨h1, h2, n, hn, hlt⟩
   ·cases h3
  ·cases h3
 ·rintro ⟨h1, h2, n, h3, h4⟩
  refine ⟨c, h1, e, h2, ?_⟩
  rw [h3]
  simp only [if_pos h4]
def mtc (u : Nat × Nat) (c : Crs) : Prop := (u.1 : Int) = c.1 ∧ (u.2 : Int) = c.2.1
theorem unC_iff {a b : Nat} (h1 : 1 ≤ a) (h2 : a ≤ 5) (h3 : 1 ≤ b) (h4 : b ≤ 5) {c : Crs} (he : 0 ≤ c.2.1) : unC (.ofNat a) (.ofNat b) c = true ↔ ∃ (k : Nat) (u : Nat × Nat), (dh a b)[k]? = some u ∧ mtc u c := by
 constructor
 ·intro h
  have hr := lQ h
  obtain ⟨c1, c2, c3⟩ := c
  obtain ⟨x, rfl⟩ := Int.eq_ofNat_of_zero_le hr.1
  obtain ⟨y, rfl⟩ := Int.eq_ofNat_of_zero_le he
  unfold unC isUn at h
  simp only [Bool.and_eq_true, decide_eq_true_eq] at h
  have h5 := h.2
  split at h5
  ·rename_i n hn
   have hm : (x, y) ∈ dh a b := mZ.2 ⟨lt_nat hr.2.1, by have := hr.2.2; simp only at this; omega, n, hn, by simpa [Nat.blt_eq] using h5⟩
   obtain ⟨k, hk⟩ := List.getElem?_of_mem hm
   exact ⟨k, _, hk, rfl, rfl⟩
  ·cases h5
 ·rintro ⟨k, ⟨x, y⟩, hk, h5, h6⟩
  obtain ⟨c1, c2, c3⟩ := c
  simp only at h5 h6
  subst h5 h6
  obtain ⟨q1, q2, n, q3, q4⟩ := mZ.1 (List.mem_of_getElem? hk)
  unfold unC isUn
  have q3' : nbr (Int.ofNat a).toNat (Int.ofNat b).toNat (x : Int).toNat (y : Int).toNat = some n := q3
  simp only [Bool.and_eq_true, decide_eq_true_eq]
  refine ⟨⟨⟨by omega, ?_⟩, by omega⟩, ?_⟩
  ·show (x : Int) < 4 * (a : Int) * (b : Int)
   have : (4 * (a : Int) * (b : Int)) = ((4 * a * b : Nat) : Int) := by simp
   rw [this]; omega
  ·rw [q3']
   simpa [Nat.blt_eq] using q4
def foundAt (U : List (Nat × Nat)) (c : Crs) (j : Nat) (at' : Int) : Prop := (at' = -1 ∧ ∀ k : Nat, k < j → ∀ u : Nat × Nat, U[k]? = some u → ¬ mtc u c) ∨ ∃ (k : Nat) (u : Nat × Nat), k < j ∧ at' = Int.ofNat k ∧ U[k]? = some u ∧ mtc u c
theorem pos_iff {U : List (Nat × Nat)} (hU : ascN U = true) {k k' : Nat} {u u' : Nat × Nat} {c c' : Crs} (h1 : U[k]? = some u) (h2 : U[k']? = some u') (m1 : mtc u c) (m2 : mtc u' c') : k' < k ↔ ltC c' c = true := by
 unfold mtc at m1 m2
 have e : ltC c' c = true ↔ u'.1 < u.1 ∨ (u'.1 = u.1 ∧ u'.2 < u.2) := by
  simp only [ltC, Bool.or_eq_true, Bool.and_eq_true, decide_eq_true_eq]
  omega
 rw [e]
 constructor
 ·intro h
  exact oZ.1 (mD hU h h2 h1)
 ·intro h
  rcases Nat.lt_trichotomy k' k with h3 | h3 | h3
  ·exact h3
  ·subst h3
   rw [h1] at h2; cases h2
   omega
  ·have := oZ.1 (mD hU h3 h1 h2)
   omega
def dQ (l : List Crs) (j : Nat) : Prop := ∀ (i : Nat) a b, i + 1 < j → l[i]? = some a → l[i + 1]? = some b → ltC a b = true
theorem qP {w v : Int} (hs : smS w v) {h : HL} {x : Value} {l : List Crs} (hl : LsH h x 3 encC l) (hk : ∀ c ∈ l, okC c) (hn : l.length ≤ 4294967296) :
  ∃ G, aJ cc ac 28 [.i w, .i v, .v x] (absH ab h) [.i (chkC w v l)] (absH ab (h ++ G)) := by
 obtain ⟨a, b, rfl, rfl, ha1, ha2, hb1, hb2⟩ := nJ hs
 have ht := mM (pW a b ha1 ha2 hb1 hb2)
 have hU := ht.2.2.2.1
 have hUn := ht.2.2.2.2
 obtain ⟨rs, h', h3, rfl, hp⟩ := x28 (K := fun rs h' => rs = [.i (chkC (.ofNat a) (.ofNat b) l)] ∧ Pre h h') (H := h) (glsI (glsI (glsV hl.good gls0))) (by
  unfold p28
  simp (disch := omega) only [↓qxs, ↓qxc, ↓qxa]
  refine br (ei (my hs)) ?_
  simp (disch := omega) only [↓qxs, ↓qxc, ↓qxa]
  refine mE (j0 := 0) l.length (fun j => ∀ i, i < j → ∀ c, l[i]? = some c → isK c = true) rfl (Nat.zero_le _) (fun i hi => absurd hi (Nat.not_lt_zero _)) ?_
  intro j hj hi self hself
  simp (disch := omega) only [↓qxs, ↓qxc, ↓qxa]
  refine pz hl ?_
  by_cases hlt : j < l.length
  ·rw [jh hlt]
   simp (disch := omega) only [↓qxs, ↓qxc, ↓qxa]
   obtain ⟨c, hc⟩ := hZ hlt
   have hmem := List.mem_of_getElem? hc
   have bad : isK c = false → chkC (.ofNat a) (.ofNat b) l = 1 := fun hu => by
    exact chkC_1 (List.all_eq_false.2 ⟨c, hmem, fun h => by rw [hu] at h; cases h⟩)
   refine r_fld (cs := [.int .u8 c.2.2]) hl rfl hc rfl (by decide) ?_
   simp (disch := omega) only [↓qxs, ↓qxc, ↓qxa]
   by_cases h1 : 1 ≤ c.2.2
   ·simp (disch := omega) only [↓qxs, ↓qxc, ↓qxa]
    refine r_fld (cs := [.int .u8 c.2.2]) hl rfl hc rfl (by decide) ?_
    simp (disch := omega) only [↓qxs, ↓qxc, ↓qxa]
    by_cases h2 : c.2.2 ≤ 3
    ·simp (disch := omega) only [↓qxs, ↓qxc, ↓qxa]
     rw [oO (by omega)]
     refine hself hlt fun i hi' c' hc' => ?_
     rcases Nat.lt_or_ge i j with h | h
     ·exact hi i h c' hc'
     ·obtain rfl : i = j := by omega
      rw [hc] at hc'; cases hc'; simp [isK, h1, h2]
    ·simp (disch := omega) only [↓qxs, ↓qxc, ↓qxa]
     exact ⟨by rw [bad (by simp [isK]; omega)], Pre.refl h⟩
   ·simp (disch := omega) only [↓qxs, ↓qxc, ↓qxa]
    exact ⟨by rw [bad (by simp [isK]; omega)], Pre.refl h⟩
  ·obtain rfl : j = l.length := by omega
   rw [jQ (Nat.le_refl _)]
   simp (disch := omega) only [↓qxs, ↓qxc, ↓qxa]
   have hK : l.all isK = true := List.all_eq_true.2 fun c hc => by
    obtain ⟨i, hi'⟩ := List.getElem?_of_mem hc
    exact hi i (iT hi') c hi'
   obtain ⟨s, G, hu, hsl⟩ := units_c ha1 ha2 hb1 hb2 h
   refine bz hu ?_
   simp (disch := omega) only [↓qxs, ↓qxc, ↓qxa]
   have hpre : Pre h (h ++ G) := ⟨G, rfl⟩
   have hl2 := hl.pre hpre
   refine py (σ := Int × Int) (j0 := 0) l.length (fun j s => [.i s.1, .i s.2, .i (Int.ofNat j)]) (fun _ _ => h ++ G)
    (fun j s => (∀ i, i < j → ∀ c, l[i]? = some c → unC (.ofNat a) (.ofNat b) c = true) ∧ (j = 0 → s.2 = -1) ∧ (∀ c, 0 < j → l[j - 1]? = some c → ∃ (k : Nat) (u : Nat × Nat), s.2 = (k : Int) ∧ (dh a b)[k]? = some u ∧ mtc u c) ∧ ((s.1 = 0 ∧ dQ l j) ∨ (s.1 = 6 ∧ ¬ dQ l j)))
    (s0 := (0, -1)) rfl rfl (Nat.zero_le _) ⟨fun i hi => absurd hi (Nat.not_lt_zero _), fun _ => rfl, fun c h => absurd h (Nat.lt_irrefl _), .inl ⟨rfl, fun i a b h => by omega⟩⟩ ?_
   rintro j ⟨ord, last⟩ hj ⟨i1, i2, i3, i4⟩ self hself
   simp only at i2 i3 i4
   simp (disch := omega) only [↓qxs, ↓qxc, ↓qxa]
   refine pz hl2 ?_
   by_cases hlt : j < l.length
   ·rw [jh hlt]
    simp (disch := omega) only [↓qxs, ↓qxc, ↓qxa]
    obtain ⟨c, hc⟩ := hZ hlt
    have hmem := List.mem_of_getElem? hc
    have hok := hk c hmem
    unfold okC at hok
    refine py (σ := Int) (j0 := 0) (dh a b).length (fun k at' => [.i at', .i (Int.ofNat k)]) (fun _ _ => h ++ G) (fun k at' => foundAt (dh a b) c k at') (s0 := -1) rfl rfl (Nat.zero_le _) (.inl ⟨rfl, fun k hk => absurd hk (Nat.not_lt_zero _)⟩) ?_
    intro k at' hk2 hf self2 hself2
    simp (disch := omega) only [↓qxs, ↓qxc, ↓qxa]
    refine pz hsl ?_
    by_cases hlk : k < (dh a b).length
    ·rw [jh hlk]
     simp (disch := omega) only [↓qxs, ↓qxc, ↓qxa]
     obtain ⟨u, hu2⟩ := hZ hlk
     refine r_get hsl rfl hu2 ?_
     unfold encU
     simp (disch := omega) only [↓qxs, ↓qxc, ↓qxa]
     refine r_fld (cs := [.int .i64 c.1]) hl2 rfl hc rfl (by decide) ?_
     simp (disch := omega) only [↓qxs, ↓qxc, ↓qxa]
     refine r_fld (cs := [.int .u8 c.2.1]) hl2 rfl hc rfl (by decide) ?_
     simp (disch := omega) only [↓qxs, ↓qxc, ↓qxa]
     by_cases hm : mtc u c
     ·have hm1 : Int.ofNat u.1 = c.1 := hm.1
      have hm2 : Int.ofNat u.2 = c.2.1 := hm.2
      rw [hm1, hm2]
      simp (disch := omega) only [↓qxs, ↓qxc, ↓qxa]
      rw [oO (by omega)]
      exact hself2 (Int.ofNat k) hlk (.inr ⟨k, u, Nat.lt_succ_self k, rfl, hu2, hm⟩)
     ·have hm' : ¬ (Int.ofNat u.1 = c.1 ∧ Int.ofNat u.2 = c.2.1) := hm
      rw [p_eqs2_f hm']
      simp (disch := omega) only [↓qxs, ↓qxc, ↓qxa]
      rw [oO (by omega)]
      refine hself2 at' hlk ?_
      rcases hf with ⟨e, hf⟩ | ⟨k1, u1, q1, q2, q3, q4⟩
      ·refine .inl ⟨e, fun k2 hk3 u2 hu3 => ?_⟩
       rcases Nat.lt_or_ge k2 k with h | h
       ·exact hf k2 h u2 hu3
       ·obtain rfl : k2 = k := by omega
        rw [hu2] at hu3; cases hu3; exact hm
      ·exact .inr ⟨k1, u1, by omega, q2, q3, q4⟩
    ·obtain rfl : k = (dh a b).length := by omega
     rw [jQ (Nat.le_refl _)]
     simp (disch := omega) only [↓qxs, ↓qxc, ↓qxa]
     rcases hf with ⟨e, hf⟩ | ⟨k1, u1, q1, q2, q3, q4⟩
     ·have hu : unC (.ofNat a) (.ofNat b) c = false := by
       rw [← Bool.not_eq_true, unC_iff ha1 ha2 hb1 hb2 (by omega)]
       rintro ⟨k2, u2, e1, e2⟩
       exact hf k2 (iT e1) u2 e1 e2
      have hall : l.all (unC (.ofNat a) (.ofNat b)) = false := List.all_eq_false.2 ⟨c, hmem, fun h => by rw [hu] at h; cases h⟩
      simp (disch := omega) only [↓qxs, ↓qxc, ↓qxa]
      exact ⟨by rw [chkC_7 hK hall], hpre⟩
     ·have hu : unC (.ofNat a) (.ofNat b) c = true := (unC_iff ha1 ha2 hb1 hb2 (by omega)).2 ⟨k1, u1, q3, q4⟩
      have hat : at' = (k1 : Int) := q2
      have fin : ∀ ord' : Int, ((ord' = 0 ∧ dQ l (j + 1)) ∨ (ord' = 6 ∧ ¬ dQ l (j + 1))) → self [.i ord', .i at', .i (Int.ofNat j + 1)] (h ++ G) := fun ord' ho =>
       hself (ord', at') hlt ⟨fun i hi' c' hc' => by
        rcases Nat.lt_or_ge i j with h | h
        ·exact i1 i h c' hc'
        ·obtain rfl : i = j := by omega
         rw [hc] at hc'; cases hc'; exact hu, fun h => by omega, fun c' _ hc' => by
        rw [Nat.add_sub_cancel, hc] at hc'; cases hc'
        exact ⟨k1, u1, hat, q3, q4⟩, ho⟩
      have ext : ∀ c', 0 < j → l[j - 1]? = some c' → (dQ l (j + 1) ↔ dQ l j ∧ ltC c' c = true) := by
       intro c' h0 hc'
       constructor
       ·intro hp
        exact ⟨fun i a b h => hp i a b (by omega), hp (j - 1) c' c (by omega) hc' (by rw [show j - 1 + 1 = j by omega]; exact hc)⟩
       ·rintro ⟨hp, hq⟩ i a b hi' ha hb'
        rcases Nat.lt_or_ge (i + 1) j with h | h
        ·exact hp i a b h ha hb'
        ·have e1 : i = j - 1 := by omega
         have e2 : i + 1 = j := by omega
         rw [e2, hc] at hb'
         rw [e1, hc'] at ha
         cases ha; cases hb'; exact hq
      simp (disch := omega) only [↓qxs, ↓qxc, ↓qxa]
      by_cases hle : at' ≤ last
      · -- the place is not greater
       simp (disch := omega) only [↓qxs, ↓qxc, ↓qxa]
       rw [oO (by omega)]
       refine fin 6 (.inr ⟨rfl, fun hp => ?_⟩)
       rcases Nat.eq_zero_or_pos j with h0 | h0
       ·have := i2 h0; omega
       ·obtain ⟨c', hc'⟩ := hZ (l := l) (i := j - 1) (by omega)
        obtain ⟨k', u', e1, e2, e3⟩ := i3 c' h0 hc'
        have := (pos_iff hU q3 e2 q4 e3).2 ((ext c' h0 hc').1 hp).2
        omega
      ·simp (disch := omega) only [↓qxs, ↓qxc, ↓qxa]
       rw [oO (by omega)]
       refine fin ord ?_
       rcases Nat.eq_zero_or_pos j with h0 | h0
       ·have p0 : dQ l (j + 1) := fun i a b h => by omega
        rcases i4 with ⟨e, _⟩ | ⟨_, e⟩
        ·exact .inl ⟨e, p0⟩
        ·exact absurd (fun i a b h => by omega) e
       ·obtain ⟨c', hc'⟩ := hZ (l := l) (i := j - 1) (by omega)
        obtain ⟨k', u', e1, e2, e3⟩ := i3 c' h0 hc'
        have hlt2 := (pos_iff hU q3 e2 q4 e3).1 (by omega)
        rcases i4 with ⟨e, e'⟩ | ⟨e, e'⟩
        ·exact .inl ⟨e, (ext c' h0 hc').2 ⟨e', hlt2⟩⟩
        ·exact .inr ⟨e, fun hp => e' ((ext c' h0 hc').1 hp).1⟩
   ·obtain rfl : j = l.length := by omega
    rw [jQ (Nat.le_refl _)]
    simp (disch := omega) only [↓qxs, ↓qxc, ↓qxa]
    have hall : l.all (unC (.ofNat a) (.ofNat b)) = true := List.all_eq_true.2 fun c hc => by
     obtain ⟨i, hi'⟩ := List.getElem?_of_mem hc
     exact i1 i (iT hi') c hi'
    have hasc : ascC l = true ↔ dQ l l.length := by
     rw [iR]
     exact ⟨fun h i a b _ => h i a b, fun h i a b ha hb' => h i a b (iT hb') ha hb'⟩
    refine ⟨?_, hpre⟩
    rcases i4 with ⟨e, e'⟩ | ⟨e, e'⟩
    ·rw [e, chkC_0 hK hall (hasc.2 e')]
    ·have : ascC l = false := by rw [← Bool.not_eq_true, hasc]; exact e'
     rw [e, chkC_6 hK hall this])
 obtain ⟨G, rfl⟩ := hp
 exact ⟨G, h3⟩
end Go.Am

/-
 The examples of chapter 9.
-/
set_option maxRecDepth 100000
namespace Go.Am
open Sx Go.Proofs
theorem lives9 : ∀ H, aJ cc ac 16 [] H [.b true] H := jP (n := 60) rfl (by kernel_rfl) rfl (by kernel_rfl)
end Go.Am

/-
 CORNERS: what is made by runs; errors.
-/
set_option maxRecDepth 100000
set_option maxHeartbeats 4000000
namespace Go.Am
open Sx Go.Proofs
noncomputable def okSl (h : HTr) (x : Value) (e : Nat) : Bool := match x with
 | .slice none 0 0 => true
 | .slice (some a) _ _ => tagB a.spot e && Nat.blt a.block h.n
 | _ => false
theorem plainR {l : List Lf} {σ : Nat → Nat} (hl : l.all (fun l => match l with | .v _ => false | _ => true) = true) : l.map (renL σ) = l := by
 induction l with
 | nil => rfl
 | cons a l ih =>
  simp only [List.all_cons, Bool.and_eq_true] at hl
  rw [List.map_cons, ih hl.2]
  cases a <;> first | rfl | (simp at hl)
theorem plainO {l : List Lf} {n : Nat} (hl : l.all (fun l => match l with | .v _ => false | _ => true) = true) : ∀ a ∈ l, OkL n a := by
 intro a ha
 have := List.all_eq_true.1 hl a ha
 cases a <;> first | trivial | cases this
theorem pP {g n : Nat} {ls rest : List Lf} {e : Nat} (hg : aX ls = true) (hno : neuN g = none) (hl : ls.all (fun l => match l with | .v _ => false | _ => true) = true) (hr : rest.all (fun l => match l with | .v _ => false | _ => true) = true)
  (h : runF n (.f g) ls .empty (fun rs h => match rs with
   | .v x :: r => ans (eqLs r rest && okSl h x e)
   | _ => none) = yes) (H : HL) : ∃ x G, aJ cc ac g ls (absH ab H) (.v x :: rest) (absH ab (H ++ G)) := by
 obtain ⟨rs, h', a1, a2⟩ := (mT n).f g ls .empty _ [] (da hg) h
 split at a2
 ·rename_i x r
  have a2 := ans_yes a2
  simp only [Bool.and_eq_true] at a2
  obtain ⟨a2, a3⟩ := a2
  have a2 := fa a2
  subst a2
  have e0 : absH ab (toL HTr.empty) = [] := rfl
  rw [e0] at a1
  have key := call_al (N := neuN) eJ ce hno (H := absH ab H) id a1 (fun j o hj => by simp at hj) (plainO hl) (fun l hl' => by
   rcases List.mem_cons.1 hl' with rfl | hl'
   ·unfold okSl at a3
    split at a3
    ·exact .inl ⟨rfl, fun _ => rfl⟩
    ·rename_i a len cx
     simp only [Bool.and_eq_true, Nat.blt_eq] at a3
     have ht := iO.1 a3.1
     refine .inr ⟨a.block, a.off, len, cx, e, by rw [dR, dF]; exact a3.2, ?_⟩
     rw [← ht]
    ·cases a3
   ·exact plainO hr l hl')
  rw [plainR hl, List.map_cons, plainR hr, List.length_nil, List.drop_zero] at key
  refine ⟨renV (jf 0 (absH ab H).length id) x, ((absH ab (toL h')).map mY).map .o, ?_⟩
  rw [qj, absH_o]; exact key
 ·cases a2
noncomputable def tabAll9 (w v : Nat) : Bool := match runF 60 (.f 11) [.i (.ofNat w), .i (.ofNat v)] .empty (fun rs h => match rs with
   | .v x :: r => ans (eqLs r [.i 0] && okSl h x 2)
   | _ => none) with
 | some [] => true
 | _ => false
noncomputable def tabAr (w v x y : Nat) : Bool := match runF 60 (.f 12) [.i (.ofNat w), .i (.ofNat v), .i (.ofNat x), .i (.ofNat y)] .empty (fun rs h => match rs with
   | .v x :: r => ans (eqLs r [.i 0] && okSl h x 1)
   | _ => none) with
 | some [] => true
 | _ => false
def isCo (w v x y : Nat) : Bool := Nat.blt 0 x && Nat.blt 0 y && Nat.blt x (2 * w) && Nat.blt y (2 * v) && Nat.beq (x % 2) (y % 2)
noncomputable def tab9 (w v : Nat) : Bool := tabAll9 w v && ((List.range (2 * w)).all fun x => (List.range (2 * v)).all fun y => !isCo w v x y || tabAr w v x y)
theorem pM : ∀ w v : Nat, 1 ≤ w → w ≤ 5 → 1 ≤ v → v ≤ 5 → tab9 w v = true := by
 have key : ((List.range 5).all fun w => (List.range 5).all fun v => tab9 (w + 1) (v + 1)) = true := by kernel_rfl
 intro w v h1 h2 h3 h4
 have h5 := List.all_eq_true.1 key (w - 1) (List.mem_range.2 (by omega))
 have h6 := List.all_eq_true.1 h5 (v - 1) (List.mem_range.2 (by omega))
 have e1 : w - 1 + 1 = w := by omega
 have e2 : v - 1 + 1 = v := by omega
 rw [e1, e2] at h6
 exact h6
end Go.Am

/-
 CORNERS: errors.
-/
set_option maxRecDepth 100000
set_option maxHeartbeats 4000000
namespace Go.Am
open Sx Go.Proofs
theorem ptr_new {h : HL} {cs : List Value} {e : Nat} {rw' : Bool} : Ptr (h ++ [.o (.cells cs e rw')]) (.pointer (some ⟨h.length, 0, none⟩)) cs :=
 ⟨h.length, 0, cs, e, rw', rfl, by simp, Sx.cut_all rfl⟩
abbrev KT : List Lf → HL → Prop := fun rs _ => rs = [.b true]
theorem all_any {w v : Int} (hs : smS w v) (h : HL) : ∃ x G, aJ cc ac 11 [.i w, .i v] (absH ab h) [.v x, .i 0] (absH ab (h ++ G)) := by
 obtain ⟨a, b, rfl, rfl, h1, h2, h3, h4⟩ := nJ hs
 have ht := pM a b h1 h2 h3 h4
 unfold tab9 at ht
 rw [Bool.and_eq_true] at ht
 have ht := ht.1
 unfold tabAll9 at ht
 split at ht
 ·rename_i e
  exact pP (g := 11) (rest := [.i 0]) rfl (by kernel_rfl) rfl rfl e h
 ·cases ht
def coS (w v x y : Int) : Prop := 0 < x ∧ 0 < y ∧ x < 2 * w ∧ y < 2 * v ∧ x % 2 = y % 2
instance (w v x y : Int) : Decidable (coS w v x y) := by unfold coS; infer_instance
theorem corner_c {w v : Int} (hs : smS w v) (x y : Int) : Cc 32 [.i w, .i v, .i x, .i y] [.i (if coS w v x y then 0 else 7)] := by
 refine q32 rfl ?_; unfold p32
 have hs' := hs
 unfold smS at hs'
 simp (disch := omega) only [↓qxs, ↓qxc, ↓qxa]
 refine br (gW (my hs)) ?_
 by_cases h1 : 0 < x
 ·by_cases h2 : 0 < y
  ·by_cases h3 : x < 2 * w
   ·by_cases h4 : y < 2 * v
    ·by_cases h5 : x % 2 = y % 2
     ·simp (disch := omega) only [↓qxs, ↓qxc, ↓qxa]; simp [coS, h1, h2, h3, h4, h5]
     ·simp (disch := omega) only [↓qxs, ↓qxc, ↓qxa]; simp [coS, h5]
    ·simp (disch := omega) only [↓qxs, ↓qxc, ↓qxa]; simp [coS, h4]
   ·simp (disch := omega) only [↓qxs, ↓qxc, ↓qxa]; simp [coS, h3]
  ·simp (disch := omega) only [↓qxs, ↓qxc, ↓qxa]; simp [coS, h2]
 ·simp (disch := omega) only [↓qxs, ↓qxc, ↓qxa]; simp [coS, h1]
theorem rh {w v : Int} (hs : ¬ valS w v) (x y : Int) : Cc 32 [.i w, .i v, .i x, .i y] [.i 1] := by
 refine q32 rfl ?_; unfold p32
 simp (disch := omega) only [↓qxs, ↓qxc, ↓qxa]
 refine br (gK hs) ?_
 simp (disch := omega) only [↓qxs, ↓qxc, ↓qxa]
theorem nr {w v x y e : Int} (he : e ≠ 0) (hc : Cc 32 [.i w, .i v, .i x, .i y] [.i e]) (h : HL) : aJ cc ac 12 [.i w, .i v, .i x, .i y] (absH ab h) [.v (.slice none 0 0), .i e] (absH ab h) := by
 obtain ⟨rs, h', h3, rfl, rfl⟩ := u12 (ls := [.i w, .i v, .i x, .i y]) (K := fun rs h' => rs = [.v (.slice none 0 0), .i e] ∧ h' = h) (H := h) rfl (by
  unfold p12
  simp (disch := omega) only [↓qxs, ↓qxc, ↓qxa]
  refine br hc ?_
  simp (disch := omega) only [↓qxs, ↓qxc, ↓qxa]
  exact ⟨by trivial, by trivial⟩)
 exact h3
theorem rf {w v : Int} (hs : smS w v) (x y : Int) (h : HL) : ∃ s e G, aJ cc ac 12 [.i w, .i v, .i x, .i y] (absH ab h) [.v s, .i e] (absH ab (h ++ G)) := by
 by_cases hc : coS w v x y
 ·obtain ⟨a, b, rfl, rfl, h1, h2, h3, h4⟩ := nJ hs
  unfold coS at hc
  obtain ⟨k, rfl⟩ := Int.eq_ofNat_of_zero_le (show 0 ≤ x by omega)
  obtain ⟨j, rfl⟩ := Int.eq_ofNat_of_zero_le (show 0 ≤ y by omega)
  have hc3 : (k : Int) < 2 * (a : Int) := hc.2.2.1
  have hc4 : (j : Int) < 2 * (b : Int) := hc.2.2.2.1
  have ht := pM a b h1 h2 h3 h4
  unfold tab9 at ht
  rw [Bool.and_eq_true] at ht
  have h5 := List.all_eq_true.1 ht.2 k (List.mem_range.2 (by omega))
  have h6 := List.all_eq_true.1 h5 j (List.mem_range.2 (by omega))
  have h7 : isCo a b k j = true := by
   unfold isCo
   simp only [Bool.and_eq_true, Nat.blt_eq, Nat.beq_eq]
   omega
  rw [h7] at h6
  have h6 : tabAr a b k j = true := h6
  unfold tabAr at h6
  split at h6
  ·rename_i e
   obtain ⟨s, G, c⟩ := pP (g := 12) (rest := [.i 0]) rfl (by kernel_rfl) rfl rfl e h
   exact ⟨s, 0, G, c⟩
  ·cases h6
 ·have := corner_c hs x y
  rw [if_neg hc] at this
  refine ⟨.slice none 0 0, 7, [], ?_⟩
  rw [List.append_nil]
  exact nr (by decide) this h
theorem all_bad {w v : Int} (hs : ¬ valS w v) (h : HL) : aJ cc ac 11 [.i w, .i v] (absH ab h) [.v (.slice none 0 0), .i 1] (absH ab h) := by
 have hp : aJ cc ac 31 [.i w, .i v] (absH ab h) [.v (.slice none 0 0), .i 1] (absH ab h) := by
  obtain ⟨rs, h', h3, rfl, rfl⟩ := u31 (ls := [.i w, .i v]) (K := fun rs h' => rs = [.v (.slice none 0 0), .i 1] ∧ h' = h) (H := h) rfl (by
   unfold p31
   simp (disch := omega) only [↓qxs, ↓qxc, ↓qxa]
   refine br (gK hs) ?_
   simp (disch := omega) only [↓qxs, ↓qxc, ↓qxa]
   exact ⟨by trivial, by trivial⟩)
  exact h3
 obtain ⟨rs, h', h3, rfl, rfl⟩ := u11 (ls := [.i w, .i v]) (K := fun rs h' => rs = [.v (.slice none 0 0), .i 1] ∧ h' = h) (H := h) rfl (by
  unfold p11
  simp (disch := omega) only [↓qxs, ↓qxc, ↓qxa]
  refine bz hp ?_
  simp (disch := omega) only [↓qxs, ↓qxc, ↓qxa]
  exact ⟨by trivial, by trivial⟩)
 exact h3
theorem check_bad {w v : Int} (hs : ¬ valS w v) {x : Value} (hx : bP x = true) (h : HL) : aJ cc ac 40 [.i w, .i v, .v x] (absH ab h) [.i 1] (absH ab h) := by
 obtain ⟨rs, h', h3, rfl, rfl⟩ := x40 (K := fun rs h' => rs = [.i 1] ∧ h' = h) (H := h) (glsI (glsI (glsV hx gls0))) (by
  unfold p40
  simp (disch := omega) only [↓qxs, ↓qxc, ↓qxa]
  refine br (gK hs) ?_
  simp (disch := omega) only [↓qxs, ↓qxc, ↓qxa]
  exact ⟨by trivial, by trivial⟩)
 exact h3
theorem nI {w v : Int} (hs : ¬ valS w v) {x : Value} (hx : bP x = true) (h : HL) : aJ cc ac 28 [.i w, .i v, .v x] (absH ab h) [.i 1] (absH ab h) := by
 obtain ⟨rs, h', h3, rfl, rfl⟩ := x28 (K := fun rs h' => rs = [.i 1] ∧ h' = h) (H := h) (glsI (glsI (glsV hx gls0))) (by
  unfold p28
  simp (disch := omega) only [↓qxs, ↓qxc, ↓qxa]
  refine br (eh hs) ?_
  simp (disch := omega) only [↓qxs, ↓qxc, ↓qxa]
  exact ⟨by trivial, by trivial⟩)
 exact h3
end Go.Am

/-
 CornersErrors: the law.
-/
set_option maxRecDepth 100000
set_option maxHeartbeats 4000000
namespace Go.Am
open Sx Go.Proofs
def ErrC (w v : Int) (s : Value) (e : Int) (h : HL) : Prop := bP s = true ∧ ∀ h', Pre h h' → aJ cc ac 40 [.i w, .i v, .v s] (absH ab h') [.i e] (absH ab h')
theorem ErrC.pre {w v : Int} {s : Value} {e : Int} {h h' : HL} (hc : ErrC w v s e h) (hp : Pre h h') : ErrC w v s e h' := ⟨hc.1, fun h2 hp2 => hc.2 h2 (hp.trans hp2)⟩
theorem dz {w v x y e : Int} {s : Value} {h : HL} (he : e ≠ 0) (hc : ErrC w v s e h) : ∃ G, aJ cc ac 19 [.i w, .i v, .v s, .i x, .i y] (absH ab h) [.v (.slice none 0 0), .i e] (absH ab (h ++ G)) := by
 obtain ⟨rs, h', h3, rfl, G, rfl⟩ := x19 (K := fun rs h' => rs = [.v (.slice none 0 0), .i e] ∧ Pre h h') (H := h) (glsI (glsI (glsV hc.1 (glsI (glsI gls0))))) (by
  unfold p19
  simp (disch := omega) only [↓qxs, ↓qxc, ↓qxa]
  refine lL (ptr_new.lg rfl) ?_
  simp (disch := omega) only [↓qxs, ↓qxc, ↓qxa]
  refine p_chk_r hc.1 ?_
  simp (disch := omega) only [↓qxs, ↓qxc, ↓qxa]
  refine bz (hc.2 _ ⟨_, rfl⟩) ?_
  simp (disch := omega) only [↓qxs, ↓qxc, ↓qxa]
  exact ⟨by trivial, ⟨_, rfl⟩⟩)
 exact ⟨G, h3⟩
theorem lD {w v x y e : Int} {s : Value} {h : HL} (he : e ≠ 0) (hc : ErrC w v s e h) : ∃ G, aJ cc ac 20 [.i w, .i v, .v s, .i x, .i y] (absH ab h) [.i 0, .i e] (absH ab (h ++ G)) := by
 obtain ⟨G0, h0⟩ := dz (x := x) (y := y) he hc
 obtain ⟨rs, h', h3, rfl, G, rfl⟩ := x20 (K := fun rs h' => rs = [.i 0, .i e] ∧ Pre h h') (H := h) (glsI (glsI (glsV hc.1 (glsI (glsI gls0))))) (by
  unfold p20
  simp (disch := omega) only [↓qxs, ↓qxc, ↓qxa]
  refine bz h0 ?_
  simp (disch := omega) only [↓qxs, ↓qxc, ↓qxa]
  refine gS (x := (0 : Int)) rfl ?_
  exact ⟨by trivial, ⟨_, rfl⟩⟩)
 exact ⟨G, h3⟩
theorem io {w v x y e : Int} {s : Value} {h : HL} (he : e ≠ 0) (hc : ErrC w v s e h) : ∃ G, aJ cc ac 21 [.i w, .i v, .v s, .i x, .i y] (absH ab h) [.b false, .i e] (absH ab (h ++ G)) := by
 obtain ⟨G0, h0⟩ := dz (x := x) (y := y) he hc
 obtain ⟨rs, h', h3, rfl, G, rfl⟩ := x21 (K := fun rs h' => rs = [.b false, .i e] ∧ Pre h h') (H := h) (glsI (glsI (glsV hc.1 (glsI (glsI gls0))))) (by
  unfold p21
  simp (disch := omega) only [↓qxs, ↓qxc, ↓qxa]
  refine bz h0 ?_
  simp (disch := omega) only [↓qxs, ↓qxc, ↓qxa]
  refine gS (x := (0 : Int)) rfl ?_
  simp (disch := omega) only [↓qxs, ↓qxc, ↓qxa]
  exact ⟨by trivial, ⟨_, rfl⟩⟩)
 exact ⟨G, h3⟩
theorem kL {w v x y e : Int} {s : Value} {h : HL} (he : e ≠ 0) (hc : ErrC w v s e h) : ∃ G, aJ cc ac 22 [.i w, .i v, .v s, .i x, .i y] (absH ab h) [.v (.slice none 0 0), .i e] (absH ab (h ++ G)) := by
 obtain ⟨G0, h0⟩ := dz (x := x) (y := y) he hc
 obtain ⟨rs, h', h3, rfl, G, rfl⟩ := x22 (K := fun rs h' => rs = [.v (.slice none 0 0), .i e] ∧ Pre h h') (H := h) (glsI (glsI (glsV hc.1 (glsI (glsI gls0))))) (by
  unfold p22
  simp (disch := omega) only [↓qxs, ↓qxc, ↓qxa]
  refine bz h0 ?_
  simp (disch := omega) only [↓qxs, ↓qxc, ↓qxa]
  exact ⟨by trivial, ⟨_, rfl⟩⟩)
 exact ⟨G, h3⟩
theorem gG {w v x y : Int} (hw : -9223372036854775808 ≤ w ∧ w ≤ 9223372036854775807 ∧ -9223372036854775808 ≤ v ∧ v ≤ 9223372036854775807) {s : Value} {l : List Crs} {h : HL} (hl : LsH h s 3 encC l) (hk : ∀ c ∈ l, okC c) :
  ∃ h', aJ cc ac 7 [.i w, .i v, .v s, .i x, .i y] (absH ab h) [.b true] (absH ab h') := by
 obtain ⟨rs, h', h3, rfl⟩ := x7 (K := KT) (H := h) (glsI (glsI (glsV hl.good (glsI (glsI gls0))))) (by
  unfold p7
  simp (disch := omega) only [↓qxs, ↓qxc, ↓qxa]
  refine pz hl ?_
  by_cases h20 : l.length ≤ 20
  ·have hg : Int.ofNat l.length ≤ 20 := by show (l.length : Int) ≤ 20; omega
   rw [p_gtr_f hg]
   simp (disch := omega) only [↓qxs, ↓qxc, ↓qxa]
   by_cases hv : valS w v
   ·refine br (ei hv) ?_
    simp (disch := omega) only [↓qxs, ↓qxc, ↓qxa]
    by_cases h5 : w ≤ 5
    ·by_cases h6 : v ≤ 5
     ·have hs : smS w v := by unfold valS at hv; unfold smS; omega
      simp (disch := omega) only [↓qxs, ↓qxc, ↓qxa]
      obtain ⟨x1, G1, c1⟩ := all_any hs h
      refine bz c1 ?_
      simp (disch := omega) only [↓qxs, ↓qxc, ↓qxa]
      obtain ⟨x2, e2, G2, c2⟩ := rf hs x y (h ++ G1)
      refine bz c2 ?_
      simp (disch := omega) only [↓qxs, ↓qxc, ↓qxa]
      refine br (ei hv) ?_
      simp (disch := omega) only [↓qxs, ↓qxc, ↓qxa]
      refine br (ei hv) ?_
      simp (disch := omega) only [↓qxs, ↓qxc, ↓qxa]
      have hp1 : Pre h (h ++ G1 ++ G2) := ⟨G1 ++ G2, by simp⟩
      obtain ⟨G3, c3⟩ := qP hs (hl.pre hp1) hk (by omega)
      refine bz c3 ?_
      simp (disch := omega) only [↓qxs, ↓qxc, ↓qxa]
      by_cases h0 : chkC w v l = 0
      ·simp (disch := omega) only [↓qxs, ↓qxc, ↓qxa]
       refine br lives9 ?_
       simp (disch := omega) only [↓qxs, ↓qxc, ↓qxa]
      ·have he : ErrC w v s (chkC w v l) (h ++ G1 ++ G2 ++ G3) := ⟨hl.good, fun h' hp => check_c hs ((hl.pre hp1).pre (Pre.trans ⟨G3, rfl⟩ hp)) hk (by omega)⟩
       simp (disch := omega) only [↓qxs, ↓qxc, ↓qxa]
       obtain ⟨G4, c4⟩ := dz (x := x) (y := y) h0 he
       refine bz c4 ?_
       simp (disch := omega) only [↓qxs, ↓qxc, ↓qxa]
       obtain ⟨G5, c5⟩ := lD (x := x) (y := y) h0 (he.pre ⟨G4, rfl⟩)
       refine bz c5 ?_
       simp (disch := omega) only [↓qxs, ↓qxc, ↓qxa]
       obtain ⟨G6, c6⟩ := io (x := x) (y := y) h0 ((he.pre ⟨G4, rfl⟩).pre ⟨G5, rfl⟩)
       refine bz c6 ?_
       simp (disch := omega) only [↓qxs, ↓qxc, ↓qxa]
       obtain ⟨G7, c7⟩ := kL (x := x) (y := y) h0 (((he.pre ⟨G4, rfl⟩).pre ⟨G5, rfl⟩).pre ⟨G6, rfl⟩)
       refine bz c7 ?_
       simp (disch := omega) only [↓qxs, ↓qxc, ↓qxa]
       refine br lives9 ?_
       simp (disch := omega) only [↓qxs, ↓qxc, ↓qxa]
     ·simp (disch := omega) only [↓qxs, ↓qxc, ↓qxa]
    ·simp (disch := omega) only [↓qxs, ↓qxc, ↓qxa]
   ·refine br (eh hv) ?_
    simp (disch := omega) only [↓qxs, ↓qxc, ↓qxa]
    refine bz (all_bad hv h) ?_
    simp (disch := omega) only [↓qxs, ↓qxc, ↓qxa]
    refine bz (nr (by decide) (rh hv x y) h) ?_
    simp (disch := omega) only [↓qxs, ↓qxc, ↓qxa]
    refine br (eh hv) ?_
    simp (disch := omega) only [↓qxs, ↓qxc, ↓qxa]
    refine br (eh hv) ?_
    simp (disch := omega) only [↓qxs, ↓qxc, ↓qxa]
    refine bz (nI hv hl.good h) ?_
    simp (disch := omega) only [↓qxs, ↓qxc, ↓qxa]
    have he : ErrC w v s 1 h := ⟨hl.good, fun h' hp => check_bad hv hl.good h'⟩
    obtain ⟨G4, c4⟩ := dz (x := x) (y := y) (by decide) he
    refine bz c4 ?_
    simp (disch := omega) only [↓qxs, ↓qxc, ↓qxa]
    obtain ⟨G5, c5⟩ := lD (x := x) (y := y) (by decide) (he.pre ⟨G4, rfl⟩)
    refine bz c5 ?_
    simp (disch := omega) only [↓qxs, ↓qxc, ↓qxa]
    obtain ⟨G6, c6⟩ := io (x := x) (y := y) (by decide) ((he.pre ⟨G4, rfl⟩).pre ⟨G5, rfl⟩)
    refine bz c6 ?_
    simp (disch := omega) only [↓qxs, ↓qxc, ↓qxa]
    obtain ⟨G7, c7⟩ := kL (x := x) (y := y) (by decide) (((he.pre ⟨G4, rfl⟩).pre ⟨G5, rfl⟩).pre ⟨G6, rfl⟩)
    refine bz c7 ?_
    simp (disch := omega) only [↓qxs, ↓qxc, ↓qxa]
    refine br lives9 ?_
    simp (disch := omega) only [↓qxs, ↓qxc, ↓qxa]
  ·have hg : 20 < Int.ofNat l.length := by show 20 < (l.length : Int); omega
   rw [p_gtr_t hg]
   simp (disch := omega) only [↓qxs, ↓qxc, ↓qxa])
 exact ⟨h', h3⟩
end Go.Am

/-
 ARGUMENTS WITHOUT ADDRESSES, as the row reads them.
-/
namespace Go.Am
namespace Sx
open Go.ChangeShapes Go.WideShapes Go.ChangeAt Go.WideMaps Go.WideElems Go.RowKit
noncomputable def FitC : List LK → List Value → Prop
 | [], [] => True
 | .i k :: ks, v :: vs => (∃ n, v = .int k n ∧ (Lit.int k n).wf = true) ∧ FitC ks vs
 | .b :: ks, v :: vs => (∃ t, v = .bool t) ∧ FitC ks vs
 | _, _ => False
noncomputable def FitL : List LK → List Lf → Prop
 | [], [] => True
 | .i k :: ks, .i n :: ls => (Lit.int k n).wf = true ∧ FitL ks ls
 | .b :: ks, .b _ :: ls => FitL ks ls
 | _, _ => False
theorem FitC.len : ∀ {ks : List LK} {vs : List Value}, FitC ks vs → vs.length = ks.length
 | [], [], _ => rfl
 | .i k :: ks, v :: vs, h => by simp [FitC.len h.2]
 | .b :: ks, v :: vs, h => by simp [FitC.len h.2]
 | .v :: _, _, h => by cases h
 | [], _ :: _, h => by cases h
 | .i _ :: _, [], h => by cases h
 | .b :: _, [], h => by cases h
theorem FitC.app : ∀ {ks ks' : List LK} {vs vs' : List Value}, FitC ks vs → FitC ks' vs' → FitC (ks ++ ks') (vs ++ vs')
 | [], _, [], _, _, h => h
 | .i k :: ks, _, v :: vs, _, h, h' => ⟨h.1, FitC.app h.2 h'⟩
 | .b :: ks, _, v :: vs, _, h, h' => ⟨h.1, FitC.app h.2 h'⟩
 | .v :: _, _, _, _, h, _ => by cases h
 | [], _, _ :: _, _, h, _ => by cases h
 | .i _ :: _, _, [], _, h, _ => by cases h
 | .b :: _, _, [], _, h, _ => by cases h
theorem FitL.app : ∀ {ks ks' : List LK} {vs vs' : List Lf}, FitL ks vs → FitL ks' vs' → FitL (ks ++ ks') (vs ++ vs')
 | [], _, [], _, _, h => h
 | .i k :: ks, _, .i v :: vs, _, h, h' => ⟨h.1, FitL.app h.2 h'⟩
 | .b :: ks, _, .b v :: vs, _, h, h' => FitL.app (ks := ks) h h'
 | .v :: _, _, _, _, h, _ => by cases h
 | [], _, _ :: _, _, h, _ => by cases h
 | .i _ :: _, _, [], _, h, _ => by cases h
 | .b :: _, _, [], _, h, _ => by cases h
 | .i _ :: _, _, .b _ :: _, _, h, _ => by cases h
 | .i _ :: _, _, .v _ :: _, _, h, _ => by cases h
 | .b :: _, _, .i _ :: _, _, h, _ => by cases h
 | .b :: _, _, .v _ :: _, _, h, _ => by cases h
theorem FitC.sl : ∀ {ks : List LK} {vs : List Value}, FitC ks vs → ∃ xs : List SL, xs.map SL.val = vs ∧ aI xs ks = true ∧ (∀ x ∈ xs, x.good) ∧ FitL ks (xs.map SL.lf)
 | [], [], _ => ⟨[], rfl, rfl, fun _ h => (by cases h), trivial⟩
 | .i k :: ks, v :: vs, h => by
  obtain ⟨⟨n, rfl, hw⟩, h2⟩ := h
  obtain ⟨xs, a, b, c, d⟩ := FitC.sl h2
  exact ⟨.i k n :: xs, by simp [a, SL.val], by simp [aI, b, SL.is, cT], fun x hx => by
   rcases List.mem_cons.1 hx with rfl | hx
   ·trivial
   ·exact c x hx, hw, d⟩
 | .b :: ks, v :: vs, h => by
  obtain ⟨⟨n, rfl⟩, h2⟩ := h
  obtain ⟨xs, a, b, c, d⟩ := FitC.sl h2
  exact ⟨.b n :: xs, by simp [a, SL.val], by simp [aI, b, SL.is], fun x hx => by
   rcases List.mem_cons.1 hx with rfl | hx
   ·trivial
   ·exact c x hx, d⟩
 | .v :: _, _, h => by cases h
 | [], _ :: _, h => by cases h
 | .i _ :: _, [], h => by cases h
 | .b :: _, [], h => by cases h
noncomputable def flatF (F : TypeId → Option (List LK)) : List Field → Nat → Option (List LK)
 | [], _ => some []
 | f :: fs, off => match Nat.beq f.offset off, F f.type with
  | true, some ks => (flatF F fs (off + ks.length)).map (ks ++ ·)
  | _, _ => none
noncomputable def flatT (P : Program) : Nat → TypeId → Option (List LK)
 | 0, _ => none
 | d + 1, t => match P.underlying t with
  | some (.int k) => some [.i k]
  | some .bool => some [.b]
  | some (.struct fs) => match flatF (flatT P d) fs.toList 0 with
   | some ks => match Nat.beq ks.length (P.cellsOf t) with
    | true => some ks
    | false => none
   | none => none
  | _ => none
section
variable {H : Type} {enc : TypeId × Value → H} {P : Program}
theorem gk {α : Type} (l : List α) (c : Nat) : l.take (l.take c).length = l.take c := by
 rw [List.length_take]
 rcases Nat.le_total c l.length with h | h
 ·rw [Nat.min_eq_left h]
 ·rw [Nat.min_eq_right h, List.take_of_length_le h, List.take_of_length_le (Nat.le_refl _)]
theorem qw {F : TypeId → Option (List LK)} {w : World} {base : Nat} {sp : Nat → Bool} {held : Bool} {fuel : Nat}
  (hF : ∀ t ks, F t = some ks → ∀ cs (x : DataW H × List MemPlace), DataW.trod enc P w base sp held fuel t cs = some x → x.2 = [] ∧ FitC ks cs ∧ ∀ w' b' s' h', DataW.trod enc P w' b' s' h' fuel t cs = some x) (cs : List Value) :
  ∀ (fs : List Field) (off : Nat) (ks : List LK) (xs : List (DataW H × List MemPlace)), flatF F fs off = some ks → fs.mapM (fun f => DataW.trod enc P w base sp held fuel f.type ((cs.drop f.offset).take (P.cellsOf f.type))) = some xs →
   xs.flatMap (·.2) = [] ∧ FitC ks ((cs.drop off).take ks.length) ∧ ∀ w' b' s' h', fs.mapM (fun f => DataW.trod enc P w' b' s' h' fuel f.type ((cs.drop f.offset).take (P.cellsOf f.type))) = some xs
 | [], off, ks, xs, h1, h2 => by
  simp only [flatF, Option.some.injEq] at h1
  subst h1
  simp only [List.mapM_nil, Option.pure_def, Option.some.injEq] at h2
  subst h2
  refine ⟨rfl, by simp [FitC], fun _ _ _ _ => by simp⟩
 | f :: fs, off, ks, xs, h1, h2 => by
  simp only [flatF] at h1
  split at h1
  ·rename_i k1 e1 e2
   obtain ⟨k2, e3, rfl⟩ := Option.map_eq_some_iff.1 h1
   have e1 := Nat.eq_of_beq_eq_true e1
   rw [List.mapM_cons] at h2
   obtain ⟨x, h3, h2⟩ := Option.bind_eq_some_iff.1 h2
   obtain ⟨ys, h4, h2⟩ := Option.bind_eq_some_iff.1 h2
   cases h2
   obtain ⟨a1, a2, a3⟩ := hF _ _ e2 _ _ h3
   obtain ⟨b1, b2, b3⟩ := qw hF cs fs _ k2 ys e3 h4
   refine ⟨by simp [a1, b1], ?_, fun w' b' s' h' => ?_⟩
   ·rw [List.length_append, List.take_add]
    refine FitC.app ?_ (by rw [List.drop_drop]; exact b2)
    have hl := FitC.len a2
    rw [e1] at a2 hl
    rw [← hl, gk]
    exact a2
   ·rw [List.mapM_cons, a3 w' b' s' h', b3 w' b' s' h']
    rfl
  ·cases h1
theorem mQ : ∀ (d : Nat) (t : TypeId) (ks : List LK), flatT P d t = some ks → ∀ (w : World) (base : Nat) (sp : Nat → Bool) (held : Bool) (fuel : Nat) (cs : List Value) (x : DataW H × List MemPlace), DataW.trod enc P w base sp held fuel t cs = some x →
  x.2 = [] ∧ FitC ks cs ∧ ∀ w' b' s' h', DataW.trod enc P w' b' s' h' fuel t cs = some x
 | 0, _, _, h => by cases h
 | d + 1, t, ks, h => by
  intro w base sp held fuel cs x hx
  simp only [flatT] at h
  split at h
  ·rename_i k e
   cases h
   obtain ⟨n, rfl, rfl, hw⟩ := DataW.trod_int e hx
   refine ⟨rfl, ⟨⟨n, rfl, hw⟩, trivial⟩, fun w' b' s' h' => ?_⟩
   cases fuel with
   | zero => simp [DataW.trod] at hx
   | succ m => simp [DataW.trod, e, hw]
  ·rename_i e
   cases h
   obtain ⟨n, rfl, rfl⟩ := DataW.trod_bool e hx
   refine ⟨rfl, ⟨⟨n, rfl⟩, trivial⟩, fun w' b' s' h' => ?_⟩
   cases fuel with
   | zero => simp [DataW.trod] at hx
   | succ m => simp [DataW.trod, e]
  ·rename_i fs e
   split at h
   ·rename_i k2 e2
    split at h
    ·rename_i e3
     cases h
     have e3 := Nat.eq_of_beq_eq_true e3
     cases fuel with
     | zero => simp [DataW.trod] at hx
     | succ m =>
      simp only [DataW.trod, e] at hx
      split at hx
      ·rename_i hl
       obtain ⟨xs, h5, rfl⟩ := Option.map_eq_some_iff.1 hx
       obtain ⟨a1, a2, a3⟩ := qw (fun t ks h cs x hx => mQ d t ks h w base sp held m cs x hx) cs fs.toList 0 ks xs e2 h5
       rw [List.drop_zero, List.take_of_length_le (by omega)] at a2
       refine ⟨a1, a2, fun w' b' s' h' => ?_⟩
       simp only [DataW.trod, e, hl, if_true]
       rw [a3 w' b' s' h']
       rfl
      ·cases hx
    ·cases h
   ·cases h
  ·cases h
end
section
variable [Val]
end
end Sx
end Go.Am
namespace Go.Am
namespace Sx
theorem FitL.i {k : IntKind} {ks : List LK} {ls : List Lf} (h : FitL (.i k :: ks) ls) : ∃ n r, ls = .i n :: r ∧ (Lit.int k n).wf = true ∧ FitL ks r := by
 match ls, h with
 | .i n :: r, h => exact ⟨n, r, rfl, h.1, h.2⟩
theorem FitL.b {ks : List LK} {ls : List Lf} (h : FitL (.b :: ks) ls) : ∃ n r, ls = .b n :: r ∧ FitL ks r := by
 match ls, h with
 | .b n :: r, h => exact ⟨n, r, rfl, h⟩
theorem FitL.nil {ls : List Lf} (h : FitL [] ls) : ls = [] := by
 match ls, h with
 | [], _ => rfl
theorem wf_i64 {n : Int} (h : (Lit.int .i64 n).wf = true) : -9223372036854775808 ≤ n ∧ n ≤ 9223372036854775807 := by
 simp only [Lit.wf, Bool.and_eq_true, decide_eq_true_eq] at h
 exact h
theorem wf_u8 {n : Int} (h : (Lit.int .u8 n).wf = true) : 0 ≤ n ∧ n ≤ 255 := by
 simp only [Lit.wf, Bool.and_eq_true, decide_eq_true_eq] at h
 exact h
theorem iS {H : Type} {enc : TypeId × Value → H} {P : Program} {w : World} {base : Nat} {sp : Nat → Bool} {held : Bool} : ∀ {ts : List TypeId} {vs : List Value} {ds : List (DataW H)} {ps : List MemPlace}, DataW.TrodAll enc P w base sp held ts vs ds ps → ds.length = ts.length
 | [], [], [], _, _ => rfl
 | _ :: _, _ :: _, _ :: _, _, h => by
  obtain ⟨p, q, _, h2, _⟩ := h
  simp [iS h2]
 | [], _ :: _, _, _, h => by cases h
 | [], [], _ :: _, _, h => by cases h
 | _ :: _, [], _, _, h => by cases h
 | _ :: _, _ :: _, [], _, h => by cases h
end Sx
end Go.Am

/-
 ARGUMENTS WITH SLICES, as the row reads them: what is known of them at first.
-/
set_option maxRecDepth 100000
namespace Go.Am
namespace Sx
open Go.ChangeShapes Go.WideShapes Go.ChangeAt Go.WideMaps Go.WideElems Go.RowKit
inductive CK2 where
 |i (k : IntKind)
 |b
 |s (ks : List LK)
def CK2.lk : CK2 → LK
 | .i k => .i k
 | .b => .b
 | .s _ => .v
def SlFit (w : World) (ks : List LK) (v : Value) : Prop :=
 v = .slice none 0 0 ∨ ∃ (a : Addr) (len cap : Nat) (c : Array Value) (t : TypeId) (fr : Nat × Nat) (cells : List Value), v = .slice (some a) len cap ∧ a.spot = none ∧ len ≤ cap ∧ cap ≤ maxLen ∧
  w.heap[a.block]? = some (.cells c t fr) ∧ (cap = 0 ∨ a.off + cap * ks.length ≤ c.size) ∧ cells.length = len * ks.length ∧ (∀ (i : Nat) v, cells[i]? = some v → c[a.off + i]? = some v) ∧
  ∀ i, i < len → FitC ks ((cells.drop (i * ks.length)).take ks.length)
def CellFit (w : World) : CK2 → Value → Prop
 | .i k, v => ∃ n, v = .int k n ∧ (Lit.int k n).wf = true
 | .b, v => ∃ t, v = .bool t
 | .s ks, v => SlFit w ks v
def dd (w : World) : List CK2 → List Value → Prop
 | [], [] => True
 | k :: ks, v :: vs => CellFit w k v ∧ dd w ks vs
 | _, _ => False
def bd (h : HL) : List CK2 → List Lf → Prop
 | [], [] => True
 | .i k :: ks, .i n :: ls => (Lit.int k n).wf = true ∧ bd h ks ls
 | .b :: ks, .b _ :: ls => bd h ks ls
 | .s es :: ks, .v x :: ls => (∃ n cells, SlC h x es.length n cells ∧ n ≤ maxLen ∧ ∀ i, i < n → FitC es ((cells.drop (i * es.length)).take es.length)) ∧ bd h ks ls
 | _, _ => False
theorem dd.len {w : World} : ∀ {ks : List CK2} {vs : List Value}, dd w ks vs → vs.length = ks.length
 | [], [], _ => rfl
 | _ :: _, _ :: _, h => by simp [dd.len h.2]
 | [], _ :: _, h => by cases h
 | _ :: _, [], h => by cases h
theorem dd.app {w : World} : ∀ {ks ks' : List CK2} {vs vs' : List Value}, dd w ks vs → dd w ks' vs' → dd w (ks ++ ks') (vs ++ vs')
 | [], _, [], _, _, h => h
 | _ :: _, _, _ :: _, _, h, h' => ⟨h.1, dd.app h.2 h'⟩
 | [], _, _ :: _, _, h, _ => by cases h
 | _ :: _, _, [], _, h, _ => by cases h
theorem bd.app {h : HL} : ∀ {ks ks' : List CK2} {vs vs' : List Lf}, bd h ks vs → bd h ks' vs' → bd h (ks ++ ks') (vs ++ vs')
 | [], _, [], _, _, h => h
 | .i _ :: ks, _, .i _ :: _, _, h, h' => ⟨h.1, bd.app (ks := ks) h.2 h'⟩
 | .b :: ks, _, .b _ :: _, _, h, h' => bd.app (ks := ks) h h'
 | .s _ :: ks, _, .v _ :: _, _, h, h' => ⟨h.1, bd.app (ks := ks) h.2 h'⟩
 | [], _, _ :: _, _, h, _ => by cases h
 | .i _ :: _, _, [], _, h, _ => by cases h
 | .b :: _, _, [], _, h, _ => by cases h
 | .s _ :: _, _, [], _, h, _ => by cases h
 | .i _ :: _, _, .b _ :: _, _, h, _ => by cases h
 | .i _ :: _, _, .v _ :: _, _, h, _ => by cases h
 | .b :: _, _, .i _ :: _, _, h, _ => by cases h
 | .b :: _, _, .v _ :: _, _, h, _ => by cases h
 | .s _ :: _, _, .i _ :: _, _, h, _ => by cases h
 | .s _ :: _, _, .b _ :: _, _, h, _ => by cases h
noncomputable def ckF (F : TypeId → Option (List CK2)) : List Field → Nat → Option (List CK2)
 | [], _ => some []
 | f :: fs, off => match Nat.beq f.offset off, F f.type with
  | true, some ks => (ckF F fs (off + ks.length)).map (ks ++ ·)
  | _, _ => none
noncomputable def ckT (P : Program) : Nat → TypeId → Option (List CK2)
 | 0, _ => none
 | d + 1, t => match P.underlying t with
  | some (.int k) => some [.i k]
  | some .bool => some [.b]
  | some (.slice e) => match flatT P 20 e with
   | some ks => match Nat.beq (P.cellsOf e) ks.length && Nat.blt 0 ks.length with
    | true => some [.s ks]
    | false => none
   | none => none
  | some (.struct fs) => match ckF (ckT P d) fs.toList 0 with
   | some ks => match Nat.beq ks.length (P.cellsOf t) with
    | true => some ks
    | false => none
   | none => none
  | _ => none
section
variable {H : Type} {enc : TypeId × Value → H} {P : Program}
def Lies (w : World) (v : Value) : Prop := ∀ a len cap, v = .slice (some a) len cap → a.spot = none ∧ ∃ c t fr, w.heap[a.block]? = some (.cells c t fr)
theorem fK {α β : Type} {f g : α → Option β} : ∀ {l : List α}, (∀ x ∈ l, f x = g x) → l.mapM f = l.mapM g
 | [], _ => rfl
 | a :: l, h => by
  rw [List.mapM_cons, List.mapM_cons, h a List.mem_cons_self, fK fun x hx => h x (List.mem_cons_of_mem _ hx)]
theorem bo {a : Addr} (h : a.spot = none) (i : Nat) : a.add i = ⟨a.block, a.off + i, none⟩ := by
 obtain ⟨b, o, s⟩ := a
 cases h
 unfold Addr.add
 simp
theorem slice_ok {w : World} {t e : TypeId} {ks : List LK} (ht : P.underlying t = some (.slice e)) (he : flatT P 20 e = some ks) (hc : P.cellsOf e = ks.length) (h0 : 0 < ks.length) {base : Nat} (hbase : base = 0) {held : Bool} {fuel : Nat} {cs : List Value} {x : DataW H × List MemPlace}
  (hx : DataW.trod enc P w base (fun _ => true) held fuel t cs = some x) (hl : ∀ v ∈ cs, Lies w v) :
  ∃ v, cs = [v] ∧ SlFit w ks v ∧ ∀ (w' : World) (s' : Nat → Bool), (∀ b, b < w.heap.size → w'.heap[b]? = w.heap[b]?) → (∀ b, b < w.heap.size → s' b = true) → DataW.trod enc P w' base s' held fuel t cs = some x := by
 subst hbase
 have hx0 := hx
 rcases DataW.trod_slice ht hx with ⟨rfl, rfl⟩ | ⟨a, len, cap, elems, rest, n, rfl, rfl, rfl, hb, hlc, hm, hlen, hel, hsp, _⟩
 ·refine ⟨_, rfl, .inl rfl, fun w' s' _ _ => ?_⟩
  cases fuel with
  | zero => simp [DataW.trod] at hx
  | succ m => simp [DataW.trod, ht]
 ·obtain ⟨hs, c, t', fr, hblk⟩ := hl _ List.mem_cons_self a len cap rfl
  obtain ⟨hrl, hr⟩ := hsp rfl
  rw [hc] at hel hr
  have hlt : a.block < w.heap.size := by
   rcases Nat.lt_or_ge a.block w.heap.size with h | h
   ·exact h
   ·rw [Array.getElem?_eq_none h] at hblk; cases hblk
  have each : ∀ i, i < cap → ∃ ci y, w.cells? 0 (a.add (i * ks.length)) ks.length = some ci ∧ DataW.trod enc P w 0 (fun _ => true) held n e ci = some y ∧ (elems ++ rest)[i]? = some y := by
   intro i hi
   by_cases h1 : i < len
   ·have h2 := hel i h1
    have h3 : elems[i]? = some elems[i] := List.getElem?_eq_getElem (by omega)
    rw [h3] at h2
    obtain ⟨ci, h4, h5⟩ := Option.bind_eq_some_iff.1 h2
    exact ⟨ci, _, h4, h5, by rw [List.getElem?_append_left (by omega)]; exact h3⟩
   ·have h2 := hr (i - len) (by omega)
    rw [show len + (i - len) = i by omega] at h2
    have h3 : rest[i - len]? = some (rest[i - len]'(by omega)) := List.getElem?_eq_getElem (by omega)
    rw [h3] at h2
    obtain ⟨ci, h4, h5⟩ := Option.bind_eq_some_iff.1 h2
    exact ⟨ci, _, h4, h5, by rw [List.getElem?_append_right (by omega), hlen]; exact h3⟩
  have rd : ∀ i, i < cap → ∀ j, j < ks.length → ∀ ci, w.cells? 0 (a.add (i * ks.length)) ks.length = some ci → c[a.off + i * ks.length + j]? = ci[j]? := by
   intro i hi j hj ci hci
   have h1 := (World.cells?_some hci).2.2 j hj
   rw [bo hs, bo rfl] at h1
   rw [← h1]
   unfold World.cell?
   simp [hblk]
  have hsz : cap = 0 ∨ a.off + cap * ks.length ≤ c.size := by
   by_cases hcap : cap = 0
   ·exact .inl hcap
   ·right
    obtain ⟨ci, y, h1, _, _⟩ := each (cap - 1) (by omega)
    have h2 := rd (cap - 1) (by omega) (ks.length - 1) (by omega) ci h1
    have hcl := (World.cells?_some h1).2.1
    rw [List.getElem?_eq_getElem (by omega)] at h2
    have h3 := (Array.getElem?_eq_some_iff.1 h2).1
    have h4 : cap * ks.length = (cap - 1) * ks.length + ks.length := by
     rw [← Nat.succ_mul]; congr 1; omega
    omega
  have hsz2 : a.off + len * ks.length ≤ c.size ∨ len = 0 := by
   rcases hsz with h | h
   ·right; omega
   ·left
    have := Nat.mul_le_mul_right ks.length hlc
    omega
  refine ⟨_, rfl, .inr ⟨a, len, cap, c, t', fr, (c.toList.drop a.off).take (len * ks.length), rfl, hs, hlc, hm, hblk, hsz, ?_, ?_, ?_⟩, ?_⟩
  ·rw [List.length_take, List.length_drop]
   have hcz : c.toList.length = c.size := Array.length_toList
   rcases hsz2 with h | h
   ·omega
   ·subst h; omega
  ·intro i v hv
   rw [List.getElem?_take] at hv
   split at hv
   ·rw [List.getElem?_drop] at hv
    simpa using hv
   ·cases hv
  ·intro i hi
   obtain ⟨ci, y, h1, h2, _⟩ := each i (by omega)
   obtain ⟨_, h3, _⟩ := mQ 20 e ks he w 0 _ held n ci y h2
   have hcl := (World.cells?_some h1).2.1
   have : (((c.toList.drop a.off).take (len * ks.length)).drop (i * ks.length)).take ks.length = ci := by
    apply List.ext_getElem?
    intro j
    by_cases hj : j < ks.length
    ·have hle : i * ks.length + ks.length ≤ len * ks.length := by
      have := Nat.mul_le_mul_right ks.length (show i + 1 ≤ len by omega)
      rw [Nat.add_mul, Nat.one_mul] at this; exact this
     rw [List.getElem?_take, if_pos hj, List.getElem?_drop, List.getElem?_take, if_pos (by omega), List.getElem?_drop, ← rd i (by omega) j hj ci h1]
     rw [Array.getElem?_toList, Nat.add_assoc]
    ·rw [List.getElem?_eq_none (by rw [List.length_take]; omega), List.getElem?_eq_none (by omega)]
   rw [this]; exact h3
  ·intro w' s' hw hs'
   have hcell : ∀ i, i < cap → w'.cells? 0 (a.add (i * ks.length)) ks.length = w.cells? 0 (a.add (i * ks.length)) ks.length := by
    intro i hi
    unfold World.cells?
    have : ∀ j, w'.cell? ((a.add (i * ks.length)).add j) = w.cell? ((a.add (i * ks.length)).add j) := by
     intro j
     rw [bo hs, bo rfl]
     unfold World.cell?
     rw [hw _ hlt]
    simp only [this]
   have el : ∀ i, i < cap → (w'.cells? 0 (a.add (i * P.cellsOf e)) (P.cellsOf e)).bind (DataW.trod enc P w' 0 s' held n e) = (elems ++ rest)[i]? := by
    intro i hi
    rw [hc, hcell i hi]
    obtain ⟨ci, y, h1, h2, h3⟩ := each i hi
    rw [h1, h3, Option.bind_some]
    exact (mQ 20 e ks he w 0 _ held n ci y h2).2.2 w' 0 s' held
   have el0 : ∀ i, i < cap → (w.cells? 0 (a.add (i * P.cellsOf e)) (P.cellsOf e)).bind (DataW.trod enc P w 0 (fun _ => true) held n e) = (elems ++ rest)[i]? := by
    intro i hi
    rw [hc]
    obtain ⟨ci, y, h1, h2, h3⟩ := each i hi
    rw [h1, h3, Option.bind_some]
    exact h2
   unfold DataW.trod at hx0 ⊢
   simp only [ht] at hx0 ⊢
   rw [if_pos ⟨Nat.zero_le _, hlc, hm⟩] at hx0 ⊢
   rw [fK (fun i hi => (el i (by have := List.mem_range.1 hi; omega)).trans (el0 i (by have := List.mem_range.1 hi; omega)).symm)]
   rw [fK (l := List.range (cap - len)) (fun j hj => (el (len + j) (by have := List.mem_range.1 hj; omega)).trans (el0 (len + j) (by have := List.mem_range.1 hj; omega)).symm)]
   rw [hs' _ hlt]
   exact hx0
theorem ckF_ok {F : TypeId → Option (List CK2)} {w : World} {held : Bool} {fuel : Nat} (cs : List Value) (hl : ∀ v ∈ cs, Lies w v)
  (hF : ∀ t ks, F t = some ks → ∀ cs (x : DataW H × List MemPlace), (∀ v ∈ cs, Lies w v) → DataW.trod enc P w 0 (fun _ => true) held fuel t cs = some x → dd w ks cs ∧ ∀ (w' : World) (s' : Nat → Bool), (∀ b, b < w.heap.size → w'.heap[b]? = w.heap[b]?) → (∀ b, b < w.heap.size → s' b = true) → DataW.trod enc P w' 0 s' held fuel t cs = some x) :
  ∀ (fs : List Field) (off : Nat) (ks : List CK2) (xs : List (DataW H × List MemPlace)), ckF F fs off = some ks → fs.mapM (fun f => DataW.trod enc P w 0 (fun _ => true) held fuel f.type ((cs.drop f.offset).take (P.cellsOf f.type))) = some xs →
   dd w ks ((cs.drop off).take ks.length) ∧ ∀ (w' : World) (s' : Nat → Bool), (∀ b, b < w.heap.size → w'.heap[b]? = w.heap[b]?) → (∀ b, b < w.heap.size → s' b = true) → fs.mapM (fun f => DataW.trod enc P w' 0 s' held fuel f.type ((cs.drop f.offset).take (P.cellsOf f.type))) = some xs
 | [], off, ks, xs, h1, h2 => by
  simp only [ckF, Option.some.injEq] at h1
  subst h1
  simp only [List.mapM_nil, Option.pure_def, Option.some.injEq] at h2
  subst h2
  refine ⟨by simp [dd], fun _ _ _ _ => by simp⟩
 | f :: fs, off, ks, xs, h1, h2 => by
  simp only [ckF] at h1
  split at h1
  ·rename_i k1 e1 e2
   obtain ⟨k2, e3, rfl⟩ := Option.map_eq_some_iff.1 h1
   have e1 := Nat.eq_of_beq_eq_true e1
   rw [List.mapM_cons] at h2
   obtain ⟨x, h3, h2⟩ := Option.bind_eq_some_iff.1 h2
   obtain ⟨ys, h4, h2⟩ := Option.bind_eq_some_iff.1 h2
   cases h2
   obtain ⟨a2, a3⟩ := hF _ _ e2 _ _ (fun v hv => hl v (List.mem_of_mem_drop (List.mem_of_mem_take hv))) h3
   obtain ⟨b2, b3⟩ := ckF_ok cs hl hF fs _ k2 ys e3 h4
   refine ⟨?_, fun w' s' hw hs' => ?_⟩
   ·rw [List.length_append, List.take_add]
    refine dd.app ?_ (by rw [List.drop_drop]; exact b2)
    have hl := dd.len a2
    rw [e1] at a2 hl
    rw [← hl, gk]
    exact a2
   ·rw [List.mapM_cons, a3 w' s' hw hs', b3 w' s' hw hs']
    rfl
  ·cases h1
theorem ckT_ok : ∀ (d : Nat) (t : TypeId) (ks : List CK2), ckT P d t = some ks → ∀ (w : World) (held : Bool) (fuel : Nat) (cs : List Value) (x : DataW H × List MemPlace), (∀ v ∈ cs, Lies w v) → DataW.trod enc P w 0 (fun _ => true) held fuel t cs = some x →
  dd w ks cs ∧ ∀ (w' : World) (s' : Nat → Bool), (∀ b, b < w.heap.size → w'.heap[b]? = w.heap[b]?) → (∀ b, b < w.heap.size → s' b = true) → DataW.trod enc P w' 0 s' held fuel t cs = some x
 | 0, _, _, h => by cases h
 | d + 1, t, ks, h => by
  intro w held fuel cs x hl hx
  simp only [ckT] at h
  split at h
  ·rename_i k e
   cases h
   obtain ⟨n, rfl, rfl, hw⟩ := DataW.trod_int e hx
   refine ⟨⟨⟨n, rfl, hw⟩, trivial⟩, fun w' s' _ _ => ?_⟩
   cases fuel with
   | zero => simp [DataW.trod] at hx
   | succ m => simp [DataW.trod, e, hw]
  ·rename_i e
   cases h
   obtain ⟨n, rfl, rfl⟩ := DataW.trod_bool e hx
   refine ⟨⟨⟨n, rfl⟩, trivial⟩, fun w' s' _ _ => ?_⟩
   cases fuel with
   | zero => simp [DataW.trod] at hx
   | succ m => simp [DataW.trod, e]
  ·rename_i e e0
   split at h
   ·rename_i k2 e2
    split at h
    ·rename_i e3
     cases h
     simp only [Bool.and_eq_true, Nat.blt_eq] at e3
     obtain ⟨v, rfl, a2, a3⟩ := slice_ok e0 e2 (Nat.eq_of_beq_eq_true e3.1) e3.2 rfl hx hl
     exact ⟨⟨a2, trivial⟩, a3⟩
    ·cases h
   ·cases h
  ·rename_i fs e
   split at h
   ·rename_i k2 e2
    split at h
    ·rename_i e3
     cases h
     have e3 := Nat.eq_of_beq_eq_true e3
     cases fuel with
     | zero => simp [DataW.trod] at hx
     | succ m =>
      simp only [DataW.trod, e] at hx
      split at hx
      ·rename_i hlen
       obtain ⟨xs, h5, rfl⟩ := Option.map_eq_some_iff.1 hx
       obtain ⟨a2, a3⟩ := ckF_ok cs hl (fun t ks h cs x hl hx => ckT_ok d t ks h w held m cs x hl hx) fs.toList 0 ks xs e2 h5
       rw [List.drop_zero, List.take_of_length_le (by omega)] at a2
       refine ⟨a2, fun w' s' hw hs' => ?_⟩
       simp only [DataW.trod, e, hlen, if_true]
       rw [a3 w' s' hw hs']
       rfl
      ·cases hx
    ·cases h
   ·cases h
  ·cases h
abbrev Blk2 := HObj × Option Pl
def ng (w : World) (b : Blk2) : Prop := b.1 = .dead ∨ ∃ vs e p c t fr, b.1 = .cells vs e false ∧ b.2 = some p ∧ p.esz = e ∧ vs.all flat = true ∧ vs.all aV = true ∧ vs.length ≤ p.room ∧ w.heap[p.b]? = some (.cells c t fr) ∧ c.size = p.o + p.room ∧ ∀ (i : Nat) v, vs[i]? = some v → c[p.o + i]? = some v
theorem jx : ∀ {ks : List LK} {vs : List Value}, FitC ks vs → vs.all flat = true ∧ vs.all aV = true
 | [], [], _ => ⟨rfl, rfl⟩
 | .i k :: ks, v :: vs, h => by
  obtain ⟨⟨n, rfl, _⟩, h2⟩ := h
  obtain ⟨a, b⟩ := jx h2
  exact ⟨by simp [a, flat, dI, scalar], by simp [b]; rfl⟩
 | .b :: ks, v :: vs, h => by
  obtain ⟨⟨n, rfl⟩, h2⟩ := h
  obtain ⟨a, b⟩ := jx h2
  exact ⟨by simp [a, flat, dI, scalar], by simp [b]; rfl⟩
 | .v :: _, _, h => by cases h
 | [], _ :: _, h => by cases h
 | .i _ :: _, [], h => by cases h
 | .b :: _, [], h => by cases h
theorem oX {ks : List LK} (hk : 0 < ks.length) {cells : List Value} {n : Nat} (hl : cells.length = n * ks.length) (h : ∀ i, i < n → FitC ks ((cells.drop (i * ks.length)).take ks.length)) : cells.all flat = true ∧ cells.all aV = true := by
 have main : ∀ j, j < cells.length → ∃ v, cells[j]? = some v ∧ flat v = true ∧ aV v = true := by
  intro j hj
  have h1 : j / ks.length < n := by
   rw [Nat.div_lt_iff_lt_mul hk]; omega
  obtain ⟨a, b⟩ := jx (h _ h1)
  have hm := Nat.mod_lt j hk
  have hd := Nat.div_add_mod j ks.length
  have hmem : ((cells.drop (j / ks.length * ks.length)).take ks.length)[j % ks.length]? = some cells[j] := by
   rw [List.getElem?_take, if_pos hm, List.getElem?_drop]
   rw [show j / ks.length * ks.length + j % ks.length = j by rw [Nat.mul_comm]; exact hd]
   exact List.getElem?_eq_getElem hj
  exact ⟨_, List.getElem?_eq_getElem hj, List.all_eq_true.1 a _ (List.mem_of_getElem? hmem), List.all_eq_true.1 b _ (List.mem_of_getElem? hmem)⟩
 constructor <;>
 ·rw [List.all_eq_true]
  intro v hv
  obtain ⟨j, hj⟩ := List.getElem?_of_mem hv
  have hlt : j < cells.length := by
   rcases Nat.lt_or_ge j cells.length with h | h
   ·exact h
   ·rw [List.getElem?_eq_none h] at hj; cases hj
  obtain ⟨v', h1, h2, h3⟩ := main j hlt
  rw [hj] at h1
  cases h1
  first | exact h2 | exact h3
section
variable [Val]
theorem cell_abs {w : World} {ck : CK2} {v : Value} (hp : ∀ ks, ck = .s ks → 0 < ks.length) (h : CellFit w ck v) (n0 : Nat) : ∃ (x : SL) (bl : List Blk2), (∀ b ∈ bl, ng w b) ∧ x.is ck.lk = true ∧ x.good ∧
  (∀ mu : HMap, (∀ (i : Nat) b, bl[i]? = some b → mu (n0 + i) = b.2) → VR noL mu x.val v) ∧ ∀ hp : HL, (∀ (i : Nat) b, bl[i]? = some b → hp[n0 + i]? = some (.o b.1)) → bd hp [ck] [x.lf] := by
 cases ck with
 | i k =>
  obtain ⟨n, rfl, hw⟩ := h
  exact ⟨.i k n, [], by simp, by simp [SL.is, CK2.lk, cT], trivial, fun mu _ => .scalar rfl, fun hp _ => ⟨hw, trivial⟩⟩
 | b =>
  obtain ⟨t, rfl⟩ := h
  exact ⟨.b t, [], by simp, rfl, trivial, fun mu _ => .scalar rfl, fun hp _ => trivial⟩
 | s ks =>
  have hk := hp ks rfl
  rcases h with rfl | ⟨a, len, cap, c, t, fr, cells, rfl, hs, hlc, hm, hblk, hsz, hcl, hget, hfit⟩
  ·refine ⟨.v (.slice none 0 0), [], by simp, rfl, rfl, fun mu _ => .scalar rfl, fun hp _ => ⟨⟨0, [], ⟨by simp, .inl ⟨rfl, rfl⟩⟩, Nat.zero_le _, fun i hi => by omega⟩, trivial⟩⟩
  ·obtain ⟨hf1, hf2⟩ := oX hk hcl hfit
   have gd : bP (.slice (some ⟨n0, 0, tag ks.length⟩) len 0) = true := by simp [bP, noLoc, bw, cE, bW, bp, aM, tag]
   have ha : a = ⟨a.block, a.off, none⟩ := by cases a; cases hs; rfl
   have fit : ∀ hp : HL, hp[n0]? = some (.o (.cells cells ks.length false)) → bd hp [.s ks] [.v (.slice (some ⟨n0, 0, tag ks.length⟩) len 0)] := fun hp h1 =>
    ⟨⟨len, cells, ⟨hcl, .inr ⟨n0, 0, 0, cells, false, rfl, h1, cut_all hcl⟩⟩, by omega, hfit⟩, trivial⟩
   by_cases hcap : cap = 0
   ·subst hcap
    obtain rfl : len = 0 := by omega
    have hce : cells = [] := List.eq_nil_of_length_eq_zero (by omega)
    subst hce
    refine ⟨.v (.slice (some ⟨n0, 0, tag ks.length⟩) 0 0), [(.cells [] ks.length false, some ⟨a.block, c.size, 0, ks.length⟩)], fun b hb => ?_, rfl, gd, fun mu _ => .hslice0 (Nat.zero_le _), fun hp h1 => fit hp (h1 0 _ rfl)⟩
    simp only [List.mem_singleton] at hb
    subst hb
    exact .inr ⟨[], ks.length, _, c, t, fr, rfl, rfl, rfl, rfl, rfl, Nat.zero_le _, hblk, by simp, fun i v hv => by simp at hv⟩
   ·have hsz : a.off + cap * ks.length ≤ c.size := hsz.resolve_left hcap
    have hle := Nat.mul_le_mul_right ks.length hlc
    refine ⟨.v (.slice (some ⟨n0, 0, tag ks.length⟩) len 0), [(.cells cells ks.length false, some ⟨a.block, a.off, c.size - a.off, ks.length⟩)], fun b hb => ?_, rfl, gd, fun mu h1 => ?_, fun hp h1 => fit hp (h1 0 _ rfl)⟩
    ·simp only [List.mem_singleton] at hb
     subst hb
     exact .inr ⟨cells, ks.length, _, c, t, fr, rfl, rfl, rfl, hf1, hf2, by show cells.length ≤ c.size - a.off; omega, hblk, by show c.size = a.off + (c.size - a.off); omega, hget⟩
    ·have h2 := h1 0 _ rfl
     rw [ha]
     have := VR.hslice (la := noL) (mu := mu) (id := n0) (off := 0) (len := len) (cap := cap) (cx := 0) h2 (by show 0 + cap * ks.length ≤ c.size - a.off; omega) hlc (.inl rfl)
     exact this
theorem ox {w : World} : ∀ {cks : List CK2} {vs : List Value}, (∀ ks, CK2.s ks ∈ cks → 0 < ks.length) → dd w cks vs → ∀ n0, ∃ (xs : List SL) (bl : List Blk2), (∀ b ∈ bl, ng w b) ∧ aI xs (cks.map CK2.lk) = true ∧ (∀ x ∈ xs, x.good) ∧ xs.length = vs.length ∧
  (∀ mu : HMap, (∀ (i : Nat) b, bl[i]? = some b → mu (n0 + i) = b.2) → VRs noL mu (xs.map SL.val) vs) ∧ ∀ hp : HL, (∀ (i : Nat) b, bl[i]? = some b → hp[n0 + i]? = some (.o b.1)) → bd hp cks (xs.map SL.lf)
 | [], [], _, _, n0 => ⟨[], [], by simp, rfl, by simp, rfl, fun mu _ => ⟨rfl, fun i x y h => by simp at h⟩, fun hp _ => trivial⟩
 | ck :: cks, v :: vs, hp, h, n0 => by
  obtain ⟨x, bl, a1, a2, a3, a4, a5⟩ := cell_abs (fun ks e => hp ks (by rw [e]; exact List.mem_cons_self)) h.1 n0
  obtain ⟨xs, bl', b1, b2, b3, b4, b5, b6⟩ := ox (fun ks e => hp ks (List.mem_cons_of_mem _ e)) h.2 (n0 + bl.length)
  have g1 : ∀ {α : Type} {f : Nat → α} {g : Blk2 → α}, (∀ (i : Nat) b, (bl ++ bl')[i]? = some b → f (n0 + i) = g b) → (∀ (i : Nat) b, bl[i]? = some b → f (n0 + i) = g b) ∧ ∀ (i : Nat) b, bl'[i]? = some b → f (n0 + bl.length + i) = g b := by
   intro α f g h
   refine ⟨fun i b hb => h i b ?_, fun i b hb => ?_⟩
   ·rw [List.getElem?_append_left (by
     rcases Nat.lt_or_ge i bl.length with h | h
     ·exact h
     ·rw [List.getElem?_eq_none h] at hb; cases hb)]; exact hb
   ·rw [Nat.add_assoc]
    refine h _ b ?_
    rw [List.getElem?_append_right (by omega), Nat.add_sub_cancel_left]; exact hb
  refine ⟨x :: xs, bl ++ bl', fun b hb => ?_, by simp [aI, a2, b2], fun y hy => ?_, by simp [b4], fun mu hmu => ?_, fun hp hh => ?_⟩
  ·rcases List.mem_append.1 hb with h | h
   ·exact a1 b h
   ·exact b1 b h
  ·rcases List.mem_cons.1 hy with rfl | hy
   ·exact a3
   ·exact b3 y hy
  ·obtain ⟨h1, h2⟩ := g1 (f := mu) (g := fun b => b.2) hmu
   have c1 := a4 mu h1
   obtain ⟨c2, c3⟩ := b5 mu h2
   refine ⟨by simpa using c2, fun i p q hi hj => ?_⟩
   cases i with
   | zero =>
    simp only [List.map_cons, List.getElem?_cons_zero, Option.some.injEq] at hi hj
    subst hi hj; exact c1
   | succ i => exact c3 i p q (by simpa using hi) (by simpa using hj)
  ·obtain ⟨h1, h2⟩ := g1 (f := fun i => hp[i]?) (g := fun b => some (HO.o b.1)) hh
   exact bd.app (a5 hp h1) (b6 hp h2)
 | [], _ :: _, _, h, _ => by cases h
 | _ :: _, [], _, h, _ => by cases h
end
end
end Sx
end Go.Am

